/- PROVED HERE: what the functions that the law FnExactFuncChecked reaches do in memory, each as a plain Lean function, and what these tell: part 4 of 6 of the proof of that law; no condition beyond those written out at each theorem. -/
import Derived.Deep.Slices
import Derived.ProofKit
import Derived.Test.YtebgkcjpocfmmaaGreatZFnExactFuncChecked0
import Derived.Test.YtebgkcjpocfmmaaGreatZFnExactFuncChecked1
import Derived.Test.YtebgkcjpocfmmaaGreatZFnExactFuncChecked2
namespace Go.Proofs.YtebgkcjpocfmmaaGreat.V
open Go
set_option linter.unusedVariables false
noncomputable section
/-! ### impl.isInst: function 154 -/
abbrev impl_isInst.R := (((Bool × Unit) × Unit) × Unit)
def impl_isInst.f (k : Nat) (a0 : tInstD) (a1 : Int) (a2 : Int) : Option impl_isInst.R := Option.bind (impl_within.f k a0.1 1 27) fun r1 => bif !r1.1.1.1 then (some (((false, ()), ()), ())) else (bif decide (4 < ((List.length a0.2.2.2.2.2.2.1 : Nat) : Int)) then (some (((false, ()), ()), ())) else (bif decide (0 < ((List.length a0.2.2.2.2.2.2.1 : Nat) : Int)) then (bif !decide (a0.1 = 26) then (some (((false, ()), ()), ())) else (Option.bind (impl_OperandsOf.f k a0) fun r2 => Option.bind (slices_ContainsFunc_int64_int64_3.f k r2.2.1 a1) fun r3 => bif r3.1.1.1 then (some (((false, ()), ()), ())) else (bif decide (a0.1 = 26) then (bif (decide (0 ≤ 0)) && (decide (0 ≤ ((List.length [a0.2.2.1, a0.2.2.2.1, a0.2.2.2.2.1] : Nat) : Int))) then (Option.bind (slices_ContainsFunc_int64_int64_4.f k [a0.2.2.1, a0.2.2.2.1, a0.2.2.2.2.1]) fun r4 => bif r4.1.1.1 then (some (((false, ()), ()), ())) else (Option.bind (impl_isWidth.f k a0) fun r5 => bif r5.1.1.1 then (Option.bind (impl_isImm.f k a0 a2) fun r6 => some (((r6.1.1.1, ()), ()), ())) else (some (((false, ()), ()), ())))) else none) else (bif (decide (0 ≤ ((List.length r2.2.1 : Nat) : Int))) && (decide (((List.length r2.2.1 : Nat) : Int) ≤ ((List.length [a0.2.2.1, a0.2.2.2.1, a0.2.2.2.2.1] : Nat) : Int))) then (Option.bind (slices_ContainsFunc_int64_int64_4.f k (List.drop (Int.toNat ((List.length r2.2.1 : Nat) : Int)) [a0.2.2.1, a0.2.2.2.1, a0.2.2.2.2.1])) fun r7 => bif r7.1.1.1 then (some (((false, ()), ()), ())) else (Option.bind (impl_isWidth.f k a0) fun r8 => bif r8.1.1.1 then (Option.bind (impl_isImm.f k a0 a2) fun r9 => some (((r9.1.1.1, ()), ()), ())) else (some (((false, ()), ()), ())))) else none)))) else (Option.bind (impl_OperandsOf.f k a0) fun r10 => Option.bind (slices_ContainsFunc_int64_int64_3.f k r10.2.1 a1) fun r11 => bif r11.1.1.1 then (some (((false, ()), ()), ())) else (bif decide (a0.1 = 26) then (bif (decide (0 ≤ 0)) && (decide (0 ≤ ((List.length [a0.2.2.1, a0.2.2.2.1, a0.2.2.2.2.1] : Nat) : Int))) then (Option.bind (slices_ContainsFunc_int64_int64_4.f k [a0.2.2.1, a0.2.2.2.1, a0.2.2.2.2.1]) fun r12 => bif r12.1.1.1 then (some (((false, ()), ()), ())) else (Option.bind (impl_isWidth.f k a0) fun r13 => bif r13.1.1.1 then (Option.bind (impl_isImm.f k a0 a2) fun r14 => some (((r14.1.1.1, ()), ()), ())) else (some (((false, ()), ()), ())))) else none) else (bif (decide (0 ≤ ((List.length r10.2.1 : Nat) : Int))) && (decide (((List.length r10.2.1 : Nat) : Int) ≤ ((List.length [a0.2.2.1, a0.2.2.2.1, a0.2.2.2.2.1] : Nat) : Int))) then (Option.bind (slices_ContainsFunc_int64_int64_4.f k (List.drop (Int.toNat ((List.length r10.2.1 : Nat) : Int)) [a0.2.2.1, a0.2.2.2.1, a0.2.2.2.2.1])) fun r15 => bif r15.1.1.1 then (some (((false, ()), ()), ())) else (Option.bind (impl_isWidth.f k a0) fun r16 => bif r16.1.1.1 then (Option.bind (impl_isImm.f k a0 a2) fun r17 => some (((r17.1.1.1, ()), ()), ())) else (some (((false, ()), ()), ())))) else none)))))
def impl_isInst.s (k : Nat) : FS := ⟨[⟨true, [.int .i64, .int .i64, .int .i64, .int .i64, .int .i64, .int .i64, .lst (.int .i64)]⟩, ⟨false, [.int .i64]⟩, ⟨false, [.int .i64]⟩], [], false, [⟨false, [.bool]⟩], [], [], fun x => impl_isInst.f k x.1.1 x.1.2.1.1 x.1.2.2.1.1⟩
def impl_isInst.E (k : Nat) : Ents := [(⟨41, []⟩, impl_within.s k), (⟨164, []⟩, impl_OperandsOf.s k), (⟨148, [185]⟩, slices_ContainsFunc_int64_int64_3.s k), (⟨148, [186]⟩, slices_ContainsFunc_int64_int64_4.s k), (⟨187, []⟩, impl_isWidth.s k), (⟨188, []⟩, impl_isImm.s k)]
def impl_isInst.L : List (LS impl_isInst.R) := []
def impl_isInst.c : Code := Tryz.f154.body.getD .skip
theorem impl_isInst.eq (k : Nat) (x) : (impl_isInst.s k).pf x = execF tab (impl_isInst.E k) Tryz.f154 impl_isInst.c (impl_isInst.s k) impl_isInst.L x := by kernel_rfl
theorem impl_isInst.sound : ∀ k, Sound Tryz.prog 154 (impl_isInst.s k) := sound_of mixed tab_ok (f := 154) (fn := Tryz.f154) (c := impl_isInst.c) (by kernel_rfl) (by kernel_rfl) (by kernel_rfl) ⟨[⟨true, [.int .i64, .int .i64, .int .i64, .int .i64, .int .i64, .int .i64, .lst (.int .i64)]⟩, ⟨false, [.int .i64]⟩, ⟨false, [.int .i64]⟩], [], false, [⟨false, [.bool]⟩], [], []⟩ (by kernel_rfl) (by kernel_rfl) (fun k => (impl_isInst.s k).pf) impl_isInst.E (fun k => (EntsOK.cons (impl_within.sound k) (EntsOK.cons (impl_OperandsOf.sound k) (EntsOK.cons (slices_ContainsFunc_int64_int64_3.sound k) (EntsOK.cons (slices_ContainsFunc_int64_int64_4.sound k) (EntsOK.cons (impl_isWidth.sound k) (EntsOK.cons (impl_isImm.sound k) EntsOK.nil))))))) (fun k => impl_isInst.L) (fun k => trivial) trivial (fun k => trivial) impl_isInst.eq
end
end Go.Proofs.YtebgkcjpocfmmaaGreat.V
namespace Go.Proofs.YtebgkcjpocfmmaaGreat.V
open Go
set_option linter.unusedVariables false
noncomputable section
/-! ### impl.isFunc$3: function 153 -/
abbrev impl_isFunc_3.R := (((Bool × Unit) × Unit) × Unit)
def impl_isFunc_3.f (k : Nat) (a0 : tInstD) (a1 : Int) (a2 : Int) : Option impl_isFunc_3.R := Option.bind (impl_isInst.f k a0 a1 a2) fun r1 => some (((!r1.1.1.1, ()), ()), ())
def impl_isFunc_3.s (k : Nat) : FS := ⟨[⟨true, [.int .i64, .int .i64, .int .i64, .int .i64, .int .i64, .int .i64, .lst (.int .i64)]⟩, ⟨false, [.ptr 0 0]⟩, ⟨false, [.ptr 1 0]⟩], [(0, .cbox [.int .i64]), (1, .cbox [.int .i64])], false, [⟨false, [.bool]⟩], [], [], fun x => impl_isFunc_3.f k x.1.1 x.2.1.1 x.2.2.1.1⟩
def impl_isFunc_3.E (k : Nat) : Ents := [(⟨154, []⟩, impl_isInst.s k)]
def impl_isFunc_3.L : List (LS impl_isFunc_3.R) := []
def impl_isFunc_3.c : Code := Tryz.f153.body.getD .skip
theorem impl_isFunc_3.eq (k : Nat) (x) : (impl_isFunc_3.s k).pf x = execF tab (impl_isFunc_3.E k) Tryz.f153 impl_isFunc_3.c (impl_isFunc_3.s k) impl_isFunc_3.L x := by kernel_rfl
theorem impl_isFunc_3.sound : ∀ k, Sound Tryz.prog 153 (impl_isFunc_3.s k) := sound_of mixed tab_ok (f := 153) (fn := Tryz.f153) (c := impl_isFunc_3.c) (by kernel_rfl) (by kernel_rfl) (by kernel_rfl) ⟨[⟨true, [.int .i64, .int .i64, .int .i64, .int .i64, .int .i64, .int .i64, .lst (.int .i64)]⟩, ⟨false, [.ptr 0 0]⟩, ⟨false, [.ptr 1 0]⟩], [(0, .cbox [.int .i64]), (1, .cbox [.int .i64])], false, [⟨false, [.bool]⟩], [], []⟩ (by kernel_rfl) (by kernel_rfl) (fun k => (impl_isFunc_3.s k).pf) impl_isFunc_3.E (fun k => (EntsOK.cons (impl_isInst.sound k) EntsOK.nil)) (fun k => impl_isFunc_3.L) (fun k => trivial) trivial (fun k => trivial) impl_isFunc_3.eq
end
end Go.Proofs.YtebgkcjpocfmmaaGreat.V
namespace Go.Proofs.YtebgkcjpocfmmaaGreat.V
open Go
set_option linter.unusedVariables false
noncomputable section
/-! ### slices.IndexFunc[[]impl.Inst,impl.Inst]: function 161 -/
abbrev slices_IndexFunc_impl_Inst_impl_Inst.R := (((Int × Unit) × Unit) × Unit)
def slices_IndexFunc_impl_Inst_impl_Inst.l0_ (k : Nat) (l0 : (List tInstD) → Int → Int → Int → Int → Option slices_IndexFunc_impl_Inst_impl_Inst.R) (a0 : List tInstD) (a1 : Int) (a2 : Int) (a3 : Int) (a4 : Int) : Option slices_IndexFunc_impl_Inst_impl_Inst.R := bif decide (a2 < a1) then (bif (decide (0 ≤ a2)) && (decide (a2 < ((List.length a0 : Nat) : Int))) then (Option.bind (impl_isFunc_3.f k (List.getD a0 (Int.toNat a2) tInstZ) a3 a4) fun r1 => bif r1.1.1.1 then (some (((a2, ()), ()), ())) else (l0 a0 a1 (IntKind.wrap .i64 (a2 + 1)) a3 a4)) else none) else (some (((-1, ()), ()), ()))
def slices_IndexFunc_impl_Inst_impl_Inst.all : Nat → ((List tInstD) → Int → Int → Int → Int → Option slices_IndexFunc_impl_Inst_impl_Inst.R) × Unit
  | 0 => (fun _ _ _ _ _ => none, ())
  | k + 1 => (slices_IndexFunc_impl_Inst_impl_Inst.l0_ k (slices_IndexFunc_impl_Inst_impl_Inst.all k).1, ())
def slices_IndexFunc_impl_Inst_impl_Inst.l0 (k : Nat) : (List tInstD) → Int → Int → Int → Int → Option slices_IndexFunc_impl_Inst_impl_Inst.R := (slices_IndexFunc_impl_Inst_impl_Inst.all k).1
def slices_IndexFunc_impl_Inst_impl_Inst.f (k : Nat) (a0 : List tInstD) (a1 : Int) (a2 : Int) : Option slices_IndexFunc_impl_Inst_impl_Inst.R := slices_IndexFunc_impl_Inst_impl_Inst.l0 k a0 ((List.length a0 : Nat) : Int) 0 a1 a2
def slices_IndexFunc_impl_Inst_impl_Inst.s (k : Nat) : FS := ⟨[⟨false, [.lst tInst]⟩, ⟨false, [.fn 153 [(0, 0), (1, 0)]]⟩], [(0, .cbox [.int .i64]), (1, .cbox [.int .i64])], false, [⟨false, [.int .i64]⟩], [], [], fun x => slices_IndexFunc_impl_Inst_impl_Inst.f k x.1.1.1 x.2.1.1 x.2.2.1.1⟩
def slices_IndexFunc_impl_Inst_impl_Inst.E (k : Nat) : Ents := [(⟨153, []⟩, impl_isFunc_3.s k)]
def slices_IndexFunc_impl_Inst_impl_Inst.L0 (l : (List tInstD) → Int → Int → Int → Int → Option slices_IndexFunc_impl_Inst_impl_Inst.R) : LS slices_IndexFunc_impl_Inst_impl_Inst.R := ⟨[], [(0, ⟨false, [.lst tInst]⟩), (1, ⟨false, [.fn 153 [(0, 0), (1, 0)]]⟩), (7, ⟨false, [.int .i64]⟩), (8, ⟨false, [.int .i64]⟩)], [(0, .cbox [.int .i64]), (1, .cbox [.int .i64])], fun x => l x.1.1.1 x.1.2.2.1.1 x.1.2.2.2.1.1 x.2.1.1 x.2.2.1.1⟩
def slices_IndexFunc_impl_Inst_impl_Inst.L (l0 : (List tInstD) → Int → Int → Int → Int → Option slices_IndexFunc_impl_Inst_impl_Inst.R) : List (LS slices_IndexFunc_impl_Inst_impl_Inst.R) := [slices_IndexFunc_impl_Inst_impl_Inst.L0 l0]
def slices_IndexFunc_impl_Inst_impl_Inst.c : Code := Tryz.f161.body.getD .skip
theorem slices_IndexFunc_impl_Inst_impl_Inst.eq (k : Nat) (x) : (slices_IndexFunc_impl_Inst_impl_Inst.s k).pf x = execF tab (slices_IndexFunc_impl_Inst_impl_Inst.E k) Tryz.f161 slices_IndexFunc_impl_Inst_impl_Inst.c (slices_IndexFunc_impl_Inst_impl_Inst.s k) (slices_IndexFunc_impl_Inst_impl_Inst.L (slices_IndexFunc_impl_Inst_impl_Inst.l0 k)) x := by kernel_rfl
theorem slices_IndexFunc_impl_Inst_impl_Inst.r0 (l0 : (List tInstD) → Int → Int → Int → Int → Option slices_IndexFunc_impl_Inst_impl_Inst.R) (k : Nat) (x) : slices_IndexFunc_impl_Inst_impl_Inst.l0_ k l0 x.1.1.1 x.1.2.2.1.1 x.1.2.2.2.1.1 x.2.1.1 x.2.2.1.1 = roundOf tab (slices_IndexFunc_impl_Inst_impl_Inst.E k) (slices_IndexFunc_impl_Inst_impl_Inst.L l0) slices_IndexFunc_impl_Inst_impl_Inst.c (fin tab Tryz.f161 (slices_IndexFunc_impl_Inst_impl_Inst.s k)) 0 (slices_IndexFunc_impl_Inst_impl_Inst.L0 l0) x := by kernel_rfl
theorem slices_IndexFunc_impl_Inst_impl_Inst.sound : ∀ k, Sound Tryz.prog 161 (slices_IndexFunc_impl_Inst_impl_Inst.s k) := sound_of mixed tab_ok (f := 161) (fn := Tryz.f161) (c := slices_IndexFunc_impl_Inst_impl_Inst.c) (by kernel_rfl) (by kernel_rfl) (by kernel_rfl) ⟨[⟨false, [.lst tInst]⟩, ⟨false, [.fn 153 [(0, 0), (1, 0)]]⟩], [(0, .cbox [.int .i64]), (1, .cbox [.int .i64])], false, [⟨false, [.int .i64]⟩], [], []⟩ (by kernel_rfl) (by kernel_rfl) (fun k => (slices_IndexFunc_impl_Inst_impl_Inst.s k).pf) slices_IndexFunc_impl_Inst_impl_Inst.E (fun k => (EntsOK.cons (impl_isFunc_3.sound k) EntsOK.nil)) (fun k => slices_IndexFunc_impl_Inst_impl_Inst.L (slices_IndexFunc_impl_Inst_impl_Inst.l0 k)) (fun k => ⟨rfl, trivial⟩) ⟨fun _ => rfl, trivial⟩ (fun k => ⟨⟨(slices_IndexFunc_impl_Inst_impl_Inst.L0 (slices_IndexFunc_impl_Inst_impl_Inst.l0 (k + 1))).l, rfl, fun x => slices_IndexFunc_impl_Inst_impl_Inst.r0 (slices_IndexFunc_impl_Inst_impl_Inst.l0 k) k x⟩, trivial⟩) slices_IndexFunc_impl_Inst_impl_Inst.eq
end
end Go.Proofs.YtebgkcjpocfmmaaGreat.V
namespace Go.Proofs.YtebgkcjpocfmmaaGreat.V
open Go
set_option linter.unusedVariables false
noncomputable section
/-! ### slices.ContainsFunc[[]impl.Inst,impl.Inst]: function 91 -/
abbrev slices_ContainsFunc_impl_Inst_impl_Inst.R := (((Bool × Unit) × Unit) × Unit)
def slices_ContainsFunc_impl_Inst_impl_Inst.f (k : Nat) (a0 : List tInstD) (a1 : Int) (a2 : Int) : Option slices_ContainsFunc_impl_Inst_impl_Inst.R := Option.bind (slices_IndexFunc_impl_Inst_impl_Inst.f k a0 a1 a2) fun r1 => some (((decide (0 ≤ r1.1.1.1), ()), ()), ())
def slices_ContainsFunc_impl_Inst_impl_Inst.s (k : Nat) : FS := ⟨[⟨false, [.lst tInst]⟩, ⟨false, [.fn 153 [(0, 0), (1, 0)]]⟩], [(0, .cbox [.int .i64]), (1, .cbox [.int .i64])], false, [⟨false, [.bool]⟩], [], [], fun x => slices_ContainsFunc_impl_Inst_impl_Inst.f k x.1.1.1 x.2.1.1 x.2.2.1.1⟩
def slices_ContainsFunc_impl_Inst_impl_Inst.E (k : Nat) : Ents := [(⟨161, [153]⟩, slices_IndexFunc_impl_Inst_impl_Inst.s k)]
def slices_ContainsFunc_impl_Inst_impl_Inst.L : List (LS slices_ContainsFunc_impl_Inst_impl_Inst.R) := []
def slices_ContainsFunc_impl_Inst_impl_Inst.c : Code := Tryz.f91.body.getD .skip
theorem slices_ContainsFunc_impl_Inst_impl_Inst.eq (k : Nat) (x) : (slices_ContainsFunc_impl_Inst_impl_Inst.s k).pf x = execF tab (slices_ContainsFunc_impl_Inst_impl_Inst.E k) Tryz.f91 slices_ContainsFunc_impl_Inst_impl_Inst.c (slices_ContainsFunc_impl_Inst_impl_Inst.s k) slices_ContainsFunc_impl_Inst_impl_Inst.L x := by kernel_rfl
theorem slices_ContainsFunc_impl_Inst_impl_Inst.sound : ∀ k, Sound Tryz.prog 91 (slices_ContainsFunc_impl_Inst_impl_Inst.s k) := sound_of mixed tab_ok (f := 91) (fn := Tryz.f91) (c := slices_ContainsFunc_impl_Inst_impl_Inst.c) (by kernel_rfl) (by kernel_rfl) (by kernel_rfl) ⟨[⟨false, [.lst tInst]⟩, ⟨false, [.fn 153 [(0, 0), (1, 0)]]⟩], [(0, .cbox [.int .i64]), (1, .cbox [.int .i64])], false, [⟨false, [.bool]⟩], [], []⟩ (by kernel_rfl) (by kernel_rfl) (fun k => (slices_ContainsFunc_impl_Inst_impl_Inst.s k).pf) slices_ContainsFunc_impl_Inst_impl_Inst.E (fun k => (EntsOK.cons (slices_IndexFunc_impl_Inst_impl_Inst.sound k) EntsOK.nil)) (fun k => slices_ContainsFunc_impl_Inst_impl_Inst.L) (fun k => trivial) trivial (fun k => trivial) slices_ContainsFunc_impl_Inst_impl_Inst.eq
end
end Go.Proofs.YtebgkcjpocfmmaaGreat.V
namespace Go.Proofs.YtebgkcjpocfmmaaGreat.V
open Go
set_option linter.unusedVariables false
noncomputable section
/-! ### impl.isTerm$1: function 189 -/
abbrev impl_isTerm_1.R := (((Bool × Unit) × Unit) × Unit)
def impl_isTerm_1.f (k : Nat) (a0 : Int) (a1 : tFuncD) : Option impl_isTerm_1.R := Option.bind (impl_within.f k a0 0 (IntKind.wrap .i64 (((List.length a1.2.2.1 : Nat) : Int) - 1))) fun r1 => some (((r1.1.1.1, ()), ()), ())
def impl_isTerm_1.s (k : Nat) : FS := ⟨[⟨false, [.int .i64]⟩, ⟨false, [.ptr 0 0]⟩], [(0, .cbox [.lst (.int .i64), .int .i64, .lst tBlock])], false, [⟨false, [.bool]⟩], [], [], fun x => impl_isTerm_1.f k x.1.1.1 x.2.1⟩
def impl_isTerm_1.E (k : Nat) : Ents := [(⟨41, []⟩, impl_within.s k)]
def impl_isTerm_1.L : List (LS impl_isTerm_1.R) := []
def impl_isTerm_1.c : Code := Tryz.f189.body.getD .skip
theorem impl_isTerm_1.eq (k : Nat) (x) : (impl_isTerm_1.s k).pf x = execF tab (impl_isTerm_1.E k) Tryz.f189 impl_isTerm_1.c (impl_isTerm_1.s k) impl_isTerm_1.L x := by kernel_rfl
theorem impl_isTerm_1.sound : ∀ k, Sound Tryz.prog 189 (impl_isTerm_1.s k) := sound_of mixed tab_ok (f := 189) (fn := Tryz.f189) (c := impl_isTerm_1.c) (by kernel_rfl) (by kernel_rfl) (by kernel_rfl) ⟨[⟨false, [.int .i64]⟩, ⟨false, [.ptr 0 0]⟩], [(0, .cbox [.lst (.int .i64), .int .i64, .lst tBlock])], false, [⟨false, [.bool]⟩], [], []⟩ (by kernel_rfl) (by kernel_rfl) (fun k => (impl_isTerm_1.s k).pf) impl_isTerm_1.E (fun k => (EntsOK.cons (impl_within.sound k) EntsOK.nil)) (fun k => impl_isTerm_1.L) (fun k => trivial) trivial (fun k => trivial) impl_isTerm_1.eq
end
end Go.Proofs.YtebgkcjpocfmmaaGreat.V
namespace Go.Proofs.YtebgkcjpocfmmaaGreat.V
open Go
set_option linter.unusedVariables false
noncomputable section
/-! ### impl.isTerm: function 155 -/
abbrev impl_isTerm.R := (((Bool × Unit) × Unit) × Unit)
def impl_isTerm.f (k : Nat) (a0 : tFuncD) (a1 : tTermD) (a2 : Int) : Option impl_isTerm.R := bif decide (a1.1 = 1) then (Option.bind (impl_within.f k a1.2.1 0 (IntKind.wrap .i64 (a2 - 1))) fun r1 => bif r1.1.1.1 then (bif decide (a1.2.2.1 = 0) then (some (((decide (a1.2.2.2.1 = 0), ()), ()), ())) else (some (((false, ()), ()), ()))) else (some (((false, ()), ()), ()))) else (bif decide (a1.1 = 2) then (bif decide (a1.2.1 = 0) then (Option.bind (impl_isTerm_1.f k a1.2.2.1 a0) fun r2 => bif r2.1.1.1 then (some (((decide (a1.2.2.2.1 = 0), ()), ()), ())) else (some (((false, ()), ()), ()))) else (some (((false, ()), ()), ()))) else (bif decide (a1.1 = 3) then (Option.bind (impl_within.f k a1.2.1 0 (IntKind.wrap .i64 (a2 - 1))) fun r3 => bif r3.1.1.1 then (Option.bind (impl_isTerm_1.f k a1.2.2.1 a0) fun r4 => bif r4.1.1.1 then (Option.bind (impl_isTerm_1.f k a1.2.2.2.1 a0) fun r5 => bif r5.1.1.1 then (some (((!decide (a1.2.2.1 = a1.2.2.2.1), ()), ()), ())) else (some (((false, ()), ()), ()))) else (some (((false, ()), ()), ()))) else (some (((false, ()), ()), ()))) else (bif decide (a1.1 = 4) then (bif decide (a1.2.1 = 0) then (bif decide (a1.2.2.1 = 0) then (some (((decide (a1.2.2.2.1 = 0), ()), ()), ())) else (some (((false, ()), ()), ()))) else (some (((false, ()), ()), ()))) else (some (((false, ()), ()), ())))))
def impl_isTerm.s (k : Nat) : FS := ⟨[⟨true, [.lst (.int .i64), .int .i64, .lst tBlock]⟩, ⟨true, [.int .i64, .int .i64, .int .i64, .int .i64]⟩, ⟨false, [.int .i64]⟩], [], false, [⟨false, [.bool]⟩], [], [], fun x => impl_isTerm.f k x.1.1 x.1.2.1 x.1.2.2.1.1⟩
def impl_isTerm.E (k : Nat) : Ents := [(⟨41, []⟩, impl_within.s k), (⟨189, []⟩, impl_isTerm_1.s k)]
def impl_isTerm.L : List (LS impl_isTerm.R) := []
def impl_isTerm.c : Code := Tryz.f155.body.getD .skip
theorem impl_isTerm.eq (k : Nat) (x) : (impl_isTerm.s k).pf x = execF tab (impl_isTerm.E k) Tryz.f155 impl_isTerm.c (impl_isTerm.s k) impl_isTerm.L x := by kernel_rfl
theorem impl_isTerm.sound : ∀ k, Sound Tryz.prog 155 (impl_isTerm.s k) := sound_of mixed tab_ok (f := 155) (fn := Tryz.f155) (c := impl_isTerm.c) (by kernel_rfl) (by kernel_rfl) (by kernel_rfl) ⟨[⟨true, [.lst (.int .i64), .int .i64, .lst tBlock]⟩, ⟨true, [.int .i64, .int .i64, .int .i64, .int .i64]⟩, ⟨false, [.int .i64]⟩], [], false, [⟨false, [.bool]⟩], [], []⟩ (by kernel_rfl) (by kernel_rfl) (fun k => (impl_isTerm.s k).pf) impl_isTerm.E (fun k => (EntsOK.cons (impl_within.sound k) (EntsOK.cons (impl_isTerm_1.sound k) EntsOK.nil))) (fun k => impl_isTerm.L) (fun k => trivial) trivial (fun k => trivial) impl_isTerm.eq
end
end Go.Proofs.YtebgkcjpocfmmaaGreat.V
namespace Go.Proofs.YtebgkcjpocfmmaaGreat.V
open Go
set_option linter.unusedVariables false
noncomputable section
/-! ### impl.isFunc: function 87 -/
abbrev impl_isFunc.R := (((Bool × Unit) × Unit) × Unit)
def impl_isFunc.l0_ (k : Nat) (l0 : (List tBlockD) → Int → Int → tFuncD → Int → Int → Option impl_isFunc.R) (a0 : List tBlockD) (a1 : Int) (a2 : Int) (a3 : tFuncD) (a4 : Int) (a5 : Int) : Option impl_isFunc.R := bif decide (a2 < a1) then (bif (decide (0 ≤ a2)) && (decide (a2 < ((List.length a0 : Nat) : Int))) then (Option.bind (slices_ContainsFunc_impl_Phi_impl_Phi.f k ((List.getD a0 (Int.toNat a2) tBlockZ).1) a5) fun r1 => bif r1.1.1.1 then (some (((false, ()), ()), ())) else (Option.bind (slices_ContainsFunc_impl_Inst_impl_Inst.f k ((List.getD a0 (Int.toNat a2) tBlockZ).2.1) a5 a4) fun r2 => bif r2.1.1.1 then (some (((false, ()), ()), ())) else (Option.bind (impl_isTerm.f k a3 ((List.getD a0 (Int.toNat a2) tBlockZ).2.2) a5) fun r3 => bif !r3.1.1.1 then (some (((false, ()), ()), ())) else (l0 a0 a1 (IntKind.wrap .i64 (a2 + 1)) a3 a4 a5)))) else none) else (some (((true, ()), ()), ()))
def impl_isFunc.all : Nat → ((List tBlockD) → Int → Int → tFuncD → Int → Int → Option impl_isFunc.R) × Unit
  | 0 => (fun _ _ _ _ _ _ => none, ())
  | k + 1 => (impl_isFunc.l0_ k (impl_isFunc.all k).1, ())
def impl_isFunc.l0 (k : Nat) : (List tBlockD) → Int → Int → tFuncD → Int → Int → Option impl_isFunc.R := (impl_isFunc.all k).1
def impl_isFunc.f (k : Nat) (a0 : tFuncD) (a1 : Int) : Option impl_isFunc.R := bif decide (4 < ((List.length a0.1 : Nat) : Int)) then (some (((false, ()), ()), ())) else (Option.bind (impl_WidthOk.f k a0.2.1) fun r1 => bif !r1.1.1.1 then (some (((false, ()), ()), ())) else (Option.bind (impl_within.f k ((List.length a0.2.2.1 : Nat) : Int) 1 10) fun r2 => bif !r2.1.1.1 then (some (((false, ()), ()), ())) else (Option.bind (slices_ContainsFunc_int64_int64.f k a0.1) fun r3 => bif r3.1.1.1 then (some (((false, ()), ()), ())) else (Option.bind (impl_CountOf.f k a0) fun r4 => bif decide (60 < r4.1.1.1) then (some (((false, ()), ()), ())) else (impl_isFunc.l0 k a0.2.2.1 ((List.length a0.2.2.1 : Nat) : Int) 0 a0 a1 r4.1.1.1)))))
def impl_isFunc.s (k : Nat) : FS := ⟨[⟨true, [.lst (.int .i64), .int .i64, .lst tBlock]⟩, ⟨false, [.int .i64]⟩], [], false, [⟨false, [.bool]⟩], [], [], fun x => impl_isFunc.f k x.1.1 x.1.2.1.1⟩
def impl_isFunc.E (k : Nat) : Ents := [(⟨134, []⟩, impl_WidthOk.s k), (⟨41, []⟩, impl_within.s k), (⟨148, [149]⟩, slices_ContainsFunc_int64_int64.s k), (⟨111, []⟩, impl_CountOf.s k), (⟨150, [151]⟩, slices_ContainsFunc_impl_Phi_impl_Phi.s k), (⟨91, [153]⟩, slices_ContainsFunc_impl_Inst_impl_Inst.s k), (⟨155, []⟩, impl_isTerm.s k)]
def impl_isFunc.L0 (l : (List tBlockD) → Int → Int → tFuncD → Int → Int → Option impl_isFunc.R) : LS impl_isFunc.R := ⟨[], [(2, ⟨false, [.ptr 100000 0]⟩), (3, ⟨false, [.ptr 100001 0]⟩), (5, ⟨false, [.ptr 100002 0]⟩), (35, ⟨false, [.lst tBlock]⟩), (36, ⟨false, [.int .i64]⟩), (37, ⟨false, [.int .i64]⟩)], [(100000, .box [.lst (.int .i64), .int .i64, .lst tBlock]), (100001, .box [.int .i64]), (100002, .box [.int .i64])], fun x => l x.1.2.2.2.1.1 x.1.2.2.2.2.1.1 x.1.2.2.2.2.2.1.1 x.2.1 x.2.2.1.1 x.2.2.2.1.1⟩
def impl_isFunc.L (l0 : (List tBlockD) → Int → Int → tFuncD → Int → Int → Option impl_isFunc.R) : List (LS impl_isFunc.R) := [impl_isFunc.L0 l0]
def impl_isFunc.c : Code := Tryz.f87.body.getD .skip
theorem impl_isFunc.eq (k : Nat) (x) : (impl_isFunc.s k).pf x = execF tab (impl_isFunc.E k) Tryz.f87 impl_isFunc.c (impl_isFunc.s k) (impl_isFunc.L (impl_isFunc.l0 k)) x := by kernel_rfl
theorem impl_isFunc.r0 (l0 : (List tBlockD) → Int → Int → tFuncD → Int → Int → Option impl_isFunc.R) (k : Nat) (x) : impl_isFunc.l0_ k l0 x.1.2.2.2.1.1 x.1.2.2.2.2.1.1 x.1.2.2.2.2.2.1.1 x.2.1 x.2.2.1.1 x.2.2.2.1.1 = roundOf tab (impl_isFunc.E k) (impl_isFunc.L l0) impl_isFunc.c (fin tab Tryz.f87 (impl_isFunc.s k)) 0 (impl_isFunc.L0 l0) x := by kernel_rfl
theorem impl_isFunc.sound : ∀ k, Sound Tryz.prog 87 (impl_isFunc.s k) := sound_of mixed tab_ok (f := 87) (fn := Tryz.f87) (c := impl_isFunc.c) (by kernel_rfl) (by kernel_rfl) (by kernel_rfl) ⟨[⟨true, [.lst (.int .i64), .int .i64, .lst tBlock]⟩, ⟨false, [.int .i64]⟩], [], false, [⟨false, [.bool]⟩], [], []⟩ (by kernel_rfl) (by kernel_rfl) (fun k => (impl_isFunc.s k).pf) impl_isFunc.E (fun k => (EntsOK.cons (impl_WidthOk.sound k) (EntsOK.cons (impl_within.sound k) (EntsOK.cons (slices_ContainsFunc_int64_int64.sound k) (EntsOK.cons (impl_CountOf.sound k) (EntsOK.cons (slices_ContainsFunc_impl_Phi_impl_Phi.sound k) (EntsOK.cons (slices_ContainsFunc_impl_Inst_impl_Inst.sound k) (EntsOK.cons (impl_isTerm.sound k) EntsOK.nil)))))))) (fun k => impl_isFunc.L (impl_isFunc.l0 k)) (fun k => ⟨rfl, trivial⟩) ⟨fun _ => rfl, trivial⟩ (fun k => ⟨⟨(impl_isFunc.L0 (impl_isFunc.l0 (k + 1))).l, rfl, fun x => impl_isFunc.r0 (impl_isFunc.l0 k) k x⟩, trivial⟩) impl_isFunc.eq
end
end Go.Proofs.YtebgkcjpocfmmaaGreat.V
namespace Go.Proofs.YtebgkcjpocfmmaaGreat.V
open Go
set_option linter.unusedVariables false
noncomputable section
/-! ### impl.ShapeOk$1: function 86 -/
abbrev impl_ShapeOk_1.R := (((Bool × Unit) × Unit) × Unit)
def impl_ShapeOk_1.f (k : Nat) (a0 : tFuncD) (a1 : Int) : Option impl_ShapeOk_1.R := Option.bind (impl_isFunc.f k a0 a1) fun r1 => some (((!r1.1.1.1, ()), ()), ())
def impl_ShapeOk_1.s (k : Nat) : FS := ⟨[⟨true, [.lst (.int .i64), .int .i64, .lst tBlock]⟩, ⟨false, [.ptr 0 0]⟩], [(0, .cbox [.int .i64])], false, [⟨false, [.bool]⟩], [], [], fun x => impl_ShapeOk_1.f k x.1.1 x.2.1.1⟩
def impl_ShapeOk_1.E (k : Nat) : Ents := [(⟨87, []⟩, impl_isFunc.s k)]
def impl_ShapeOk_1.L : List (LS impl_ShapeOk_1.R) := []
def impl_ShapeOk_1.c : Code := Tryz.f86.body.getD .skip
theorem impl_ShapeOk_1.eq (k : Nat) (x) : (impl_ShapeOk_1.s k).pf x = execF tab (impl_ShapeOk_1.E k) Tryz.f86 impl_ShapeOk_1.c (impl_ShapeOk_1.s k) impl_ShapeOk_1.L x := by kernel_rfl
theorem impl_ShapeOk_1.sound : ∀ k, Sound Tryz.prog 86 (impl_ShapeOk_1.s k) := sound_of mixed tab_ok (f := 86) (fn := Tryz.f86) (c := impl_ShapeOk_1.c) (by kernel_rfl) (by kernel_rfl) (by kernel_rfl) ⟨[⟨true, [.lst (.int .i64), .int .i64, .lst tBlock]⟩, ⟨false, [.ptr 0 0]⟩], [(0, .cbox [.int .i64])], false, [⟨false, [.bool]⟩], [], []⟩ (by kernel_rfl) (by kernel_rfl) (fun k => (impl_ShapeOk_1.s k).pf) impl_ShapeOk_1.E (fun k => (EntsOK.cons (impl_isFunc.sound k) EntsOK.nil)) (fun k => impl_ShapeOk_1.L) (fun k => trivial) trivial (fun k => trivial) impl_ShapeOk_1.eq
end
end Go.Proofs.YtebgkcjpocfmmaaGreat.V
namespace Go.Proofs.YtebgkcjpocfmmaaGreat.V
open Go
set_option linter.unusedVariables false
noncomputable section
/-! ### slices.IndexFunc[[]impl.Func,impl.Func]: function 147 -/
abbrev slices_IndexFunc_impl_Func_impl_Func.R := (((Int × Unit) × Unit) × Unit)
def slices_IndexFunc_impl_Func_impl_Func.l0_ (k : Nat) (l0 : (List tFuncD) → Int → Int → Int → Option slices_IndexFunc_impl_Func_impl_Func.R) (a0 : List tFuncD) (a1 : Int) (a2 : Int) (a3 : Int) : Option slices_IndexFunc_impl_Func_impl_Func.R := bif decide (a2 < a1) then (bif (decide (0 ≤ a2)) && (decide (a2 < ((List.length a0 : Nat) : Int))) then (Option.bind (impl_ShapeOk_1.f k (List.getD a0 (Int.toNat a2) tFuncZ) a3) fun r1 => bif r1.1.1.1 then (some (((a2, ()), ()), ())) else (l0 a0 a1 (IntKind.wrap .i64 (a2 + 1)) a3)) else none) else (some (((-1, ()), ()), ()))
def slices_IndexFunc_impl_Func_impl_Func.all : Nat → ((List tFuncD) → Int → Int → Int → Option slices_IndexFunc_impl_Func_impl_Func.R) × Unit
  | 0 => (fun _ _ _ _ => none, ())
  | k + 1 => (slices_IndexFunc_impl_Func_impl_Func.l0_ k (slices_IndexFunc_impl_Func_impl_Func.all k).1, ())
def slices_IndexFunc_impl_Func_impl_Func.l0 (k : Nat) : (List tFuncD) → Int → Int → Int → Option slices_IndexFunc_impl_Func_impl_Func.R := (slices_IndexFunc_impl_Func_impl_Func.all k).1
def slices_IndexFunc_impl_Func_impl_Func.f (k : Nat) (a0 : List tFuncD) (a1 : Int) : Option slices_IndexFunc_impl_Func_impl_Func.R := slices_IndexFunc_impl_Func_impl_Func.l0 k a0 ((List.length a0 : Nat) : Int) 0 a1
def slices_IndexFunc_impl_Func_impl_Func.s (k : Nat) : FS := ⟨[⟨false, [.lst tFunc]⟩, ⟨false, [.fn 86 [(0, 0)]]⟩], [(0, .cbox [.int .i64])], false, [⟨false, [.int .i64]⟩], [], [], fun x => slices_IndexFunc_impl_Func_impl_Func.f k x.1.1.1 x.2.1.1⟩
def slices_IndexFunc_impl_Func_impl_Func.E (k : Nat) : Ents := [(⟨86, []⟩, impl_ShapeOk_1.s k)]
def slices_IndexFunc_impl_Func_impl_Func.L0 (l : (List tFuncD) → Int → Int → Int → Option slices_IndexFunc_impl_Func_impl_Func.R) : LS slices_IndexFunc_impl_Func_impl_Func.R := ⟨[], [(0, ⟨false, [.lst tFunc]⟩), (1, ⟨false, [.fn 86 [(0, 0)]]⟩), (7, ⟨false, [.int .i64]⟩), (8, ⟨false, [.int .i64]⟩)], [(0, .cbox [.int .i64])], fun x => l x.1.1.1 x.1.2.2.1.1 x.1.2.2.2.1.1 x.2.1.1⟩
def slices_IndexFunc_impl_Func_impl_Func.L (l0 : (List tFuncD) → Int → Int → Int → Option slices_IndexFunc_impl_Func_impl_Func.R) : List (LS slices_IndexFunc_impl_Func_impl_Func.R) := [slices_IndexFunc_impl_Func_impl_Func.L0 l0]
def slices_IndexFunc_impl_Func_impl_Func.c : Code := Tryz.f147.body.getD .skip
theorem slices_IndexFunc_impl_Func_impl_Func.eq (k : Nat) (x) : (slices_IndexFunc_impl_Func_impl_Func.s k).pf x = execF tab (slices_IndexFunc_impl_Func_impl_Func.E k) Tryz.f147 slices_IndexFunc_impl_Func_impl_Func.c (slices_IndexFunc_impl_Func_impl_Func.s k) (slices_IndexFunc_impl_Func_impl_Func.L (slices_IndexFunc_impl_Func_impl_Func.l0 k)) x := by kernel_rfl
theorem slices_IndexFunc_impl_Func_impl_Func.r0 (l0 : (List tFuncD) → Int → Int → Int → Option slices_IndexFunc_impl_Func_impl_Func.R) (k : Nat) (x) : slices_IndexFunc_impl_Func_impl_Func.l0_ k l0 x.1.1.1 x.1.2.2.1.1 x.1.2.2.2.1.1 x.2.1.1 = roundOf tab (slices_IndexFunc_impl_Func_impl_Func.E k) (slices_IndexFunc_impl_Func_impl_Func.L l0) slices_IndexFunc_impl_Func_impl_Func.c (fin tab Tryz.f147 (slices_IndexFunc_impl_Func_impl_Func.s k)) 0 (slices_IndexFunc_impl_Func_impl_Func.L0 l0) x := by kernel_rfl
theorem slices_IndexFunc_impl_Func_impl_Func.sound : ∀ k, Sound Tryz.prog 147 (slices_IndexFunc_impl_Func_impl_Func.s k) := sound_of mixed tab_ok (f := 147) (fn := Tryz.f147) (c := slices_IndexFunc_impl_Func_impl_Func.c) (by kernel_rfl) (by kernel_rfl) (by kernel_rfl) ⟨[⟨false, [.lst tFunc]⟩, ⟨false, [.fn 86 [(0, 0)]]⟩], [(0, .cbox [.int .i64])], false, [⟨false, [.int .i64]⟩], [], []⟩ (by kernel_rfl) (by kernel_rfl) (fun k => (slices_IndexFunc_impl_Func_impl_Func.s k).pf) slices_IndexFunc_impl_Func_impl_Func.E (fun k => (EntsOK.cons (impl_ShapeOk_1.sound k) EntsOK.nil)) (fun k => slices_IndexFunc_impl_Func_impl_Func.L (slices_IndexFunc_impl_Func_impl_Func.l0 k)) (fun k => ⟨rfl, trivial⟩) ⟨fun _ => rfl, trivial⟩ (fun k => ⟨⟨(slices_IndexFunc_impl_Func_impl_Func.L0 (slices_IndexFunc_impl_Func_impl_Func.l0 (k + 1))).l, rfl, fun x => slices_IndexFunc_impl_Func_impl_Func.r0 (slices_IndexFunc_impl_Func_impl_Func.l0 k) k x⟩, trivial⟩) slices_IndexFunc_impl_Func_impl_Func.eq
end
end Go.Proofs.YtebgkcjpocfmmaaGreat.V
namespace Go.Proofs.YtebgkcjpocfmmaaGreat.V
open Go
set_option linter.unusedVariables false
noncomputable section
/-! ### slices.ContainsFunc[[]impl.Func,impl.Func]: function 85 -/
abbrev slices_ContainsFunc_impl_Func_impl_Func.R := (((Bool × Unit) × Unit) × Unit)
def slices_ContainsFunc_impl_Func_impl_Func.f (k : Nat) (a0 : List tFuncD) (a1 : Int) : Option slices_ContainsFunc_impl_Func_impl_Func.R := Option.bind (slices_IndexFunc_impl_Func_impl_Func.f k a0 a1) fun r1 => some (((decide (0 ≤ r1.1.1.1), ()), ()), ())
def slices_ContainsFunc_impl_Func_impl_Func.s (k : Nat) : FS := ⟨[⟨false, [.lst tFunc]⟩, ⟨false, [.fn 86 [(0, 0)]]⟩], [(0, .cbox [.int .i64])], false, [⟨false, [.bool]⟩], [], [], fun x => slices_ContainsFunc_impl_Func_impl_Func.f k x.1.1.1 x.2.1.1⟩
def slices_ContainsFunc_impl_Func_impl_Func.E (k : Nat) : Ents := [(⟨147, [86]⟩, slices_IndexFunc_impl_Func_impl_Func.s k)]
def slices_ContainsFunc_impl_Func_impl_Func.L : List (LS slices_ContainsFunc_impl_Func_impl_Func.R) := []
def slices_ContainsFunc_impl_Func_impl_Func.c : Code := Tryz.f85.body.getD .skip
theorem slices_ContainsFunc_impl_Func_impl_Func.eq (k : Nat) (x) : (slices_ContainsFunc_impl_Func_impl_Func.s k).pf x = execF tab (slices_ContainsFunc_impl_Func_impl_Func.E k) Tryz.f85 slices_ContainsFunc_impl_Func_impl_Func.c (slices_ContainsFunc_impl_Func_impl_Func.s k) slices_ContainsFunc_impl_Func_impl_Func.L x := by kernel_rfl
theorem slices_ContainsFunc_impl_Func_impl_Func.sound : ∀ k, Sound Tryz.prog 85 (slices_ContainsFunc_impl_Func_impl_Func.s k) := sound_of mixed tab_ok (f := 85) (fn := Tryz.f85) (c := slices_ContainsFunc_impl_Func_impl_Func.c) (by kernel_rfl) (by kernel_rfl) (by kernel_rfl) ⟨[⟨false, [.lst tFunc]⟩, ⟨false, [.fn 86 [(0, 0)]]⟩], [(0, .cbox [.int .i64])], false, [⟨false, [.bool]⟩], [], []⟩ (by kernel_rfl) (by kernel_rfl) (fun k => (slices_ContainsFunc_impl_Func_impl_Func.s k).pf) slices_ContainsFunc_impl_Func_impl_Func.E (fun k => (EntsOK.cons (slices_IndexFunc_impl_Func_impl_Func.sound k) EntsOK.nil)) (fun k => slices_ContainsFunc_impl_Func_impl_Func.L) (fun k => trivial) trivial (fun k => trivial) slices_ContainsFunc_impl_Func_impl_Func.eq
end
end Go.Proofs.YtebgkcjpocfmmaaGreat.V
namespace Go.Proofs.YtebgkcjpocfmmaaGreat.V
open Go
set_option linter.unusedVariables false
noncomputable section
/-! ### impl.ShapeOk: function 40 -/
abbrev impl_ShapeOk.R := (((Bool × Unit) × Unit) × Unit)
def impl_ShapeOk.f (k : Nat) (a0 : tModuleD) : Option impl_ShapeOk.R := Option.bind (impl_within.f k ((List.length a0.1 : Nat) : Int) 1 3) fun r1 => bif r1.1.1.1 then (Option.bind (slices_ContainsFunc_impl_Func_impl_Func.f k a0.1 ((List.length a0.1 : Nat) : Int)) fun r2 => some (((!r2.1.1.1, ()), ()), ())) else (some (((false, ()), ()), ()))
def impl_ShapeOk.s (k : Nat) : FS := ⟨[⟨true, [.lst tFunc]⟩], [], false, [⟨false, [.bool]⟩], [], [], fun x => impl_ShapeOk.f k x.1.1⟩
def impl_ShapeOk.E (k : Nat) : Ents := [(⟨41, []⟩, impl_within.s k), (⟨85, [86]⟩, slices_ContainsFunc_impl_Func_impl_Func.s k)]
def impl_ShapeOk.L : List (LS impl_ShapeOk.R) := []
def impl_ShapeOk.c : Code := Tryz.f40.body.getD .skip
theorem impl_ShapeOk.eq (k : Nat) (x) : (impl_ShapeOk.s k).pf x = execF tab (impl_ShapeOk.E k) Tryz.f40 impl_ShapeOk.c (impl_ShapeOk.s k) impl_ShapeOk.L x := by kernel_rfl
theorem impl_ShapeOk.sound : ∀ k, Sound Tryz.prog 40 (impl_ShapeOk.s k) := sound_of mixed tab_ok (f := 40) (fn := Tryz.f40) (c := impl_ShapeOk.c) (by kernel_rfl) (by kernel_rfl) (by kernel_rfl) ⟨[⟨true, [.lst tFunc]⟩], [], false, [⟨false, [.bool]⟩], [], []⟩ (by kernel_rfl) (by kernel_rfl) (fun k => (impl_ShapeOk.s k).pf) impl_ShapeOk.E (fun k => (EntsOK.cons (impl_within.sound k) (EntsOK.cons (slices_ContainsFunc_impl_Func_impl_Func.sound k) EntsOK.nil))) (fun k => impl_ShapeOk.L) (fun k => trivial) trivial (fun k => trivial) impl_ShapeOk.eq
end
end Go.Proofs.YtebgkcjpocfmmaaGreat.V
namespace Go.Proofs.YtebgkcjpocfmmaaGreat.V
open Go
set_option linter.unusedVariables false
noncomputable section
/-! ### impl.leadsTo: function 162 -/
abbrev impl_leadsTo.R := (((Unit × Unit) × Unit) × ((List Int) × Unit))
def impl_leadsTo.f (k : Nat) (a0 : tTermD) : Option impl_leadsTo.R := bif decide (a0.1 = 2) then (some ((((), ()), ()), ([a0.2.2.1], ()))) else (bif decide (a0.1 = 3) then (some ((((), ()), ()), ([a0.2.2.1, a0.2.2.2.1], ()))) else (some ((((), ()), ()), (([] : List Int), ()))))
def impl_leadsTo.s (k : Nat) : FS := ⟨[⟨true, [.int .i64, .int .i64, .int .i64, .int .i64]⟩], [], false, [⟨false, [.own 100]⟩], [(100, .row true (.int .i64))], [], fun x => impl_leadsTo.f k x.1.1⟩
def impl_leadsTo.E (k : Nat) : Ents := []
def impl_leadsTo.L : List (LS impl_leadsTo.R) := []
def impl_leadsTo.c : Code := Tryz.f162.body.getD .skip
theorem impl_leadsTo.eq (k : Nat) (x) : (impl_leadsTo.s k).pf x = execF tab (impl_leadsTo.E k) Tryz.f162 impl_leadsTo.c (impl_leadsTo.s k) impl_leadsTo.L x := by kernel_rfl
theorem impl_leadsTo.sound : ∀ k, Sound Tryz.prog 162 (impl_leadsTo.s k) := sound_of mixed tab_ok (f := 162) (fn := Tryz.f162) (c := impl_leadsTo.c) (by kernel_rfl) (by kernel_rfl) (by kernel_rfl) ⟨[⟨true, [.int .i64, .int .i64, .int .i64, .int .i64]⟩], [], false, [⟨false, [.own 100]⟩], [(100, .row true (.int .i64))], []⟩ (by kernel_rfl) (by kernel_rfl) (fun k => (impl_leadsTo.s k).pf) impl_leadsTo.E (fun k => EntsOK.nil) (fun k => impl_leadsTo.L) (fun k => trivial) trivial (fun k => trivial) impl_leadsTo.eq
end
end Go.Proofs.YtebgkcjpocfmmaaGreat.V
namespace Go.Proofs.YtebgkcjpocfmmaaGreat.V
open Go
set_option linter.unusedVariables false
noncomputable section
/-! ### slices.Index[[]int64,int64]: function 204 -/
abbrev slices_Index_int64_int64.R := (((Int × Unit) × Unit) × Unit)
def slices_Index_int64_int64.l0_ (k : Nat) (l0 : (List Int) → Int → Int → Int → Option slices_Index_int64_int64.R) (a0 : List Int) (a1 : Int) (a2 : Int) (a3 : Int) : Option slices_Index_int64_int64.R := bif decide (a3 < a2) then (bif (decide (0 ≤ a3)) && (decide (a3 < ((List.length a0 : Nat) : Int))) then (bif decide (a1 = List.getD a0 (Int.toNat a3) 0) then (some (((a3, ()), ()), ())) else (l0 a0 a1 a2 (IntKind.wrap .i64 (a3 + 1)))) else none) else (some (((-1, ()), ()), ()))
def slices_Index_int64_int64.all : Nat → ((List Int) → Int → Int → Int → Option slices_Index_int64_int64.R) × Unit
  | 0 => (fun _ _ _ _ => none, ())
  | k + 1 => (slices_Index_int64_int64.l0_ k (slices_Index_int64_int64.all k).1, ())
def slices_Index_int64_int64.l0 (k : Nat) : (List Int) → Int → Int → Int → Option slices_Index_int64_int64.R := (slices_Index_int64_int64.all k).1
def slices_Index_int64_int64.f (k : Nat) (a0 : List Int) (a1 : Int) : Option slices_Index_int64_int64.R := slices_Index_int64_int64.l0 k a0 a1 ((List.length a0 : Nat) : Int) 0
def slices_Index_int64_int64.s (k : Nat) : FS := ⟨[⟨false, [.lst (.int .i64)]⟩, ⟨false, [.int .i64]⟩], [], false, [⟨false, [.int .i64]⟩], [], [], fun x => slices_Index_int64_int64.f k x.1.1.1 x.1.2.1.1⟩
def slices_Index_int64_int64.E (k : Nat) : Ents := []
def slices_Index_int64_int64.L0 (l : (List Int) → Int → Int → Int → Option slices_Index_int64_int64.R) : LS slices_Index_int64_int64.R := ⟨[], [(0, ⟨false, [.lst (.int .i64)]⟩), (1, ⟨false, [.int .i64]⟩), (7, ⟨false, [.int .i64]⟩), (8, ⟨false, [.int .i64]⟩)], [], fun x => l x.1.1.1 x.1.2.1.1 x.1.2.2.1.1 x.1.2.2.2.1.1⟩
def slices_Index_int64_int64.L (l0 : (List Int) → Int → Int → Int → Option slices_Index_int64_int64.R) : List (LS slices_Index_int64_int64.R) := [slices_Index_int64_int64.L0 l0]
def slices_Index_int64_int64.c : Code := Tryz.f204.body.getD .skip
theorem slices_Index_int64_int64.eq (k : Nat) (x) : (slices_Index_int64_int64.s k).pf x = execF tab (slices_Index_int64_int64.E k) Tryz.f204 slices_Index_int64_int64.c (slices_Index_int64_int64.s k) (slices_Index_int64_int64.L (slices_Index_int64_int64.l0 k)) x := by kernel_rfl
theorem slices_Index_int64_int64.r0 (l0 : (List Int) → Int → Int → Int → Option slices_Index_int64_int64.R) (k : Nat) (x) : slices_Index_int64_int64.l0_ k l0 x.1.1.1 x.1.2.1.1 x.1.2.2.1.1 x.1.2.2.2.1.1 = roundOf tab (slices_Index_int64_int64.E k) (slices_Index_int64_int64.L l0) slices_Index_int64_int64.c (fin tab Tryz.f204 (slices_Index_int64_int64.s k)) 0 (slices_Index_int64_int64.L0 l0) x := by kernel_rfl
theorem slices_Index_int64_int64.sound : ∀ k, Sound Tryz.prog 204 (slices_Index_int64_int64.s k) := sound_of mixed tab_ok (f := 204) (fn := Tryz.f204) (c := slices_Index_int64_int64.c) (by kernel_rfl) (by kernel_rfl) (by kernel_rfl) ⟨[⟨false, [.lst (.int .i64)]⟩, ⟨false, [.int .i64]⟩], [], false, [⟨false, [.int .i64]⟩], [], []⟩ (by kernel_rfl) (by kernel_rfl) (fun k => (slices_Index_int64_int64.s k).pf) slices_Index_int64_int64.E (fun k => EntsOK.nil) (fun k => slices_Index_int64_int64.L (slices_Index_int64_int64.l0 k)) (fun k => ⟨rfl, trivial⟩) ⟨fun _ => rfl, trivial⟩ (fun k => ⟨⟨(slices_Index_int64_int64.L0 (slices_Index_int64_int64.l0 (k + 1))).l, rfl, fun x => slices_Index_int64_int64.r0 (slices_Index_int64_int64.l0 k) k x⟩, trivial⟩) slices_Index_int64_int64.eq
end
end Go.Proofs.YtebgkcjpocfmmaaGreat.V
namespace Go.Proofs.YtebgkcjpocfmmaaGreat.V
open Go
set_option linter.unusedVariables false
noncomputable section
/-! ### slices.Contains[[]int64,int64]: function 179 -/
abbrev slices_Contains_int64_int64.R := (((Bool × Unit) × Unit) × Unit)
def slices_Contains_int64_int64.f (k : Nat) (a0 : List Int) (a1 : Int) : Option slices_Contains_int64_int64.R := Option.bind (slices_Index_int64_int64.f k a0 a1) fun r1 => some (((decide (0 ≤ r1.1.1.1), ()), ()), ())
def slices_Contains_int64_int64.s (k : Nat) : FS := ⟨[⟨false, [.lst (.int .i64)]⟩, ⟨false, [.int .i64]⟩], [], false, [⟨false, [.bool]⟩], [], [], fun x => slices_Contains_int64_int64.f k x.1.1.1 x.1.2.1.1⟩
def slices_Contains_int64_int64.E (k : Nat) : Ents := [(⟨204, []⟩, slices_Index_int64_int64.s k)]
def slices_Contains_int64_int64.L : List (LS slices_Contains_int64_int64.R) := []
def slices_Contains_int64_int64.c : Code := Tryz.f179.body.getD .skip
theorem slices_Contains_int64_int64.eq (k : Nat) (x) : (slices_Contains_int64_int64.s k).pf x = execF tab (slices_Contains_int64_int64.E k) Tryz.f179 slices_Contains_int64_int64.c (slices_Contains_int64_int64.s k) slices_Contains_int64_int64.L x := by kernel_rfl
theorem slices_Contains_int64_int64.sound : ∀ k, Sound Tryz.prog 179 (slices_Contains_int64_int64.s k) := sound_of mixed tab_ok (f := 179) (fn := Tryz.f179) (c := slices_Contains_int64_int64.c) (by kernel_rfl) (by kernel_rfl) (by kernel_rfl) ⟨[⟨false, [.lst (.int .i64)]⟩, ⟨false, [.int .i64]⟩], [], false, [⟨false, [.bool]⟩], [], []⟩ (by kernel_rfl) (by kernel_rfl) (fun k => (slices_Contains_int64_int64.s k).pf) slices_Contains_int64_int64.E (fun k => (EntsOK.cons (slices_Index_int64_int64.sound k) EntsOK.nil)) (fun k => slices_Contains_int64_int64.L) (fun k => trivial) trivial (fun k => trivial) slices_Contains_int64_int64.eq
end
end Go.Proofs.YtebgkcjpocfmmaaGreat.V
namespace Go.Proofs.YtebgkcjpocfmmaaGreat.V
open Go
set_option linter.unusedVariables false
noncomputable section
/-! ### impl.predsOf: function 156 -/
abbrev impl_predsOf.R := (((Unit × Unit) × Unit) × ((List Int) × Unit))
def impl_predsOf.l0_ (k : Nat) (l0 : Int → (List tBlockD) → Int → Int → (List Int) → Option impl_predsOf.R) (a0 : Int) (a1 : List tBlockD) (a2 : Int) (a3 : Int) (a4 : List Int) : Option impl_predsOf.R := bif decide (a3 < a2) then (bif (decide (0 ≤ a3)) && (decide (a3 < ((List.length a1 : Nat) : Int))) then (Option.bind (impl_leadsTo.f k ((List.getD a1 (Int.toNat a3) tBlockZ).2.2)) fun r1 => Option.bind (slices_Contains_int64_int64.f k r1.2.1 a0) fun r2 => bif r2.1.1.1 then (bif decide ((List.length a4 + List.length [a3]) * 8 ≤ 140737488355328) then (l0 a0 a1 a2 (IntKind.wrap .i64 (a3 + 1)) (a4 ++ [a3])) else none) else (l0 a0 a1 a2 (IntKind.wrap .i64 (a3 + 1)) a4)) else none) else (some ((((), ()), ()), (a4, ())))
def impl_predsOf.all : Nat → (Int → (List tBlockD) → Int → Int → (List Int) → Option impl_predsOf.R) × Unit
  | 0 => (fun _ _ _ _ _ => none, ())
  | k + 1 => (impl_predsOf.l0_ k (impl_predsOf.all k).1, ())
def impl_predsOf.l0 (k : Nat) : Int → (List tBlockD) → Int → Int → (List Int) → Option impl_predsOf.R := (impl_predsOf.all k).1
def impl_predsOf.f (k : Nat) (a0 : tFuncD) (a1 : Int) : Option impl_predsOf.R := impl_predsOf.l0 k a1 a0.2.2.1 ((List.length a0.2.2.1 : Nat) : Int) 0 ([] : List Int)
def impl_predsOf.s (k : Nat) : FS := ⟨[⟨true, [.lst (.int .i64), .int .i64, .lst tBlock]⟩, ⟨false, [.int .i64]⟩], [], false, [⟨false, [.own 100]⟩], [(100, .row true (.int .i64))], [], fun x => impl_predsOf.f k x.1.1 x.1.2.1.1⟩
def impl_predsOf.E (k : Nat) : Ents := [(⟨162, []⟩, impl_leadsTo.s k), (⟨179, []⟩, slices_Contains_int64_int64.s k)]
def impl_predsOf.L0 (l : Int → (List tBlockD) → Int → Int → (List Int) → Option impl_predsOf.R) : LS impl_predsOf.R := ⟨[], [(1, ⟨false, [.int .i64]⟩), (5, ⟨false, [.own 100000]⟩), (10, ⟨false, [.lst tBlock]⟩), (11, ⟨false, [.int .i64]⟩), (12, ⟨false, [.int .i64]⟩)], [(100000, .row true (.int .i64))], fun x => l x.1.1.1 x.1.2.2.1.1 x.1.2.2.2.1.1 x.1.2.2.2.2.1.1 x.2.1⟩
def impl_predsOf.L (l0 : Int → (List tBlockD) → Int → Int → (List Int) → Option impl_predsOf.R) : List (LS impl_predsOf.R) := [impl_predsOf.L0 l0]
def impl_predsOf.c : Code := Tryz.f156.body.getD .skip
theorem impl_predsOf.eq (k : Nat) (x) : (impl_predsOf.s k).pf x = execF tab (impl_predsOf.E k) Tryz.f156 impl_predsOf.c (impl_predsOf.s k) (impl_predsOf.L (impl_predsOf.l0 k)) x := by kernel_rfl
theorem impl_predsOf.r0 (l0 : Int → (List tBlockD) → Int → Int → (List Int) → Option impl_predsOf.R) (k : Nat) (x) : impl_predsOf.l0_ k l0 x.1.1.1 x.1.2.2.1.1 x.1.2.2.2.1.1 x.1.2.2.2.2.1.1 x.2.1 = roundOf tab (impl_predsOf.E k) (impl_predsOf.L l0) impl_predsOf.c (fin tab Tryz.f156 (impl_predsOf.s k)) 0 (impl_predsOf.L0 l0) x := by kernel_rfl
theorem impl_predsOf.sound : ∀ k, Sound Tryz.prog 156 (impl_predsOf.s k) := sound_of mixed tab_ok (f := 156) (fn := Tryz.f156) (c := impl_predsOf.c) (by kernel_rfl) (by kernel_rfl) (by kernel_rfl) ⟨[⟨true, [.lst (.int .i64), .int .i64, .lst tBlock]⟩, ⟨false, [.int .i64]⟩], [], false, [⟨false, [.own 100]⟩], [(100, .row true (.int .i64))], []⟩ (by kernel_rfl) (by kernel_rfl) (fun k => (impl_predsOf.s k).pf) impl_predsOf.E (fun k => (EntsOK.cons (impl_leadsTo.sound k) (EntsOK.cons (slices_Contains_int64_int64.sound k) EntsOK.nil))) (fun k => impl_predsOf.L (impl_predsOf.l0 k)) (fun k => ⟨rfl, trivial⟩) ⟨fun _ => rfl, trivial⟩ (fun k => ⟨⟨(impl_predsOf.L0 (impl_predsOf.l0 (k + 1))).l, rfl, fun x => impl_predsOf.r0 (impl_predsOf.l0 k) k x⟩, trivial⟩) impl_predsOf.eq
end
end Go.Proofs.YtebgkcjpocfmmaaGreat.V
namespace Go.Proofs.YtebgkcjpocfmmaaGreat.V
open Go
set_option linter.unusedVariables false
noncomputable section
/-! ### impl.isEntry: function 88 -/
abbrev impl_isEntry.R := (((Bool × Unit) × Unit) × Unit)
def impl_isEntry.f (k : Nat) (a0 : tFuncD) : Option impl_isEntry.R := bif (decide (0 ≤ 0)) && (decide (0 < ((List.length a0.2.2.1 : Nat) : Int))) then (bif decide (((List.length ((List.getD a0.2.2.1 0 tBlockZ).1) : Nat) : Int) = 0) then (Option.bind (impl_predsOf.f k a0 0) fun r1 => some (((decide (((List.length r1.2.1 : Nat) : Int) = 0), ()), ()), ())) else (some (((false, ()), ()), ()))) else none
def impl_isEntry.s (k : Nat) : FS := ⟨[⟨true, [.lst (.int .i64), .int .i64, .lst tBlock]⟩], [], false, [⟨false, [.bool]⟩], [], [], fun x => impl_isEntry.f k x.1.1⟩
def impl_isEntry.E (k : Nat) : Ents := [(⟨156, []⟩, impl_predsOf.s k)]
def impl_isEntry.L : List (LS impl_isEntry.R) := []
def impl_isEntry.c : Code := Tryz.f88.body.getD .skip
theorem impl_isEntry.eq (k : Nat) (x) : (impl_isEntry.s k).pf x = execF tab (impl_isEntry.E k) Tryz.f88 impl_isEntry.c (impl_isEntry.s k) impl_isEntry.L x := by kernel_rfl
theorem impl_isEntry.sound : ∀ k, Sound Tryz.prog 88 (impl_isEntry.s k) := sound_of mixed tab_ok (f := 88) (fn := Tryz.f88) (c := impl_isEntry.c) (by kernel_rfl) (by kernel_rfl) (by kernel_rfl) ⟨[⟨true, [.lst (.int .i64), .int .i64, .lst tBlock]⟩], [], false, [⟨false, [.bool]⟩], [], []⟩ (by kernel_rfl) (by kernel_rfl) (fun k => (impl_isEntry.s k).pf) impl_isEntry.E (fun k => (EntsOK.cons (impl_predsOf.sound k) EntsOK.nil)) (fun k => impl_isEntry.L) (fun k => trivial) trivial (fun k => trivial) impl_isEntry.eq
end
end Go.Proofs.YtebgkcjpocfmmaaGreat.V
namespace Go.Proofs.YtebgkcjpocfmmaaGreat.V
open Go
set_option linter.unusedVariables false
noncomputable section
/-! ### impl.arePhis$1: function 157 -/
abbrev impl_arePhis_1.R := (((Bool × Unit) × Unit) × Unit)
def impl_arePhis_1.f (k : Nat) (a0 : tPhiD) (a1 : Int) : Option impl_arePhis_1.R := some (((!decide (((List.length a0.2.1 : Nat) : Int) = a1), ()), ()), ())
def impl_arePhis_1.s (k : Nat) : FS := ⟨[⟨true, [.int .i64, .lst (.int .i64)]⟩, ⟨false, [.ptr 0 0]⟩], [(0, .cbox [.int .i64])], false, [⟨false, [.bool]⟩], [], [], fun x => impl_arePhis_1.f k x.1.1 x.2.1.1⟩
def impl_arePhis_1.E (k : Nat) : Ents := []
def impl_arePhis_1.L : List (LS impl_arePhis_1.R) := []
def impl_arePhis_1.c : Code := Tryz.f157.body.getD .skip
theorem impl_arePhis_1.eq (k : Nat) (x) : (impl_arePhis_1.s k).pf x = execF tab (impl_arePhis_1.E k) Tryz.f157 impl_arePhis_1.c (impl_arePhis_1.s k) impl_arePhis_1.L x := by kernel_rfl
theorem impl_arePhis_1.sound : ∀ k, Sound Tryz.prog 157 (impl_arePhis_1.s k) := sound_of mixed tab_ok (f := 157) (fn := Tryz.f157) (c := impl_arePhis_1.c) (by kernel_rfl) (by kernel_rfl) (by kernel_rfl) ⟨[⟨true, [.int .i64, .lst (.int .i64)]⟩, ⟨false, [.ptr 0 0]⟩], [(0, .cbox [.int .i64])], false, [⟨false, [.bool]⟩], [], []⟩ (by kernel_rfl) (by kernel_rfl) (fun k => (impl_arePhis_1.s k).pf) impl_arePhis_1.E (fun k => EntsOK.nil) (fun k => impl_arePhis_1.L) (fun k => trivial) trivial (fun k => trivial) impl_arePhis_1.eq
end
end Go.Proofs.YtebgkcjpocfmmaaGreat.V
namespace Go.Proofs.YtebgkcjpocfmmaaGreat.V
open Go
set_option linter.unusedVariables false
noncomputable section
/-! ### slices.IndexFunc[[]impl.Phi,impl.Phi]: function 184 -/
abbrev slices_IndexFunc_impl_Phi_impl_Phi_2.R := (((Int × Unit) × Unit) × Unit)
def slices_IndexFunc_impl_Phi_impl_Phi_2.l0_ (k : Nat) (l0 : (List tPhiD) → Int → Int → Int → Option slices_IndexFunc_impl_Phi_impl_Phi_2.R) (a0 : List tPhiD) (a1 : Int) (a2 : Int) (a3 : Int) : Option slices_IndexFunc_impl_Phi_impl_Phi_2.R := bif decide (a2 < a1) then (bif (decide (0 ≤ a2)) && (decide (a2 < ((List.length a0 : Nat) : Int))) then (Option.bind (impl_arePhis_1.f k (List.getD a0 (Int.toNat a2) tPhiZ) a3) fun r1 => bif r1.1.1.1 then (some (((a2, ()), ()), ())) else (l0 a0 a1 (IntKind.wrap .i64 (a2 + 1)) a3)) else none) else (some (((-1, ()), ()), ()))
def slices_IndexFunc_impl_Phi_impl_Phi_2.all : Nat → ((List tPhiD) → Int → Int → Int → Option slices_IndexFunc_impl_Phi_impl_Phi_2.R) × Unit
  | 0 => (fun _ _ _ _ => none, ())
  | k + 1 => (slices_IndexFunc_impl_Phi_impl_Phi_2.l0_ k (slices_IndexFunc_impl_Phi_impl_Phi_2.all k).1, ())
def slices_IndexFunc_impl_Phi_impl_Phi_2.l0 (k : Nat) : (List tPhiD) → Int → Int → Int → Option slices_IndexFunc_impl_Phi_impl_Phi_2.R := (slices_IndexFunc_impl_Phi_impl_Phi_2.all k).1
def slices_IndexFunc_impl_Phi_impl_Phi_2.f (k : Nat) (a0 : List tPhiD) (a1 : Int) : Option slices_IndexFunc_impl_Phi_impl_Phi_2.R := slices_IndexFunc_impl_Phi_impl_Phi_2.l0 k a0 ((List.length a0 : Nat) : Int) 0 a1
def slices_IndexFunc_impl_Phi_impl_Phi_2.s (k : Nat) : FS := ⟨[⟨false, [.lst tPhi]⟩, ⟨false, [.fn 157 [(0, 0)]]⟩], [(0, .cbox [.int .i64])], false, [⟨false, [.int .i64]⟩], [], [], fun x => slices_IndexFunc_impl_Phi_impl_Phi_2.f k x.1.1.1 x.2.1.1⟩
def slices_IndexFunc_impl_Phi_impl_Phi_2.E (k : Nat) : Ents := [(⟨157, []⟩, impl_arePhis_1.s k)]
def slices_IndexFunc_impl_Phi_impl_Phi_2.L0 (l : (List tPhiD) → Int → Int → Int → Option slices_IndexFunc_impl_Phi_impl_Phi_2.R) : LS slices_IndexFunc_impl_Phi_impl_Phi_2.R := ⟨[], [(0, ⟨false, [.lst tPhi]⟩), (1, ⟨false, [.fn 157 [(0, 0)]]⟩), (7, ⟨false, [.int .i64]⟩), (8, ⟨false, [.int .i64]⟩)], [(0, .cbox [.int .i64])], fun x => l x.1.1.1 x.1.2.2.1.1 x.1.2.2.2.1.1 x.2.1.1⟩
def slices_IndexFunc_impl_Phi_impl_Phi_2.L (l0 : (List tPhiD) → Int → Int → Int → Option slices_IndexFunc_impl_Phi_impl_Phi_2.R) : List (LS slices_IndexFunc_impl_Phi_impl_Phi_2.R) := [slices_IndexFunc_impl_Phi_impl_Phi_2.L0 l0]
def slices_IndexFunc_impl_Phi_impl_Phi_2.c : Code := Tryz.f184.body.getD .skip
theorem slices_IndexFunc_impl_Phi_impl_Phi_2.eq (k : Nat) (x) : (slices_IndexFunc_impl_Phi_impl_Phi_2.s k).pf x = execF tab (slices_IndexFunc_impl_Phi_impl_Phi_2.E k) Tryz.f184 slices_IndexFunc_impl_Phi_impl_Phi_2.c (slices_IndexFunc_impl_Phi_impl_Phi_2.s k) (slices_IndexFunc_impl_Phi_impl_Phi_2.L (slices_IndexFunc_impl_Phi_impl_Phi_2.l0 k)) x := by kernel_rfl
theorem slices_IndexFunc_impl_Phi_impl_Phi_2.r0 (l0 : (List tPhiD) → Int → Int → Int → Option slices_IndexFunc_impl_Phi_impl_Phi_2.R) (k : Nat) (x) : slices_IndexFunc_impl_Phi_impl_Phi_2.l0_ k l0 x.1.1.1 x.1.2.2.1.1 x.1.2.2.2.1.1 x.2.1.1 = roundOf tab (slices_IndexFunc_impl_Phi_impl_Phi_2.E k) (slices_IndexFunc_impl_Phi_impl_Phi_2.L l0) slices_IndexFunc_impl_Phi_impl_Phi_2.c (fin tab Tryz.f184 (slices_IndexFunc_impl_Phi_impl_Phi_2.s k)) 0 (slices_IndexFunc_impl_Phi_impl_Phi_2.L0 l0) x := by kernel_rfl
theorem slices_IndexFunc_impl_Phi_impl_Phi_2.sound : ∀ k, Sound Tryz.prog 184 (slices_IndexFunc_impl_Phi_impl_Phi_2.s k) := sound_of mixed tab_ok (f := 184) (fn := Tryz.f184) (c := slices_IndexFunc_impl_Phi_impl_Phi_2.c) (by kernel_rfl) (by kernel_rfl) (by kernel_rfl) ⟨[⟨false, [.lst tPhi]⟩, ⟨false, [.fn 157 [(0, 0)]]⟩], [(0, .cbox [.int .i64])], false, [⟨false, [.int .i64]⟩], [], []⟩ (by kernel_rfl) (by kernel_rfl) (fun k => (slices_IndexFunc_impl_Phi_impl_Phi_2.s k).pf) slices_IndexFunc_impl_Phi_impl_Phi_2.E (fun k => (EntsOK.cons (impl_arePhis_1.sound k) EntsOK.nil)) (fun k => slices_IndexFunc_impl_Phi_impl_Phi_2.L (slices_IndexFunc_impl_Phi_impl_Phi_2.l0 k)) (fun k => ⟨rfl, trivial⟩) ⟨fun _ => rfl, trivial⟩ (fun k => ⟨⟨(slices_IndexFunc_impl_Phi_impl_Phi_2.L0 (slices_IndexFunc_impl_Phi_impl_Phi_2.l0 (k + 1))).l, rfl, fun x => slices_IndexFunc_impl_Phi_impl_Phi_2.r0 (slices_IndexFunc_impl_Phi_impl_Phi_2.l0 k) k x⟩, trivial⟩) slices_IndexFunc_impl_Phi_impl_Phi_2.eq
end
end Go.Proofs.YtebgkcjpocfmmaaGreat.V
namespace Go.Proofs.YtebgkcjpocfmmaaGreat.V
open Go
set_option linter.unusedVariables false
noncomputable section
/-! ### slices.ContainsFunc[[]impl.Phi,impl.Phi]: function 150 -/
abbrev slices_ContainsFunc_impl_Phi_impl_Phi_2.R := (((Bool × Unit) × Unit) × Unit)
def slices_ContainsFunc_impl_Phi_impl_Phi_2.f (k : Nat) (a0 : List tPhiD) (a1 : Int) : Option slices_ContainsFunc_impl_Phi_impl_Phi_2.R := Option.bind (slices_IndexFunc_impl_Phi_impl_Phi_2.f k a0 a1) fun r1 => some (((decide (0 ≤ r1.1.1.1), ()), ()), ())
def slices_ContainsFunc_impl_Phi_impl_Phi_2.s (k : Nat) : FS := ⟨[⟨false, [.lst tPhi]⟩, ⟨false, [.fn 157 [(0, 0)]]⟩], [(0, .cbox [.int .i64])], false, [⟨false, [.bool]⟩], [], [], fun x => slices_ContainsFunc_impl_Phi_impl_Phi_2.f k x.1.1.1 x.2.1.1⟩
def slices_ContainsFunc_impl_Phi_impl_Phi_2.E (k : Nat) : Ents := [(⟨184, [157]⟩, slices_IndexFunc_impl_Phi_impl_Phi_2.s k)]
def slices_ContainsFunc_impl_Phi_impl_Phi_2.L : List (LS slices_ContainsFunc_impl_Phi_impl_Phi_2.R) := []
def slices_ContainsFunc_impl_Phi_impl_Phi_2.c : Code := Tryz.f150.body.getD .skip
theorem slices_ContainsFunc_impl_Phi_impl_Phi_2.eq (k : Nat) (x) : (slices_ContainsFunc_impl_Phi_impl_Phi_2.s k).pf x = execF tab (slices_ContainsFunc_impl_Phi_impl_Phi_2.E k) Tryz.f150 slices_ContainsFunc_impl_Phi_impl_Phi_2.c (slices_ContainsFunc_impl_Phi_impl_Phi_2.s k) slices_ContainsFunc_impl_Phi_impl_Phi_2.L x := by kernel_rfl
theorem slices_ContainsFunc_impl_Phi_impl_Phi_2.sound : ∀ k, Sound Tryz.prog 150 (slices_ContainsFunc_impl_Phi_impl_Phi_2.s k) := sound_of mixed tab_ok (f := 150) (fn := Tryz.f150) (c := slices_ContainsFunc_impl_Phi_impl_Phi_2.c) (by kernel_rfl) (by kernel_rfl) (by kernel_rfl) ⟨[⟨false, [.lst tPhi]⟩, ⟨false, [.fn 157 [(0, 0)]]⟩], [(0, .cbox [.int .i64])], false, [⟨false, [.bool]⟩], [], []⟩ (by kernel_rfl) (by kernel_rfl) (fun k => (slices_ContainsFunc_impl_Phi_impl_Phi_2.s k).pf) slices_ContainsFunc_impl_Phi_impl_Phi_2.E (fun k => (EntsOK.cons (slices_IndexFunc_impl_Phi_impl_Phi_2.sound k) EntsOK.nil)) (fun k => slices_ContainsFunc_impl_Phi_impl_Phi_2.L) (fun k => trivial) trivial (fun k => trivial) slices_ContainsFunc_impl_Phi_impl_Phi_2.eq
end
end Go.Proofs.YtebgkcjpocfmmaaGreat.V
namespace Go.Proofs.YtebgkcjpocfmmaaGreat.V
open Go
set_option linter.unusedVariables false
noncomputable section
/-! ### impl.arePhis: function 89 -/
abbrev impl_arePhis.R := (((Bool × Unit) × Unit) × Unit)
def impl_arePhis.l0_ (k : Nat) (l0 : (List tBlockD) → Int → Int → tFuncD → Option impl_arePhis.R) (a0 : List tBlockD) (a1 : Int) (a2 : Int) (a3 : tFuncD) : Option impl_arePhis.R := bif decide (a2 < a1) then (bif (decide (0 ≤ a2)) && (decide (a2 < ((List.length a0 : Nat) : Int))) then (Option.bind (impl_predsOf.f k a3 a2) fun r1 => Option.bind (slices_ContainsFunc_impl_Phi_impl_Phi_2.f k ((List.getD a0 (Int.toNat a2) tBlockZ).1) ((List.length r1.2.1 : Nat) : Int)) fun r2 => bif r2.1.1.1 then (some (((false, ()), ()), ())) else (l0 a0 a1 (IntKind.wrap .i64 (a2 + 1)) a3)) else none) else (some (((true, ()), ()), ()))
def impl_arePhis.all : Nat → ((List tBlockD) → Int → Int → tFuncD → Option impl_arePhis.R) × Unit
  | 0 => (fun _ _ _ _ => none, ())
  | k + 1 => (impl_arePhis.l0_ k (impl_arePhis.all k).1, ())
def impl_arePhis.l0 (k : Nat) : (List tBlockD) → Int → Int → tFuncD → Option impl_arePhis.R := (impl_arePhis.all k).1
def impl_arePhis.f (k : Nat) (a0 : tFuncD) : Option impl_arePhis.R := impl_arePhis.l0 k a0.2.2.1 ((List.length a0.2.2.1 : Nat) : Int) 0 a0
def impl_arePhis.s (k : Nat) : FS := ⟨[⟨true, [.lst (.int .i64), .int .i64, .lst tBlock]⟩], [], false, [⟨false, [.bool]⟩], [], [], fun x => impl_arePhis.f k x.1.1⟩
def impl_arePhis.E (k : Nat) : Ents := [(⟨156, []⟩, impl_predsOf.s k), (⟨150, [157]⟩, slices_ContainsFunc_impl_Phi_impl_Phi_2.s k)]
def impl_arePhis.L0 (l : (List tBlockD) → Int → Int → tFuncD → Option impl_arePhis.R) : LS impl_arePhis.R := ⟨[], [(1, ⟨false, [.ptr 100000 0]⟩), (7, ⟨false, [.lst tBlock]⟩), (8, ⟨false, [.int .i64]⟩), (9, ⟨false, [.int .i64]⟩)], [(100000, .box [.lst (.int .i64), .int .i64, .lst tBlock])], fun x => l x.1.2.1.1 x.1.2.2.1.1 x.1.2.2.2.1.1 x.2.1⟩
def impl_arePhis.L (l0 : (List tBlockD) → Int → Int → tFuncD → Option impl_arePhis.R) : List (LS impl_arePhis.R) := [impl_arePhis.L0 l0]
def impl_arePhis.c : Code := Tryz.f89.body.getD .skip
theorem impl_arePhis.eq (k : Nat) (x) : (impl_arePhis.s k).pf x = execF tab (impl_arePhis.E k) Tryz.f89 impl_arePhis.c (impl_arePhis.s k) (impl_arePhis.L (impl_arePhis.l0 k)) x := by kernel_rfl
theorem impl_arePhis.r0 (l0 : (List tBlockD) → Int → Int → tFuncD → Option impl_arePhis.R) (k : Nat) (x) : impl_arePhis.l0_ k l0 x.1.2.1.1 x.1.2.2.1.1 x.1.2.2.2.1.1 x.2.1 = roundOf tab (impl_arePhis.E k) (impl_arePhis.L l0) impl_arePhis.c (fin tab Tryz.f89 (impl_arePhis.s k)) 0 (impl_arePhis.L0 l0) x := by kernel_rfl
theorem impl_arePhis.sound : ∀ k, Sound Tryz.prog 89 (impl_arePhis.s k) := sound_of mixed tab_ok (f := 89) (fn := Tryz.f89) (c := impl_arePhis.c) (by kernel_rfl) (by kernel_rfl) (by kernel_rfl) ⟨[⟨true, [.lst (.int .i64), .int .i64, .lst tBlock]⟩], [], false, [⟨false, [.bool]⟩], [], []⟩ (by kernel_rfl) (by kernel_rfl) (fun k => (impl_arePhis.s k).pf) impl_arePhis.E (fun k => (EntsOK.cons (impl_predsOf.sound k) (EntsOK.cons (slices_ContainsFunc_impl_Phi_impl_Phi_2.sound k) EntsOK.nil))) (fun k => impl_arePhis.L (impl_arePhis.l0 k)) (fun k => ⟨rfl, trivial⟩) ⟨fun _ => rfl, trivial⟩ (fun k => ⟨⟨(impl_arePhis.L0 (impl_arePhis.l0 (k + 1))).l, rfl, fun x => impl_arePhis.r0 (impl_arePhis.l0 k) k x⟩, trivial⟩) impl_arePhis.eq
end
end Go.Proofs.YtebgkcjpocfmmaaGreat.V
namespace Go.Proofs.YtebgkcjpocfmmaaGreat.V
open Go
set_option linter.unusedVariables false
noncomputable section
/-! ### impl.isId: function 180 -/
abbrev impl_isId.R := (((Bool × Unit) × Unit) × Unit)
def impl_isId.f (k : Nat) (a0 : tFuncD) (a1 : Int) : Option impl_isId.R := Option.bind (impl_CountOf.f k a0) fun r1 => Option.bind (impl_within.f k a1 0 (IntKind.wrap .i64 (r1.1.1.1 - 1))) fun r2 => some (((r2.1.1.1, ()), ()), ())
def impl_isId.s (k : Nat) : FS := ⟨[⟨true, [.lst (.int .i64), .int .i64, .lst tBlock]⟩, ⟨false, [.int .i64]⟩], [], false, [⟨false, [.bool]⟩], [], [], fun x => impl_isId.f k x.1.1 x.1.2.1.1⟩
def impl_isId.E (k : Nat) : Ents := [(⟨111, []⟩, impl_CountOf.s k), (⟨41, []⟩, impl_within.s k)]
def impl_isId.L : List (LS impl_isId.R) := []
def impl_isId.c : Code := Tryz.f180.body.getD .skip
theorem impl_isId.eq (k : Nat) (x) : (impl_isId.s k).pf x = execF tab (impl_isId.E k) Tryz.f180 impl_isId.c (impl_isId.s k) impl_isId.L x := by kernel_rfl
theorem impl_isId.sound : ∀ k, Sound Tryz.prog 180 (impl_isId.s k) := sound_of mixed tab_ok (f := 180) (fn := Tryz.f180) (c := impl_isId.c) (by kernel_rfl) (by kernel_rfl) (by kernel_rfl) ⟨[⟨true, [.lst (.int .i64), .int .i64, .lst tBlock]⟩, ⟨false, [.int .i64]⟩], [], false, [⟨false, [.bool]⟩], [], []⟩ (by kernel_rfl) (by kernel_rfl) (fun k => (impl_isId.s k).pf) impl_isId.E (fun k => (EntsOK.cons (impl_CountOf.sound k) (EntsOK.cons (impl_within.sound k) EntsOK.nil))) (fun k => impl_isId.L) (fun k => trivial) trivial (fun k => trivial) impl_isId.eq
end
end Go.Proofs.YtebgkcjpocfmmaaGreat.V
namespace Go.Proofs.YtebgkcjpocfmmaaGreat.V
open Go
set_option linter.unusedVariables false
noncomputable section
/-! ### impl.PlaceOf: function 137 -/
abbrev impl_PlaceOf.R := (((Int × Unit) × (Int × Unit) × Unit) × Unit)
def impl_PlaceOf.l0_ (k : Nat) (l0 : Int → Int → (List tBlockD) → Int → Int → Option impl_PlaceOf.R) (a0 : Int) (a1 : Int) (a2 : List tBlockD) (a3 : Int) (a4 : Int) : Option impl_PlaceOf.R := bif decide (a4 < a3) then (bif (decide (0 ≤ a4)) && (decide (a4 < ((List.length a2 : Nat) : Int))) then (bif decide (a0 < IntKind.wrap .i64 (a1 + (IntKind.wrap .i64 (((List.length ((List.getD a2 (Int.toNat a4) tBlockZ).1) : Nat) : Int) + ((List.length ((List.getD a2 (Int.toNat a4) tBlockZ).2.1) : Nat) : Int))))) then (some (((a4, ()), (IntKind.wrap .i64 (a0 - a1), ()), ()), ())) else (l0 a0 (IntKind.wrap .i64 (a1 + (IntKind.wrap .i64 (((List.length ((List.getD a2 (Int.toNat a4) tBlockZ).1) : Nat) : Int) + ((List.length ((List.getD a2 (Int.toNat a4) tBlockZ).2.1) : Nat) : Int))))) a2 a3 (IntKind.wrap .i64 (a4 + 1)))) else none) else (some (((-2, ()), (0, ()), ()), ()))
def impl_PlaceOf.all : Nat → (Int → Int → (List tBlockD) → Int → Int → Option impl_PlaceOf.R) × Unit
  | 0 => (fun _ _ _ _ _ => none, ())
  | k + 1 => (impl_PlaceOf.l0_ k (impl_PlaceOf.all k).1, ())
def impl_PlaceOf.l0 (k : Nat) : Int → Int → (List tBlockD) → Int → Int → Option impl_PlaceOf.R := (impl_PlaceOf.all k).1
def impl_PlaceOf.f (k : Nat) (a0 : tFuncD) (a1 : Int) : Option impl_PlaceOf.R := Option.bind (impl_isId.f k a0 a1) fun r1 => bif !r1.1.1.1 then (some (((-2, ()), (0, ()), ()), ())) else (bif decide (a1 < ((List.length a0.1 : Nat) : Int)) then (some (((-1, ()), (a1, ()), ()), ())) else (impl_PlaceOf.l0 k a1 ((List.length a0.1 : Nat) : Int) a0.2.2.1 ((List.length a0.2.2.1 : Nat) : Int) 0))
def impl_PlaceOf.s (k : Nat) : FS := ⟨[⟨true, [.lst (.int .i64), .int .i64, .lst tBlock]⟩, ⟨false, [.int .i64]⟩], [], true, [⟨false, [.int .i64]⟩, ⟨false, [.int .i64]⟩], [], [], fun x => impl_PlaceOf.f k x.1.1 x.1.2.1.1⟩
def impl_PlaceOf.E (k : Nat) : Ents := [(⟨180, []⟩, impl_isId.s k)]
def impl_PlaceOf.L0 (l : Int → Int → (List tBlockD) → Int → Int → Option impl_PlaceOf.R) : LS impl_PlaceOf.R := ⟨[], [(1, ⟨false, [.int .i64]⟩), (6, ⟨false, [.int .i64]⟩), (22, ⟨false, [.lst tBlock]⟩), (23, ⟨false, [.int .i64]⟩), (24, ⟨false, [.int .i64]⟩)], [], fun x => l x.1.1.1 x.1.2.1.1 x.1.2.2.1.1 x.1.2.2.2.1.1 x.1.2.2.2.2.1.1⟩
def impl_PlaceOf.L (l0 : Int → Int → (List tBlockD) → Int → Int → Option impl_PlaceOf.R) : List (LS impl_PlaceOf.R) := [impl_PlaceOf.L0 l0]
def impl_PlaceOf.c : Code := Tryz.f137.body.getD .skip
theorem impl_PlaceOf.eq (k : Nat) (x) : (impl_PlaceOf.s k).pf x = execF tab (impl_PlaceOf.E k) Tryz.f137 impl_PlaceOf.c (impl_PlaceOf.s k) (impl_PlaceOf.L (impl_PlaceOf.l0 k)) x := by kernel_rfl
theorem impl_PlaceOf.r0 (l0 : Int → Int → (List tBlockD) → Int → Int → Option impl_PlaceOf.R) (k : Nat) (x) : impl_PlaceOf.l0_ k l0 x.1.1.1 x.1.2.1.1 x.1.2.2.1.1 x.1.2.2.2.1.1 x.1.2.2.2.2.1.1 = roundOf tab (impl_PlaceOf.E k) (impl_PlaceOf.L l0) impl_PlaceOf.c (fin tab Tryz.f137 (impl_PlaceOf.s k)) 0 (impl_PlaceOf.L0 l0) x := by kernel_rfl
theorem impl_PlaceOf.sound : ∀ k, Sound Tryz.prog 137 (impl_PlaceOf.s k) := sound_of mixed tab_ok (f := 137) (fn := Tryz.f137) (c := impl_PlaceOf.c) (by kernel_rfl) (by kernel_rfl) (by kernel_rfl) ⟨[⟨true, [.lst (.int .i64), .int .i64, .lst tBlock]⟩, ⟨false, [.int .i64]⟩], [], true, [⟨false, [.int .i64]⟩, ⟨false, [.int .i64]⟩], [], []⟩ (by kernel_rfl) (by kernel_rfl) (fun k => (impl_PlaceOf.s k).pf) impl_PlaceOf.E (fun k => (EntsOK.cons (impl_isId.sound k) EntsOK.nil)) (fun k => impl_PlaceOf.L (impl_PlaceOf.l0 k)) (fun k => ⟨rfl, trivial⟩) ⟨fun _ => rfl, trivial⟩ (fun k => ⟨⟨(impl_PlaceOf.L0 (impl_PlaceOf.l0 (k + 1))).l, rfl, fun x => impl_PlaceOf.r0 (impl_PlaceOf.l0 k) k x⟩, trivial⟩) impl_PlaceOf.eq
end
end Go.Proofs.YtebgkcjpocfmmaaGreat.V
namespace Go.Proofs.YtebgkcjpocfmmaaGreat.V
open Go
set_option linter.unusedVariables false
noncomputable section
/-! ### impl.instOf: function 102 -/
abbrev impl_instOf.R := (((Int × Int × Int × Int × Int × Int × (List Int) × Unit) × (Bool × Unit) × Unit) × Unit)
def impl_instOf.f (k : Nat) (a0 : tFuncD) (a1 : Int) : Option impl_instOf.R := Option.bind (impl_PlaceOf.f k a0 a1) fun r1 => bif decide (r1.1.1.1 < 0) then (some (((0, 0, 0, 0, 0, 0, ([] : List Int), ()), (false, ()), ()), ())) else (bif (decide (0 ≤ r1.1.1.1)) && (decide (r1.1.1.1 < ((List.length a0.2.2.1 : Nat) : Int))) then (bif decide (r1.1.2.1.1 < ((List.length ((List.getD a0.2.2.1 (Int.toNat r1.1.1.1) tBlockZ).1) : Nat) : Int)) then (some (((0, 0, 0, 0, 0, 0, ([] : List Int), ()), (false, ()), ()), ())) else (bif (decide (0 ≤ r1.1.1.1)) && (decide (r1.1.1.1 < ((List.length a0.2.2.1 : Nat) : Int))) then (bif (decide (0 ≤ r1.1.1.1)) && (decide (r1.1.1.1 < ((List.length a0.2.2.1 : Nat) : Int))) then (bif (decide (0 ≤ IntKind.wrap .i64 (r1.1.2.1.1 - ((List.length ((List.getD a0.2.2.1 (Int.toNat r1.1.1.1) tBlockZ).1) : Nat) : Int)))) && (decide (IntKind.wrap .i64 (r1.1.2.1.1 - ((List.length ((List.getD a0.2.2.1 (Int.toNat r1.1.1.1) tBlockZ).1) : Nat) : Int)) < ((List.length ((List.getD a0.2.2.1 (Int.toNat r1.1.1.1) tBlockZ).2.1) : Nat) : Int))) then (some (((List.getD ((List.getD a0.2.2.1 (Int.toNat r1.1.1.1) tBlockZ).2.1) (Int.toNat (IntKind.wrap .i64 (r1.1.2.1.1 - ((List.length ((List.getD a0.2.2.1 (Int.toNat r1.1.1.1) tBlockZ).1) : Nat) : Int)))) tInstZ), (true, ()), ()), ())) else none) else none) else none)) else none)
def impl_instOf.s (k : Nat) : FS := ⟨[⟨true, [.lst (.int .i64), .int .i64, .lst tBlock]⟩, ⟨false, [.int .i64]⟩], [], true, [⟨true, [.int .i64, .int .i64, .int .i64, .int .i64, .int .i64, .int .i64, .lst (.int .i64)]⟩, ⟨false, [.bool]⟩], [], [], fun x => impl_instOf.f k x.1.1 x.1.2.1.1⟩
def impl_instOf.E (k : Nat) : Ents := [(⟨137, []⟩, impl_PlaceOf.s k)]
def impl_instOf.L : List (LS impl_instOf.R) := []
def impl_instOf.c : Code := Tryz.f102.body.getD .skip
theorem impl_instOf.eq (k : Nat) (x) : (impl_instOf.s k).pf x = execF tab (impl_instOf.E k) Tryz.f102 impl_instOf.c (impl_instOf.s k) impl_instOf.L x := by kernel_rfl
theorem impl_instOf.sound : ∀ k, Sound Tryz.prog 102 (impl_instOf.s k) := sound_of mixed tab_ok (f := 102) (fn := Tryz.f102) (c := impl_instOf.c) (by kernel_rfl) (by kernel_rfl) (by kernel_rfl) ⟨[⟨true, [.lst (.int .i64), .int .i64, .lst tBlock]⟩, ⟨false, [.int .i64]⟩], [], true, [⟨true, [.int .i64, .int .i64, .int .i64, .int .i64, .int .i64, .int .i64, .lst (.int .i64)]⟩, ⟨false, [.bool]⟩], [], []⟩ (by kernel_rfl) (by kernel_rfl) (fun k => (impl_instOf.s k).pf) impl_instOf.E (fun k => (EntsOK.cons (impl_PlaceOf.sound k) EntsOK.nil)) (fun k => impl_instOf.L) (fun k => trivial) trivial (fun k => trivial) impl_instOf.eq
end
end Go.Proofs.YtebgkcjpocfmmaaGreat.V
namespace Go.Proofs.YtebgkcjpocfmmaaGreat.V
open Go
set_option linter.unusedVariables false
noncomputable section
/-! ### impl.ResultWidth: function 181 -/
abbrev impl_ResultWidth.R := (((Int × Unit) × Unit) × Unit)
def impl_ResultWidth.f (k : Nat) (a0 : Int) (a1 : Int) : Option impl_ResultWidth.R := Option.bind (impl_isBinary.f k a0) fun r1 => bif !r1.1.1.1 then (some (((0, ()), ()), ())) else (Option.bind (impl_WidthOk.f k a1) fun r2 => bif !r2.1.1.1 then (some (((0, ()), ()), ())) else (bif decide (14 ≤ a0) then (some (((1, ()), ()), ())) else (some (((a1, ()), ()), ()))))
def impl_ResultWidth.s (k : Nat) : FS := ⟨[⟨false, [.int .i64]⟩, ⟨false, [.int .i64]⟩], [], false, [⟨false, [.int .i64]⟩], [], [], fun x => impl_ResultWidth.f k x.1.1.1 x.1.2.1.1⟩
def impl_ResultWidth.E (k : Nat) : Ents := [(⟨71, []⟩, impl_isBinary.s k), (⟨134, []⟩, impl_WidthOk.s k)]
def impl_ResultWidth.L : List (LS impl_ResultWidth.R) := []
def impl_ResultWidth.c : Code := Tryz.f181.body.getD .skip
theorem impl_ResultWidth.eq (k : Nat) (x) : (impl_ResultWidth.s k).pf x = execF tab (impl_ResultWidth.E k) Tryz.f181 impl_ResultWidth.c (impl_ResultWidth.s k) impl_ResultWidth.L x := by kernel_rfl
theorem impl_ResultWidth.sound : ∀ k, Sound Tryz.prog 181 (impl_ResultWidth.s k) := sound_of mixed tab_ok (f := 181) (fn := Tryz.f181) (c := impl_ResultWidth.c) (by kernel_rfl) (by kernel_rfl) (by kernel_rfl) ⟨[⟨false, [.int .i64]⟩, ⟨false, [.int .i64]⟩], [], false, [⟨false, [.int .i64]⟩], [], []⟩ (by kernel_rfl) (by kernel_rfl) (fun k => (impl_ResultWidth.s k).pf) impl_ResultWidth.E (fun k => (EntsOK.cons (impl_isBinary.sound k) (EntsOK.cons (impl_WidthOk.sound k) EntsOK.nil))) (fun k => impl_ResultWidth.L) (fun k => trivial) trivial (fun k => trivial) impl_ResultWidth.eq
end
end Go.Proofs.YtebgkcjpocfmmaaGreat.V
namespace Go.Proofs.YtebgkcjpocfmmaaGreat.V
open Go
set_option linter.unusedVariables false
noncomputable section
/-! ### impl.widthOf: function 138 -/
abbrev impl_widthOf.R := (((Int × Unit) × Unit) × Unit)
def impl_widthOf.f (k : Nat) (a0 : tInstD) : Option impl_widthOf.R := Option.bind (impl_isBinary.f k a0.1) fun r1 => bif r1.1.1.1 then (Option.bind (impl_ResultWidth.f k a0.1 a0.2.1) fun r2 => some (((r2.1.1.1, ()), ()), ())) else (bif decide (a0.1 = 24) then (some (((0, ()), ()), ())) else (bif decide (a0.1 = 25) then (some (((0, ()), ()), ())) else (some (((a0.2.1, ()), ()), ()))))
def impl_widthOf.s (k : Nat) : FS := ⟨[⟨true, [.int .i64, .int .i64, .int .i64, .int .i64, .int .i64, .int .i64, .lst (.int .i64)]⟩], [], false, [⟨false, [.int .i64]⟩], [], [], fun x => impl_widthOf.f k x.1.1⟩
def impl_widthOf.E (k : Nat) : Ents := [(⟨71, []⟩, impl_isBinary.s k), (⟨181, []⟩, impl_ResultWidth.s k)]
def impl_widthOf.L : List (LS impl_widthOf.R) := []
def impl_widthOf.c : Code := Tryz.f138.body.getD .skip
theorem impl_widthOf.eq (k : Nat) (x) : (impl_widthOf.s k).pf x = execF tab (impl_widthOf.E k) Tryz.f138 impl_widthOf.c (impl_widthOf.s k) impl_widthOf.L x := by kernel_rfl
theorem impl_widthOf.sound : ∀ k, Sound Tryz.prog 138 (impl_widthOf.s k) := sound_of mixed tab_ok (f := 138) (fn := Tryz.f138) (c := impl_widthOf.c) (by kernel_rfl) (by kernel_rfl) (by kernel_rfl) ⟨[⟨true, [.int .i64, .int .i64, .int .i64, .int .i64, .int .i64, .int .i64, .lst (.int .i64)]⟩], [], false, [⟨false, [.int .i64]⟩], [], []⟩ (by kernel_rfl) (by kernel_rfl) (fun k => (impl_widthOf.s k).pf) impl_widthOf.E (fun k => (EntsOK.cons (impl_isBinary.sound k) (EntsOK.cons (impl_ResultWidth.sound k) EntsOK.nil))) (fun k => impl_widthOf.L) (fun k => trivial) trivial (fun k => trivial) impl_widthOf.eq
end
end Go.Proofs.YtebgkcjpocfmmaaGreat.V
namespace Go.Proofs.YtebgkcjpocfmmaaGreat.V
open Go
set_option linter.unusedVariables false
noncomputable section
/-! ### impl.TypeOf: function 75 -/
abbrev impl_TypeOf.R := (((Int × Unit) × Unit) × Unit)
def impl_TypeOf.f (k : Nat) (a0 : tFuncD) (a1 : Int) : Option impl_TypeOf.R := Option.bind (impl_PlaceOf.f k a0 a1) fun r1 => bif decide (r1.1.1.1 = -2) then (some (((-1, ()), ()), ())) else (bif decide (r1.1.1.1 = -1) then (bif (decide (0 ≤ r1.1.2.1.1)) && (decide (r1.1.2.1.1 < ((List.length a0.1 : Nat) : Int))) then (some (((List.getD a0.1 (Int.toNat r1.1.2.1.1) 0, ()), ()), ())) else none) else (bif (decide (0 ≤ r1.1.1.1)) && (decide (r1.1.1.1 < ((List.length a0.2.2.1 : Nat) : Int))) then (bif decide (r1.1.2.1.1 < ((List.length ((List.getD a0.2.2.1 (Int.toNat r1.1.1.1) tBlockZ).1) : Nat) : Int)) then (bif (decide (0 ≤ r1.1.1.1)) && (decide (r1.1.1.1 < ((List.length a0.2.2.1 : Nat) : Int))) then (bif (decide (0 ≤ r1.1.2.1.1)) && (decide (r1.1.2.1.1 < ((List.length ((List.getD a0.2.2.1 (Int.toNat r1.1.1.1) tBlockZ).1) : Nat) : Int))) then (some ((((List.getD ((List.getD a0.2.2.1 (Int.toNat r1.1.1.1) tBlockZ).1) (Int.toNat r1.1.2.1.1) tPhiZ).1, ()), ()), ())) else none) else none) else (Option.bind (impl_instOf.f k a0 a1) fun r2 => Option.bind (impl_widthOf.f k r2.1.1) fun r3 => some (((r3.1.1.1, ()), ()), ()))) else none))
def impl_TypeOf.s (k : Nat) : FS := ⟨[⟨true, [.lst (.int .i64), .int .i64, .lst tBlock]⟩, ⟨false, [.int .i64]⟩], [], false, [⟨false, [.int .i64]⟩], [], [], fun x => impl_TypeOf.f k x.1.1 x.1.2.1.1⟩
def impl_TypeOf.E (k : Nat) : Ents := [(⟨137, []⟩, impl_PlaceOf.s k), (⟨102, []⟩, impl_instOf.s k), (⟨138, []⟩, impl_widthOf.s k)]
def impl_TypeOf.L : List (LS impl_TypeOf.R) := []
def impl_TypeOf.c : Code := Tryz.f75.body.getD .skip
theorem impl_TypeOf.eq (k : Nat) (x) : (impl_TypeOf.s k).pf x = execF tab (impl_TypeOf.E k) Tryz.f75 impl_TypeOf.c (impl_TypeOf.s k) impl_TypeOf.L x := by kernel_rfl
theorem impl_TypeOf.sound : ∀ k, Sound Tryz.prog 75 (impl_TypeOf.s k) := sound_of mixed tab_ok (f := 75) (fn := Tryz.f75) (c := impl_TypeOf.c) (by kernel_rfl) (by kernel_rfl) (by kernel_rfl) ⟨[⟨true, [.lst (.int .i64), .int .i64, .lst tBlock]⟩, ⟨false, [.int .i64]⟩], [], false, [⟨false, [.int .i64]⟩], [], []⟩ (by kernel_rfl) (by kernel_rfl) (fun k => (impl_TypeOf.s k).pf) impl_TypeOf.E (fun k => (EntsOK.cons (impl_PlaceOf.sound k) (EntsOK.cons (impl_instOf.sound k) (EntsOK.cons (impl_widthOf.sound k) EntsOK.nil)))) (fun k => impl_TypeOf.L) (fun k => trivial) trivial (fun k => trivial) impl_TypeOf.eq
end
end Go.Proofs.YtebgkcjpocfmmaaGreat.V
namespace Go.Proofs.YtebgkcjpocfmmaaGreat.V
open Go
set_option linter.unusedVariables false
noncomputable section
/-! ### impl.areTypes$1: function 158 -/
abbrev impl_areTypes_1.R := (((Bool × Unit) × Unit) × Unit)
def impl_areTypes_1.f (k : Nat) (a0 : Int) (a1 : tFuncD) (a2 : tPhiD) : Option impl_areTypes_1.R := Option.bind (impl_TypeOf.f k a1 a0) fun r1 => some (((!decide (r1.1.1.1 = a2.1), ()), ()), ())
def impl_areTypes_1.s (k : Nat) : FS := ⟨[⟨false, [.int .i64]⟩, ⟨false, [.ptr 0 0]⟩, ⟨false, [.ptr 1 0]⟩], [(0, .cbox [.lst (.int .i64), .int .i64, .lst tBlock]), (1, .cbox [.int .i64, .lst (.int .i64)])], false, [⟨false, [.bool]⟩], [], [], fun x => impl_areTypes_1.f k x.1.1.1 x.2.1 x.2.2.1⟩
def impl_areTypes_1.E (k : Nat) : Ents := [(⟨75, []⟩, impl_TypeOf.s k)]
def impl_areTypes_1.L : List (LS impl_areTypes_1.R) := []
def impl_areTypes_1.c : Code := Tryz.f158.body.getD .skip
theorem impl_areTypes_1.eq (k : Nat) (x) : (impl_areTypes_1.s k).pf x = execF tab (impl_areTypes_1.E k) Tryz.f158 impl_areTypes_1.c (impl_areTypes_1.s k) impl_areTypes_1.L x := by kernel_rfl
theorem impl_areTypes_1.sound : ∀ k, Sound Tryz.prog 158 (impl_areTypes_1.s k) := sound_of mixed tab_ok (f := 158) (fn := Tryz.f158) (c := impl_areTypes_1.c) (by kernel_rfl) (by kernel_rfl) (by kernel_rfl) ⟨[⟨false, [.int .i64]⟩, ⟨false, [.ptr 0 0]⟩, ⟨false, [.ptr 1 0]⟩], [(0, .cbox [.lst (.int .i64), .int .i64, .lst tBlock]), (1, .cbox [.int .i64, .lst (.int .i64)])], false, [⟨false, [.bool]⟩], [], []⟩ (by kernel_rfl) (by kernel_rfl) (fun k => (impl_areTypes_1.s k).pf) impl_areTypes_1.E (fun k => (EntsOK.cons (impl_TypeOf.sound k) EntsOK.nil)) (fun k => impl_areTypes_1.L) (fun k => trivial) trivial (fun k => trivial) impl_areTypes_1.eq
end
end Go.Proofs.YtebgkcjpocfmmaaGreat.V
namespace Go.Proofs.YtebgkcjpocfmmaaGreat.V
open Go
set_option linter.unusedVariables false
noncomputable section
/-! ### slices.IndexFunc[[]int64,int64]: function 183 -/
abbrev slices_IndexFunc_int64_int64_5.R := (((Int × Unit) × Unit) × Unit)
def slices_IndexFunc_int64_int64_5.l0_ (k : Nat) (l0 : (List Int) → Int → Int → tFuncD → tPhiD → Option slices_IndexFunc_int64_int64_5.R) (a0 : List Int) (a1 : Int) (a2 : Int) (a3 : tFuncD) (a4 : tPhiD) : Option slices_IndexFunc_int64_int64_5.R := bif decide (a2 < a1) then (bif (decide (0 ≤ a2)) && (decide (a2 < ((List.length a0 : Nat) : Int))) then (Option.bind (impl_areTypes_1.f k (List.getD a0 (Int.toNat a2) 0) a3 a4) fun r1 => bif r1.1.1.1 then (some (((a2, ()), ()), ())) else (l0 a0 a1 (IntKind.wrap .i64 (a2 + 1)) a3 a4)) else none) else (some (((-1, ()), ()), ()))
def slices_IndexFunc_int64_int64_5.all : Nat → ((List Int) → Int → Int → tFuncD → tPhiD → Option slices_IndexFunc_int64_int64_5.R) × Unit
  | 0 => (fun _ _ _ _ _ => none, ())
  | k + 1 => (slices_IndexFunc_int64_int64_5.l0_ k (slices_IndexFunc_int64_int64_5.all k).1, ())
def slices_IndexFunc_int64_int64_5.l0 (k : Nat) : (List Int) → Int → Int → tFuncD → tPhiD → Option slices_IndexFunc_int64_int64_5.R := (slices_IndexFunc_int64_int64_5.all k).1
def slices_IndexFunc_int64_int64_5.f (k : Nat) (a0 : List Int) (a1 : tFuncD) (a2 : tPhiD) : Option slices_IndexFunc_int64_int64_5.R := slices_IndexFunc_int64_int64_5.l0 k a0 ((List.length a0 : Nat) : Int) 0 a1 a2
def slices_IndexFunc_int64_int64_5.s (k : Nat) : FS := ⟨[⟨false, [.lst (.int .i64)]⟩, ⟨false, [.fn 158 [(0, 0), (1, 0)]]⟩], [(0, .cbox [.lst (.int .i64), .int .i64, .lst tBlock]), (1, .cbox [.int .i64, .lst (.int .i64)])], false, [⟨false, [.int .i64]⟩], [], [], fun x => slices_IndexFunc_int64_int64_5.f k x.1.1.1 x.2.1 x.2.2.1⟩
def slices_IndexFunc_int64_int64_5.E (k : Nat) : Ents := [(⟨158, []⟩, impl_areTypes_1.s k)]
def slices_IndexFunc_int64_int64_5.L0 (l : (List Int) → Int → Int → tFuncD → tPhiD → Option slices_IndexFunc_int64_int64_5.R) : LS slices_IndexFunc_int64_int64_5.R := ⟨[], [(0, ⟨false, [.lst (.int .i64)]⟩), (1, ⟨false, [.fn 158 [(0, 0), (1, 0)]]⟩), (7, ⟨false, [.int .i64]⟩), (8, ⟨false, [.int .i64]⟩)], [(0, .cbox [.lst (.int .i64), .int .i64, .lst tBlock]), (1, .cbox [.int .i64, .lst (.int .i64)])], fun x => l x.1.1.1 x.1.2.2.1.1 x.1.2.2.2.1.1 x.2.1 x.2.2.1⟩
def slices_IndexFunc_int64_int64_5.L (l0 : (List Int) → Int → Int → tFuncD → tPhiD → Option slices_IndexFunc_int64_int64_5.R) : List (LS slices_IndexFunc_int64_int64_5.R) := [slices_IndexFunc_int64_int64_5.L0 l0]
def slices_IndexFunc_int64_int64_5.c : Code := Tryz.f183.body.getD .skip
theorem slices_IndexFunc_int64_int64_5.eq (k : Nat) (x) : (slices_IndexFunc_int64_int64_5.s k).pf x = execF tab (slices_IndexFunc_int64_int64_5.E k) Tryz.f183 slices_IndexFunc_int64_int64_5.c (slices_IndexFunc_int64_int64_5.s k) (slices_IndexFunc_int64_int64_5.L (slices_IndexFunc_int64_int64_5.l0 k)) x := by kernel_rfl
theorem slices_IndexFunc_int64_int64_5.r0 (l0 : (List Int) → Int → Int → tFuncD → tPhiD → Option slices_IndexFunc_int64_int64_5.R) (k : Nat) (x) : slices_IndexFunc_int64_int64_5.l0_ k l0 x.1.1.1 x.1.2.2.1.1 x.1.2.2.2.1.1 x.2.1 x.2.2.1 = roundOf tab (slices_IndexFunc_int64_int64_5.E k) (slices_IndexFunc_int64_int64_5.L l0) slices_IndexFunc_int64_int64_5.c (fin tab Tryz.f183 (slices_IndexFunc_int64_int64_5.s k)) 0 (slices_IndexFunc_int64_int64_5.L0 l0) x := by kernel_rfl
theorem slices_IndexFunc_int64_int64_5.sound : ∀ k, Sound Tryz.prog 183 (slices_IndexFunc_int64_int64_5.s k) := sound_of mixed tab_ok (f := 183) (fn := Tryz.f183) (c := slices_IndexFunc_int64_int64_5.c) (by kernel_rfl) (by kernel_rfl) (by kernel_rfl) ⟨[⟨false, [.lst (.int .i64)]⟩, ⟨false, [.fn 158 [(0, 0), (1, 0)]]⟩], [(0, .cbox [.lst (.int .i64), .int .i64, .lst tBlock]), (1, .cbox [.int .i64, .lst (.int .i64)])], false, [⟨false, [.int .i64]⟩], [], []⟩ (by kernel_rfl) (by kernel_rfl) (fun k => (slices_IndexFunc_int64_int64_5.s k).pf) slices_IndexFunc_int64_int64_5.E (fun k => (EntsOK.cons (impl_areTypes_1.sound k) EntsOK.nil)) (fun k => slices_IndexFunc_int64_int64_5.L (slices_IndexFunc_int64_int64_5.l0 k)) (fun k => ⟨rfl, trivial⟩) ⟨fun _ => rfl, trivial⟩ (fun k => ⟨⟨(slices_IndexFunc_int64_int64_5.L0 (slices_IndexFunc_int64_int64_5.l0 (k + 1))).l, rfl, fun x => slices_IndexFunc_int64_int64_5.r0 (slices_IndexFunc_int64_int64_5.l0 k) k x⟩, trivial⟩) slices_IndexFunc_int64_int64_5.eq
end
end Go.Proofs.YtebgkcjpocfmmaaGreat.V
namespace Go.Proofs.YtebgkcjpocfmmaaGreat.V
open Go
set_option linter.unusedVariables false
noncomputable section
/-! ### slices.ContainsFunc[[]int64,int64]: function 148 -/
abbrev slices_ContainsFunc_int64_int64_5.R := (((Bool × Unit) × Unit) × Unit)
def slices_ContainsFunc_int64_int64_5.f (k : Nat) (a0 : List Int) (a1 : tFuncD) (a2 : tPhiD) : Option slices_ContainsFunc_int64_int64_5.R := Option.bind (slices_IndexFunc_int64_int64_5.f k a0 a1 a2) fun r1 => some (((decide (0 ≤ r1.1.1.1), ()), ()), ())
def slices_ContainsFunc_int64_int64_5.s (k : Nat) : FS := ⟨[⟨false, [.lst (.int .i64)]⟩, ⟨false, [.fn 158 [(0, 0), (1, 0)]]⟩], [(0, .cbox [.lst (.int .i64), .int .i64, .lst tBlock]), (1, .cbox [.int .i64, .lst (.int .i64)])], false, [⟨false, [.bool]⟩], [], [], fun x => slices_ContainsFunc_int64_int64_5.f k x.1.1.1 x.2.1 x.2.2.1⟩
def slices_ContainsFunc_int64_int64_5.E (k : Nat) : Ents := [(⟨183, [158]⟩, slices_IndexFunc_int64_int64_5.s k)]
def slices_ContainsFunc_int64_int64_5.L : List (LS slices_ContainsFunc_int64_int64_5.R) := []
def slices_ContainsFunc_int64_int64_5.c : Code := Tryz.f148.body.getD .skip
theorem slices_ContainsFunc_int64_int64_5.eq (k : Nat) (x) : (slices_ContainsFunc_int64_int64_5.s k).pf x = execF tab (slices_ContainsFunc_int64_int64_5.E k) Tryz.f148 slices_ContainsFunc_int64_int64_5.c (slices_ContainsFunc_int64_int64_5.s k) slices_ContainsFunc_int64_int64_5.L x := by kernel_rfl
theorem slices_ContainsFunc_int64_int64_5.sound : ∀ k, Sound Tryz.prog 148 (slices_ContainsFunc_int64_int64_5.s k) := sound_of mixed tab_ok (f := 148) (fn := Tryz.f148) (c := slices_ContainsFunc_int64_int64_5.c) (by kernel_rfl) (by kernel_rfl) (by kernel_rfl) ⟨[⟨false, [.lst (.int .i64)]⟩, ⟨false, [.fn 158 [(0, 0), (1, 0)]]⟩], [(0, .cbox [.lst (.int .i64), .int .i64, .lst tBlock]), (1, .cbox [.int .i64, .lst (.int .i64)])], false, [⟨false, [.bool]⟩], [], []⟩ (by kernel_rfl) (by kernel_rfl) (fun k => (slices_ContainsFunc_int64_int64_5.s k).pf) slices_ContainsFunc_int64_int64_5.E (fun k => (EntsOK.cons (slices_IndexFunc_int64_int64_5.sound k) EntsOK.nil)) (fun k => slices_ContainsFunc_int64_int64_5.L) (fun k => trivial) trivial (fun k => trivial) slices_ContainsFunc_int64_int64_5.eq
end
end Go.Proofs.YtebgkcjpocfmmaaGreat.V
namespace Go.Proofs.YtebgkcjpocfmmaaGreat.V
open Go
set_option linter.unusedVariables false
noncomputable section
/-! ### impl.areTyped$1: function 190 -/
abbrev impl_areTyped_1.R := (((Bool × Unit) × Unit) × Unit)
def impl_areTyped_1.f (k : Nat) (a0 : Int) (a1 : Int) (a2 : tFuncD) : Option impl_areTyped_1.R := Option.bind (impl_TypeOf.f k a2 a0) fun r1 => some (((decide (r1.1.1.1 = a1), ()), ()), ())
def impl_areTyped_1.s (k : Nat) : FS := ⟨[⟨false, [.int .i64]⟩, ⟨false, [.int .i64]⟩, ⟨false, [.ptr 0 0]⟩], [(0, .cbox [.lst (.int .i64), .int .i64, .lst tBlock])], false, [⟨false, [.bool]⟩], [], [], fun x => impl_areTyped_1.f k x.1.1.1 x.1.2.1.1 x.2.1⟩
def impl_areTyped_1.E (k : Nat) : Ents := [(⟨75, []⟩, impl_TypeOf.s k)]
def impl_areTyped_1.L : List (LS impl_areTyped_1.R) := []
def impl_areTyped_1.c : Code := Tryz.f190.body.getD .skip
theorem impl_areTyped_1.eq (k : Nat) (x) : (impl_areTyped_1.s k).pf x = execF tab (impl_areTyped_1.E k) Tryz.f190 impl_areTyped_1.c (impl_areTyped_1.s k) impl_areTyped_1.L x := by kernel_rfl
theorem impl_areTyped_1.sound : ∀ k, Sound Tryz.prog 190 (impl_areTyped_1.s k) := sound_of mixed tab_ok (f := 190) (fn := Tryz.f190) (c := impl_areTyped_1.c) (by kernel_rfl) (by kernel_rfl) (by kernel_rfl) ⟨[⟨false, [.int .i64]⟩, ⟨false, [.int .i64]⟩, ⟨false, [.ptr 0 0]⟩], [(0, .cbox [.lst (.int .i64), .int .i64, .lst tBlock])], false, [⟨false, [.bool]⟩], [], []⟩ (by kernel_rfl) (by kernel_rfl) (fun k => (impl_areTyped_1.s k).pf) impl_areTyped_1.E (fun k => (EntsOK.cons (impl_TypeOf.sound k) EntsOK.nil)) (fun k => impl_areTyped_1.L) (fun k => trivial) trivial (fun k => trivial) impl_areTyped_1.eq
end
end Go.Proofs.YtebgkcjpocfmmaaGreat.V
namespace Go.Proofs.YtebgkcjpocfmmaaGreat.V
open Go
set_option linter.unusedVariables false
noncomputable section
/-! ### impl.areTyped: function 160 -/
abbrev impl_areTyped.R := (((Bool × Unit) × Unit) × Unit)
def impl_areTyped.f (k : Nat) (a0 : tFuncD) (a1 : tInstD) : Option impl_areTyped.R := Option.bind (impl_TypeOf.f k a0 a1.2.2.1) fun r1 => Option.bind (impl_isBinary.f k a1.1) fun r2 => bif r2.1.1.1 then (Option.bind (impl_areTyped_1.f k a1.2.2.1 a1.2.1 a0) fun r3 => bif r3.1.1.1 then (Option.bind (impl_areTyped_1.f k a1.2.2.2.1 a1.2.1 a0) fun r4 => some (((r4.1.1.1, ()), ()), ())) else (some (((false, ()), ()), ()))) else (bif decide (a1.1 = 27) then (Option.bind (impl_areTyped_1.f k a1.2.2.1 a1.2.1 a0) fun r5 => some (((r5.1.1.1, ()), ()), ())) else (bif decide (a1.1 = 18) then (bif !decide (r1.1.1.1 = 0) then (some (((decide (r1.1.1.1 < a1.2.1), ()), ()), ())) else (some (((false, ()), ()), ()))) else (bif decide (a1.1 = 19) then (bif !decide (r1.1.1.1 = 0) then (some (((decide (r1.1.1.1 < a1.2.1), ()), ()), ())) else (some (((false, ()), ()), ()))) else (bif decide (a1.1 = 20) then (some (((decide (a1.2.1 < r1.1.1.1), ()), ()), ())) else (bif decide (a1.1 = 22) then (Option.bind (impl_areTyped_1.f k a1.2.2.1 1 a0) fun r6 => bif r6.1.1.1 then (Option.bind (impl_areTyped_1.f k a1.2.2.2.1 a1.2.1 a0) fun r7 => bif r7.1.1.1 then (Option.bind (impl_areTyped_1.f k a1.2.2.2.2.1 a1.2.1 a0) fun r8 => some (((r8.1.1.1, ()), ()), ())) else (some (((false, ()), ()), ()))) else (some (((false, ()), ()), ()))) else (bif decide (a1.1 = 23) then (Option.bind (impl_areTyped_1.f k a1.2.2.1 32 a0) fun r9 => some (((r9.1.1.1, ()), ()), ())) else (bif decide (a1.1 = 24) then (Option.bind (impl_areTyped_1.f k a1.2.2.1 32 a0) fun r10 => bif r10.1.1.1 then (Option.bind (impl_areTyped_1.f k a1.2.2.2.1 8 a0) fun r11 => some (((r11.1.1.1, ()), ()), ())) else (some (((false, ()), ()), ()))) else (bif decide (a1.1 = 25) then (some (((!decide (r1.1.1.1 = 0), ()), ()), ())) else (some (((true, ()), ()), ()))))))))))
def impl_areTyped.s (k : Nat) : FS := ⟨[⟨true, [.lst (.int .i64), .int .i64, .lst tBlock]⟩, ⟨true, [.int .i64, .int .i64, .int .i64, .int .i64, .int .i64, .int .i64, .lst (.int .i64)]⟩], [], false, [⟨false, [.bool]⟩], [], [], fun x => impl_areTyped.f k x.1.1 x.1.2.1⟩
def impl_areTyped.E (k : Nat) : Ents := [(⟨75, []⟩, impl_TypeOf.s k), (⟨71, []⟩, impl_isBinary.s k), (⟨190, []⟩, impl_areTyped_1.s k)]
def impl_areTyped.L : List (LS impl_areTyped.R) := []
def impl_areTyped.c : Code := Tryz.f160.body.getD .skip
theorem impl_areTyped.eq (k : Nat) (x) : (impl_areTyped.s k).pf x = execF tab (impl_areTyped.E k) Tryz.f160 impl_areTyped.c (impl_areTyped.s k) impl_areTyped.L x := by kernel_rfl
theorem impl_areTyped.sound : ∀ k, Sound Tryz.prog 160 (impl_areTyped.s k) := sound_of mixed tab_ok (f := 160) (fn := Tryz.f160) (c := impl_areTyped.c) (by kernel_rfl) (by kernel_rfl) (by kernel_rfl) ⟨[⟨true, [.lst (.int .i64), .int .i64, .lst tBlock]⟩, ⟨true, [.int .i64, .int .i64, .int .i64, .int .i64, .int .i64, .int .i64, .lst (.int .i64)]⟩], [], false, [⟨false, [.bool]⟩], [], []⟩ (by kernel_rfl) (by kernel_rfl) (fun k => (impl_areTyped.s k).pf) impl_areTyped.E (fun k => (EntsOK.cons (impl_TypeOf.sound k) (EntsOK.cons (impl_isBinary.sound k) (EntsOK.cons (impl_areTyped_1.sound k) EntsOK.nil)))) (fun k => impl_areTyped.L) (fun k => trivial) trivial (fun k => trivial) impl_areTyped.eq
end
end Go.Proofs.YtebgkcjpocfmmaaGreat.V
namespace Go.Proofs.YtebgkcjpocfmmaaGreat.V
open Go
set_option linter.unusedVariables false
noncomputable section
/-! ### impl.areTypes$2: function 159 -/
abbrev impl_areTypes_2.R := (((Bool × Unit) × Unit) × Unit)
def impl_areTypes_2.f (k : Nat) (a0 : tInstD) (a1 : tFuncD) : Option impl_areTypes_2.R := Option.bind (impl_areTyped.f k a1 a0) fun r1 => some (((!r1.1.1.1, ()), ()), ())
def impl_areTypes_2.s (k : Nat) : FS := ⟨[⟨true, [.int .i64, .int .i64, .int .i64, .int .i64, .int .i64, .int .i64, .lst (.int .i64)]⟩, ⟨false, [.ptr 0 0]⟩], [(0, .cbox [.lst (.int .i64), .int .i64, .lst tBlock])], false, [⟨false, [.bool]⟩], [], [], fun x => impl_areTypes_2.f k x.1.1 x.2.1⟩
def impl_areTypes_2.E (k : Nat) : Ents := [(⟨160, []⟩, impl_areTyped.s k)]
def impl_areTypes_2.L : List (LS impl_areTypes_2.R) := []
def impl_areTypes_2.c : Code := Tryz.f159.body.getD .skip
theorem impl_areTypes_2.eq (k : Nat) (x) : (impl_areTypes_2.s k).pf x = execF tab (impl_areTypes_2.E k) Tryz.f159 impl_areTypes_2.c (impl_areTypes_2.s k) impl_areTypes_2.L x := by kernel_rfl
theorem impl_areTypes_2.sound : ∀ k, Sound Tryz.prog 159 (impl_areTypes_2.s k) := sound_of mixed tab_ok (f := 159) (fn := Tryz.f159) (c := impl_areTypes_2.c) (by kernel_rfl) (by kernel_rfl) (by kernel_rfl) ⟨[⟨true, [.int .i64, .int .i64, .int .i64, .int .i64, .int .i64, .int .i64, .lst (.int .i64)]⟩, ⟨false, [.ptr 0 0]⟩], [(0, .cbox [.lst (.int .i64), .int .i64, .lst tBlock])], false, [⟨false, [.bool]⟩], [], []⟩ (by kernel_rfl) (by kernel_rfl) (fun k => (impl_areTypes_2.s k).pf) impl_areTypes_2.E (fun k => (EntsOK.cons (impl_areTyped.sound k) EntsOK.nil)) (fun k => impl_areTypes_2.L) (fun k => trivial) trivial (fun k => trivial) impl_areTypes_2.eq
end
end Go.Proofs.YtebgkcjpocfmmaaGreat.V
namespace Go.Proofs.YtebgkcjpocfmmaaGreat.V
open Go
set_option linter.unusedVariables false
noncomputable section
/-! ### slices.IndexFunc[[]impl.Inst,impl.Inst]: function 161 -/
abbrev slices_IndexFunc_impl_Inst_impl_Inst_2.R := (((Int × Unit) × Unit) × Unit)
def slices_IndexFunc_impl_Inst_impl_Inst_2.l0_ (k : Nat) (l0 : (List tInstD) → Int → Int → tFuncD → Option slices_IndexFunc_impl_Inst_impl_Inst_2.R) (a0 : List tInstD) (a1 : Int) (a2 : Int) (a3 : tFuncD) : Option slices_IndexFunc_impl_Inst_impl_Inst_2.R := bif decide (a2 < a1) then (bif (decide (0 ≤ a2)) && (decide (a2 < ((List.length a0 : Nat) : Int))) then (Option.bind (impl_areTypes_2.f k (List.getD a0 (Int.toNat a2) tInstZ) a3) fun r1 => bif r1.1.1.1 then (some (((a2, ()), ()), ())) else (l0 a0 a1 (IntKind.wrap .i64 (a2 + 1)) a3)) else none) else (some (((-1, ()), ()), ()))
def slices_IndexFunc_impl_Inst_impl_Inst_2.all : Nat → ((List tInstD) → Int → Int → tFuncD → Option slices_IndexFunc_impl_Inst_impl_Inst_2.R) × Unit
  | 0 => (fun _ _ _ _ => none, ())
  | k + 1 => (slices_IndexFunc_impl_Inst_impl_Inst_2.l0_ k (slices_IndexFunc_impl_Inst_impl_Inst_2.all k).1, ())
def slices_IndexFunc_impl_Inst_impl_Inst_2.l0 (k : Nat) : (List tInstD) → Int → Int → tFuncD → Option slices_IndexFunc_impl_Inst_impl_Inst_2.R := (slices_IndexFunc_impl_Inst_impl_Inst_2.all k).1
def slices_IndexFunc_impl_Inst_impl_Inst_2.f (k : Nat) (a0 : List tInstD) (a1 : tFuncD) : Option slices_IndexFunc_impl_Inst_impl_Inst_2.R := slices_IndexFunc_impl_Inst_impl_Inst_2.l0 k a0 ((List.length a0 : Nat) : Int) 0 a1
def slices_IndexFunc_impl_Inst_impl_Inst_2.s (k : Nat) : FS := ⟨[⟨false, [.lst tInst]⟩, ⟨false, [.fn 159 [(0, 0)]]⟩], [(0, .cbox [.lst (.int .i64), .int .i64, .lst tBlock])], false, [⟨false, [.int .i64]⟩], [], [], fun x => slices_IndexFunc_impl_Inst_impl_Inst_2.f k x.1.1.1 x.2.1⟩
def slices_IndexFunc_impl_Inst_impl_Inst_2.E (k : Nat) : Ents := [(⟨159, []⟩, impl_areTypes_2.s k)]
def slices_IndexFunc_impl_Inst_impl_Inst_2.L0 (l : (List tInstD) → Int → Int → tFuncD → Option slices_IndexFunc_impl_Inst_impl_Inst_2.R) : LS slices_IndexFunc_impl_Inst_impl_Inst_2.R := ⟨[], [(0, ⟨false, [.lst tInst]⟩), (1, ⟨false, [.fn 159 [(0, 0)]]⟩), (7, ⟨false, [.int .i64]⟩), (8, ⟨false, [.int .i64]⟩)], [(0, .cbox [.lst (.int .i64), .int .i64, .lst tBlock])], fun x => l x.1.1.1 x.1.2.2.1.1 x.1.2.2.2.1.1 x.2.1⟩
def slices_IndexFunc_impl_Inst_impl_Inst_2.L (l0 : (List tInstD) → Int → Int → tFuncD → Option slices_IndexFunc_impl_Inst_impl_Inst_2.R) : List (LS slices_IndexFunc_impl_Inst_impl_Inst_2.R) := [slices_IndexFunc_impl_Inst_impl_Inst_2.L0 l0]
def slices_IndexFunc_impl_Inst_impl_Inst_2.c : Code := Tryz.f161.body.getD .skip
theorem slices_IndexFunc_impl_Inst_impl_Inst_2.eq (k : Nat) (x) : (slices_IndexFunc_impl_Inst_impl_Inst_2.s k).pf x = execF tab (slices_IndexFunc_impl_Inst_impl_Inst_2.E k) Tryz.f161 slices_IndexFunc_impl_Inst_impl_Inst_2.c (slices_IndexFunc_impl_Inst_impl_Inst_2.s k) (slices_IndexFunc_impl_Inst_impl_Inst_2.L (slices_IndexFunc_impl_Inst_impl_Inst_2.l0 k)) x := by kernel_rfl
theorem slices_IndexFunc_impl_Inst_impl_Inst_2.r0 (l0 : (List tInstD) → Int → Int → tFuncD → Option slices_IndexFunc_impl_Inst_impl_Inst_2.R) (k : Nat) (x) : slices_IndexFunc_impl_Inst_impl_Inst_2.l0_ k l0 x.1.1.1 x.1.2.2.1.1 x.1.2.2.2.1.1 x.2.1 = roundOf tab (slices_IndexFunc_impl_Inst_impl_Inst_2.E k) (slices_IndexFunc_impl_Inst_impl_Inst_2.L l0) slices_IndexFunc_impl_Inst_impl_Inst_2.c (fin tab Tryz.f161 (slices_IndexFunc_impl_Inst_impl_Inst_2.s k)) 0 (slices_IndexFunc_impl_Inst_impl_Inst_2.L0 l0) x := by kernel_rfl
theorem slices_IndexFunc_impl_Inst_impl_Inst_2.sound : ∀ k, Sound Tryz.prog 161 (slices_IndexFunc_impl_Inst_impl_Inst_2.s k) := sound_of mixed tab_ok (f := 161) (fn := Tryz.f161) (c := slices_IndexFunc_impl_Inst_impl_Inst_2.c) (by kernel_rfl) (by kernel_rfl) (by kernel_rfl) ⟨[⟨false, [.lst tInst]⟩, ⟨false, [.fn 159 [(0, 0)]]⟩], [(0, .cbox [.lst (.int .i64), .int .i64, .lst tBlock])], false, [⟨false, [.int .i64]⟩], [], []⟩ (by kernel_rfl) (by kernel_rfl) (fun k => (slices_IndexFunc_impl_Inst_impl_Inst_2.s k).pf) slices_IndexFunc_impl_Inst_impl_Inst_2.E (fun k => (EntsOK.cons (impl_areTypes_2.sound k) EntsOK.nil)) (fun k => slices_IndexFunc_impl_Inst_impl_Inst_2.L (slices_IndexFunc_impl_Inst_impl_Inst_2.l0 k)) (fun k => ⟨rfl, trivial⟩) ⟨fun _ => rfl, trivial⟩ (fun k => ⟨⟨(slices_IndexFunc_impl_Inst_impl_Inst_2.L0 (slices_IndexFunc_impl_Inst_impl_Inst_2.l0 (k + 1))).l, rfl, fun x => slices_IndexFunc_impl_Inst_impl_Inst_2.r0 (slices_IndexFunc_impl_Inst_impl_Inst_2.l0 k) k x⟩, trivial⟩) slices_IndexFunc_impl_Inst_impl_Inst_2.eq
end
end Go.Proofs.YtebgkcjpocfmmaaGreat.V
namespace Go.Proofs.YtebgkcjpocfmmaaGreat.V
open Go
set_option linter.unusedVariables false
noncomputable section
/-! ### slices.ContainsFunc[[]impl.Inst,impl.Inst]: function 91 -/
abbrev slices_ContainsFunc_impl_Inst_impl_Inst_2.R := (((Bool × Unit) × Unit) × Unit)
def slices_ContainsFunc_impl_Inst_impl_Inst_2.f (k : Nat) (a0 : List tInstD) (a1 : tFuncD) : Option slices_ContainsFunc_impl_Inst_impl_Inst_2.R := Option.bind (slices_IndexFunc_impl_Inst_impl_Inst_2.f k a0 a1) fun r1 => some (((decide (0 ≤ r1.1.1.1), ()), ()), ())
def slices_ContainsFunc_impl_Inst_impl_Inst_2.s (k : Nat) : FS := ⟨[⟨false, [.lst tInst]⟩, ⟨false, [.fn 159 [(0, 0)]]⟩], [(0, .cbox [.lst (.int .i64), .int .i64, .lst tBlock])], false, [⟨false, [.bool]⟩], [], [], fun x => slices_ContainsFunc_impl_Inst_impl_Inst_2.f k x.1.1.1 x.2.1⟩
def slices_ContainsFunc_impl_Inst_impl_Inst_2.E (k : Nat) : Ents := [(⟨161, [159]⟩, slices_IndexFunc_impl_Inst_impl_Inst_2.s k)]
def slices_ContainsFunc_impl_Inst_impl_Inst_2.L : List (LS slices_ContainsFunc_impl_Inst_impl_Inst_2.R) := []
def slices_ContainsFunc_impl_Inst_impl_Inst_2.c : Code := Tryz.f91.body.getD .skip
theorem slices_ContainsFunc_impl_Inst_impl_Inst_2.eq (k : Nat) (x) : (slices_ContainsFunc_impl_Inst_impl_Inst_2.s k).pf x = execF tab (slices_ContainsFunc_impl_Inst_impl_Inst_2.E k) Tryz.f91 slices_ContainsFunc_impl_Inst_impl_Inst_2.c (slices_ContainsFunc_impl_Inst_impl_Inst_2.s k) slices_ContainsFunc_impl_Inst_impl_Inst_2.L x := by kernel_rfl
theorem slices_ContainsFunc_impl_Inst_impl_Inst_2.sound : ∀ k, Sound Tryz.prog 91 (slices_ContainsFunc_impl_Inst_impl_Inst_2.s k) := sound_of mixed tab_ok (f := 91) (fn := Tryz.f91) (c := slices_ContainsFunc_impl_Inst_impl_Inst_2.c) (by kernel_rfl) (by kernel_rfl) (by kernel_rfl) ⟨[⟨false, [.lst tInst]⟩, ⟨false, [.fn 159 [(0, 0)]]⟩], [(0, .cbox [.lst (.int .i64), .int .i64, .lst tBlock])], false, [⟨false, [.bool]⟩], [], []⟩ (by kernel_rfl) (by kernel_rfl) (fun k => (slices_ContainsFunc_impl_Inst_impl_Inst_2.s k).pf) slices_ContainsFunc_impl_Inst_impl_Inst_2.E (fun k => (EntsOK.cons (slices_IndexFunc_impl_Inst_impl_Inst_2.sound k) EntsOK.nil)) (fun k => slices_ContainsFunc_impl_Inst_impl_Inst_2.L) (fun k => trivial) trivial (fun k => trivial) slices_ContainsFunc_impl_Inst_impl_Inst_2.eq
end
end Go.Proofs.YtebgkcjpocfmmaaGreat.V
namespace Go.Proofs.YtebgkcjpocfmmaaGreat.V
open Go
set_option linter.unusedVariables false
noncomputable section
/-! ### impl.areTypes: function 90 -/
abbrev impl_areTypes.R := (((Bool × Unit) × Unit) × Unit)
def impl_areTypes.l0_ (k : Nat) (l0 : (List tBlockD) → Int → Int → tFuncD → Option impl_areTypes.R) (l1 : (List tBlockD) → Int → Int → (List tPhiD) → Int → Int → tFuncD → tBlockD → Option impl_areTypes.R) (a0 : List tBlockD) (a1 : Int) (a2 : Int) (a3 : tFuncD) : Option impl_areTypes.R := bif decide (a2 < a1) then (bif (decide (0 ≤ a2)) && (decide (a2 < ((List.length a0 : Nat) : Int))) then (l1 a0 a1 a2 ((List.getD a0 (Int.toNat a2) tBlockZ).1) ((List.length ((List.getD a0 (Int.toNat a2) tBlockZ).1) : Nat) : Int) 0 a3 (List.getD a0 (Int.toNat a2) tBlockZ)) else none) else (some (((true, ()), ()), ()))
def impl_areTypes.l1_ (k : Nat) (l0 : (List tBlockD) → Int → Int → tFuncD → Option impl_areTypes.R) (l1 : (List tBlockD) → Int → Int → (List tPhiD) → Int → Int → tFuncD → tBlockD → Option impl_areTypes.R) (a0 : List tBlockD) (a1 : Int) (a2 : Int) (a3 : List tPhiD) (a4 : Int) (a5 : Int) (a6 : tFuncD) (a7 : tBlockD) : Option impl_areTypes.R := bif decide (a5 < a4) then (bif (decide (0 ≤ a5)) && (decide (a5 < ((List.length a3 : Nat) : Int))) then (Option.bind (slices_ContainsFunc_int64_int64_5.f k ((List.getD a3 (Int.toNat a5) tPhiZ).2.1) a6 (List.getD a3 (Int.toNat a5) tPhiZ)) fun r1 => bif r1.1.1.1 then (some (((false, ()), ()), ())) else (l1 a0 a1 a2 a3 a4 (IntKind.wrap .i64 (a5 + 1)) a6 a7)) else none) else (Option.bind (slices_ContainsFunc_impl_Inst_impl_Inst_2.f k a7.2.1 a6) fun r2 => bif r2.1.1.1 then (some (((false, ()), ()), ())) else (bif decide (a7.2.2.1 = 1) then (Option.bind (impl_TypeOf.f k a6 a7.2.2.2.1) fun r3 => bif !decide (r3.1.1.1 = a6.2.1) then (some (((false, ()), ()), ())) else (bif decide (a7.2.2.1 = 3) then (Option.bind (impl_TypeOf.f k a6 a7.2.2.2.1) fun r4 => bif !decide (r4.1.1.1 = 1) then (some (((false, ()), ()), ())) else (l0 a0 a1 (IntKind.wrap .i64 (a2 + 1)) a6)) else (l0 a0 a1 (IntKind.wrap .i64 (a2 + 1)) a6))) else (bif decide (a7.2.2.1 = 3) then (Option.bind (impl_TypeOf.f k a6 a7.2.2.2.1) fun r5 => bif !decide (r5.1.1.1 = 1) then (some (((false, ()), ()), ())) else (l0 a0 a1 (IntKind.wrap .i64 (a2 + 1)) a6)) else (l0 a0 a1 (IntKind.wrap .i64 (a2 + 1)) a6))))
def impl_areTypes.all : Nat → ((List tBlockD) → Int → Int → tFuncD → Option impl_areTypes.R) × ((List tBlockD) → Int → Int → (List tPhiD) → Int → Int → tFuncD → tBlockD → Option impl_areTypes.R) × Unit
  | 0 => (fun _ _ _ _ => none, fun _ _ _ _ _ _ _ _ => none, ())
  | k + 1 => (impl_areTypes.l0_ k (impl_areTypes.all k).1 (impl_areTypes.all k).2.1, impl_areTypes.l1_ k (impl_areTypes.all k).1 (impl_areTypes.all k).2.1, ())
def impl_areTypes.l0 (k : Nat) : (List tBlockD) → Int → Int → tFuncD → Option impl_areTypes.R := (impl_areTypes.all k).1
def impl_areTypes.l1 (k : Nat) : (List tBlockD) → Int → Int → (List tPhiD) → Int → Int → tFuncD → tBlockD → Option impl_areTypes.R := (impl_areTypes.all k).2.1
def impl_areTypes.f (k : Nat) (a0 : tFuncD) : Option impl_areTypes.R := impl_areTypes.l0 k a0.2.2.1 ((List.length a0.2.2.1 : Nat) : Int) 0 a0
def impl_areTypes.s (k : Nat) : FS := ⟨[⟨true, [.lst (.int .i64), .int .i64, .lst tBlock]⟩], [], false, [⟨false, [.bool]⟩], [], [], fun x => impl_areTypes.f k x.1.1⟩
def impl_areTypes.E (k : Nat) : Ents := [(⟨148, [158]⟩, slices_ContainsFunc_int64_int64_5.s k), (⟨91, [159]⟩, slices_ContainsFunc_impl_Inst_impl_Inst_2.s k), (⟨75, []⟩, impl_TypeOf.s k)]
def impl_areTypes.L0 (l : (List tBlockD) → Int → Int → tFuncD → Option impl_areTypes.R) : LS impl_areTypes.R := ⟨[], [(1, ⟨false, [.ptr 100000 0]⟩), (9, ⟨false, [.lst tBlock]⟩), (10, ⟨false, [.int .i64]⟩), (11, ⟨false, [.int .i64]⟩)], [(100000, .box [.lst (.int .i64), .int .i64, .lst tBlock])], fun x => l x.1.2.1.1 x.1.2.2.1.1 x.1.2.2.2.1.1 x.2.1⟩
def impl_areTypes.L1 (l : (List tBlockD) → Int → Int → (List tPhiD) → Int → Int → tFuncD → tBlockD → Option impl_areTypes.R) : LS impl_areTypes.R := ⟨[], [(1, ⟨false, [.ptr 100000 0]⟩), (4, ⟨false, [.ptr 100001 0]⟩), (9, ⟨false, [.lst tBlock]⟩), (10, ⟨false, [.int .i64]⟩), (11, ⟨false, [.int .i64]⟩), (16, ⟨false, [.lst tPhi]⟩), (17, ⟨false, [.int .i64]⟩), (18, ⟨false, [.int .i64]⟩)], [(100000, .box [.lst (.int .i64), .int .i64, .lst tBlock]), (100001, .box [.lst tPhi, .lst tInst, .int .i64, .int .i64, .int .i64, .int .i64])], fun x => l x.1.2.2.1.1 x.1.2.2.2.1.1 x.1.2.2.2.2.1.1 x.1.2.2.2.2.2.1.1 x.1.2.2.2.2.2.2.1.1 x.1.2.2.2.2.2.2.2.1.1 x.2.1 x.2.2.1⟩
def impl_areTypes.L (l0 : (List tBlockD) → Int → Int → tFuncD → Option impl_areTypes.R) (l1 : (List tBlockD) → Int → Int → (List tPhiD) → Int → Int → tFuncD → tBlockD → Option impl_areTypes.R) : List (LS impl_areTypes.R) := [impl_areTypes.L0 l0, impl_areTypes.L1 l1]
def impl_areTypes.c : Code := Tryz.f90.body.getD .skip
theorem impl_areTypes.eq (k : Nat) (x) : (impl_areTypes.s k).pf x = execF tab (impl_areTypes.E k) Tryz.f90 impl_areTypes.c (impl_areTypes.s k) (impl_areTypes.L (impl_areTypes.l0 k) (impl_areTypes.l1 k)) x := by kernel_rfl
theorem impl_areTypes.r0 (l0 : (List tBlockD) → Int → Int → tFuncD → Option impl_areTypes.R) (l1 : (List tBlockD) → Int → Int → (List tPhiD) → Int → Int → tFuncD → tBlockD → Option impl_areTypes.R) (k : Nat) (x) : impl_areTypes.l0_ k l0 l1 x.1.2.1.1 x.1.2.2.1.1 x.1.2.2.2.1.1 x.2.1 = roundOf tab (impl_areTypes.E k) (impl_areTypes.L l0 l1) impl_areTypes.c (fin tab Tryz.f90 (impl_areTypes.s k)) 0 (impl_areTypes.L0 l0) x := by kernel_rfl
theorem impl_areTypes.r1 (l0 : (List tBlockD) → Int → Int → tFuncD → Option impl_areTypes.R) (l1 : (List tBlockD) → Int → Int → (List tPhiD) → Int → Int → tFuncD → tBlockD → Option impl_areTypes.R) (k : Nat) (x) : impl_areTypes.l1_ k l0 l1 x.1.2.2.1.1 x.1.2.2.2.1.1 x.1.2.2.2.2.1.1 x.1.2.2.2.2.2.1.1 x.1.2.2.2.2.2.2.1.1 x.1.2.2.2.2.2.2.2.1.1 x.2.1 x.2.2.1 = roundOf tab (impl_areTypes.E k) (impl_areTypes.L l0 l1) impl_areTypes.c (fin tab Tryz.f90 (impl_areTypes.s k)) 1 (impl_areTypes.L1 l1) x := by kernel_rfl
theorem impl_areTypes.sound : ∀ k, Sound Tryz.prog 90 (impl_areTypes.s k) := sound_of mixed tab_ok (f := 90) (fn := Tryz.f90) (c := impl_areTypes.c) (by kernel_rfl) (by kernel_rfl) (by kernel_rfl) ⟨[⟨true, [.lst (.int .i64), .int .i64, .lst tBlock]⟩], [], false, [⟨false, [.bool]⟩], [], []⟩ (by kernel_rfl) (by kernel_rfl) (fun k => (impl_areTypes.s k).pf) impl_areTypes.E (fun k => (EntsOK.cons (slices_ContainsFunc_int64_int64_5.sound k) (EntsOK.cons (slices_ContainsFunc_impl_Inst_impl_Inst_2.sound k) (EntsOK.cons (impl_TypeOf.sound k) EntsOK.nil)))) (fun k => impl_areTypes.L (impl_areTypes.l0 k) (impl_areTypes.l1 k)) (fun k => ⟨rfl, rfl, trivial⟩) ⟨fun _ => rfl, fun _ => rfl, trivial⟩ (fun k => ⟨⟨(impl_areTypes.L0 (impl_areTypes.l0 (k + 1))).l, rfl, fun x => impl_areTypes.r0 (impl_areTypes.l0 k) (impl_areTypes.l1 k) k x⟩, ⟨(impl_areTypes.L1 (impl_areTypes.l1 (k + 1))).l, rfl, fun x => impl_areTypes.r1 (impl_areTypes.l0 k) (impl_areTypes.l1 k) k x⟩, trivial⟩) impl_areTypes.eq
end
end Go.Proofs.YtebgkcjpocfmmaaGreat.V
namespace Go.Proofs.YtebgkcjpocfmmaaGreat.V
open Go
set_option linter.unusedVariables false
noncomputable section
/-! ### impl.isCall: function 93 -/
abbrev impl_isCall.R := (((Bool × Unit) × Unit) × Unit)
def impl_isCall.l0_ (k : Nat) (l0 : (List Int) → Int → Int → tFuncD → tFuncD → Option impl_isCall.R) (a0 : List Int) (a1 : Int) (a2 : Int) (a3 : tFuncD) (a4 : tFuncD) : Option impl_isCall.R := bif decide (a2 < a1) then (bif (decide (0 ≤ a2)) && (decide (a2 < ((List.length a0 : Nat) : Int))) then (Option.bind (impl_TypeOf.f k a3 (List.getD a0 (Int.toNat a2) 0)) fun r1 => bif (decide (0 ≤ a2)) && (decide (a2 < ((List.length a4.1 : Nat) : Int))) then (bif !decide (r1.1.1.1 = List.getD a4.1 (Int.toNat a2) 0) then (some (((false, ()), ()), ())) else (l0 a0 a1 (IntKind.wrap .i64 (a2 + 1)) a3 a4)) else none) else none) else (some (((true, ()), ()), ()))
def impl_isCall.all : Nat → ((List Int) → Int → Int → tFuncD → tFuncD → Option impl_isCall.R) × Unit
  | 0 => (fun _ _ _ _ _ => none, ())
  | k + 1 => (impl_isCall.l0_ k (impl_isCall.all k).1, ())
def impl_isCall.l0 (k : Nat) : (List Int) → Int → Int → tFuncD → tFuncD → Option impl_isCall.R := (impl_isCall.all k).1
def impl_isCall.f (k : Nat) (a0 : tModuleD) (a1 : tFuncD) (a2 : tInstD) : Option impl_isCall.R := bif (decide (0 ≤ a2.2.2.2.2.2.1)) && (decide (a2.2.2.2.2.2.1 < ((List.length a0.1 : Nat) : Int))) then (bif !decide (a2.2.1 = (List.getD a0.1 (Int.toNat a2.2.2.2.2.2.1) tFuncZ).2.1) then (some (((false, ()), ()), ())) else (bif !decide (((List.length a2.2.2.2.2.2.2.1 : Nat) : Int) = ((List.length ((List.getD a0.1 (Int.toNat a2.2.2.2.2.2.1) tFuncZ).1) : Nat) : Int)) then (some (((false, ()), ()), ())) else (impl_isCall.l0 k a2.2.2.2.2.2.2.1 ((List.length a2.2.2.2.2.2.2.1 : Nat) : Int) 0 a1 (List.getD a0.1 (Int.toNat a2.2.2.2.2.2.1) tFuncZ)))) else none
def impl_isCall.s (k : Nat) : FS := ⟨[⟨true, [.lst tFunc]⟩, ⟨true, [.lst (.int .i64), .int .i64, .lst tBlock]⟩, ⟨true, [.int .i64, .int .i64, .int .i64, .int .i64, .int .i64, .int .i64, .lst (.int .i64)]⟩], [], false, [⟨false, [.bool]⟩], [], [], fun x => impl_isCall.f k x.1.1 x.1.2.1 x.1.2.2.1⟩
def impl_isCall.E (k : Nat) : Ents := [(⟨75, []⟩, impl_TypeOf.s k)]
def impl_isCall.L0 (l : (List Int) → Int → Int → tFuncD → tFuncD → Option impl_isCall.R) : LS impl_isCall.R := ⟨[], [(4, ⟨false, [.ptr 100000 0]⟩), (7, ⟨false, [.ptr 100001 0]⟩), (31, ⟨false, [.lst (.int .i64)]⟩), (32, ⟨false, [.int .i64]⟩), (33, ⟨false, [.int .i64]⟩)], [(100000, .box [.lst (.int .i64), .int .i64, .lst tBlock]), (100001, .box [.lst (.int .i64), .int .i64, .lst tBlock])], fun x => l x.1.2.2.1.1 x.1.2.2.2.1.1 x.1.2.2.2.2.1.1 x.2.1 x.2.2.1⟩
def impl_isCall.L (l0 : (List Int) → Int → Int → tFuncD → tFuncD → Option impl_isCall.R) : List (LS impl_isCall.R) := [impl_isCall.L0 l0]
def impl_isCall.c : Code := Tryz.f93.body.getD .skip
theorem impl_isCall.eq (k : Nat) (x) : (impl_isCall.s k).pf x = execF tab (impl_isCall.E k) Tryz.f93 impl_isCall.c (impl_isCall.s k) (impl_isCall.L (impl_isCall.l0 k)) x := by kernel_rfl
theorem impl_isCall.r0 (l0 : (List Int) → Int → Int → tFuncD → tFuncD → Option impl_isCall.R) (k : Nat) (x) : impl_isCall.l0_ k l0 x.1.2.2.1.1 x.1.2.2.2.1.1 x.1.2.2.2.2.1.1 x.2.1 x.2.2.1 = roundOf tab (impl_isCall.E k) (impl_isCall.L l0) impl_isCall.c (fin tab Tryz.f93 (impl_isCall.s k)) 0 (impl_isCall.L0 l0) x := by kernel_rfl
theorem impl_isCall.sound : ∀ k, Sound Tryz.prog 93 (impl_isCall.s k) := sound_of mixed tab_ok (f := 93) (fn := Tryz.f93) (c := impl_isCall.c) (by kernel_rfl) (by kernel_rfl) (by kernel_rfl) ⟨[⟨true, [.lst tFunc]⟩, ⟨true, [.lst (.int .i64), .int .i64, .lst tBlock]⟩, ⟨true, [.int .i64, .int .i64, .int .i64, .int .i64, .int .i64, .int .i64, .lst (.int .i64)]⟩], [], false, [⟨false, [.bool]⟩], [], []⟩ (by kernel_rfl) (by kernel_rfl) (fun k => (impl_isCall.s k).pf) impl_isCall.E (fun k => (EntsOK.cons (impl_TypeOf.sound k) EntsOK.nil)) (fun k => impl_isCall.L (impl_isCall.l0 k)) (fun k => ⟨rfl, trivial⟩) ⟨fun _ => rfl, trivial⟩ (fun k => ⟨⟨(impl_isCall.L0 (impl_isCall.l0 (k + 1))).l, rfl, fun x => impl_isCall.r0 (impl_isCall.l0 k) k x⟩, trivial⟩) impl_isCall.eq
end
end Go.Proofs.YtebgkcjpocfmmaaGreat.V
namespace Go.Proofs.YtebgkcjpocfmmaaGreat.V
open Go
set_option linter.unusedVariables false
noncomputable section
/-! ### impl.checked$1: function 92 -/
abbrev impl_checked_1.R := (((Bool × Unit) × Unit) × Unit)
def impl_checked_1.f (k : Nat) (a0 : tInstD) (a1 : List tFuncD) (a2 : tFuncD) : Option impl_checked_1.R := bif decide (a0.1 = 26) then (Option.bind (impl_isCall.f k (a1, ()) a2 a0) fun r1 => some (((!r1.1.1.1, ()), ()), ())) else (some (((false, ()), ()), ()))
def impl_checked_1.s (k : Nat) : FS := ⟨[⟨true, [.int .i64, .int .i64, .int .i64, .int .i64, .int .i64, .int .i64, .lst (.int .i64)]⟩, ⟨false, [.ptr 0 0]⟩, ⟨false, [.ptr 1 0]⟩], [(0, .cbox [.lst tFunc]), (1, .cbox [.lst (.int .i64), .int .i64, .lst tBlock])], false, [⟨false, [.bool]⟩], [], [], fun x => impl_checked_1.f k x.1.1 x.2.1.1 x.2.2.1⟩
def impl_checked_1.E (k : Nat) : Ents := [(⟨93, []⟩, impl_isCall.s k)]
def impl_checked_1.L : List (LS impl_checked_1.R) := []
def impl_checked_1.c : Code := Tryz.f92.body.getD .skip
theorem impl_checked_1.eq (k : Nat) (x) : (impl_checked_1.s k).pf x = execF tab (impl_checked_1.E k) Tryz.f92 impl_checked_1.c (impl_checked_1.s k) impl_checked_1.L x := by kernel_rfl
theorem impl_checked_1.sound : ∀ k, Sound Tryz.prog 92 (impl_checked_1.s k) := sound_of mixed tab_ok (f := 92) (fn := Tryz.f92) (c := impl_checked_1.c) (by kernel_rfl) (by kernel_rfl) (by kernel_rfl) ⟨[⟨true, [.int .i64, .int .i64, .int .i64, .int .i64, .int .i64, .int .i64, .lst (.int .i64)]⟩, ⟨false, [.ptr 0 0]⟩, ⟨false, [.ptr 1 0]⟩], [(0, .cbox [.lst tFunc]), (1, .cbox [.lst (.int .i64), .int .i64, .lst tBlock])], false, [⟨false, [.bool]⟩], [], []⟩ (by kernel_rfl) (by kernel_rfl) (fun k => (impl_checked_1.s k).pf) impl_checked_1.E (fun k => (EntsOK.cons (impl_isCall.sound k) EntsOK.nil)) (fun k => impl_checked_1.L) (fun k => trivial) trivial (fun k => trivial) impl_checked_1.eq
end
end Go.Proofs.YtebgkcjpocfmmaaGreat.V
namespace Go.Proofs.YtebgkcjpocfmmaaGreat.V
open Go
set_option linter.unusedVariables false
noncomputable section
/-! ### slices.IndexFunc[[]impl.Inst,impl.Inst]: function 161 -/
abbrev slices_IndexFunc_impl_Inst_impl_Inst_3.R := (((Int × Unit) × Unit) × Unit)
def slices_IndexFunc_impl_Inst_impl_Inst_3.l0_ (k : Nat) (l0 : (List tInstD) → Int → Int → (List tFuncD) → tFuncD → Option slices_IndexFunc_impl_Inst_impl_Inst_3.R) (a0 : List tInstD) (a1 : Int) (a2 : Int) (a3 : List tFuncD) (a4 : tFuncD) : Option slices_IndexFunc_impl_Inst_impl_Inst_3.R := bif decide (a2 < a1) then (bif (decide (0 ≤ a2)) && (decide (a2 < ((List.length a0 : Nat) : Int))) then (Option.bind (impl_checked_1.f k (List.getD a0 (Int.toNat a2) tInstZ) a3 a4) fun r1 => bif r1.1.1.1 then (some (((a2, ()), ()), ())) else (l0 a0 a1 (IntKind.wrap .i64 (a2 + 1)) a3 a4)) else none) else (some (((-1, ()), ()), ()))
def slices_IndexFunc_impl_Inst_impl_Inst_3.all : Nat → ((List tInstD) → Int → Int → (List tFuncD) → tFuncD → Option slices_IndexFunc_impl_Inst_impl_Inst_3.R) × Unit
  | 0 => (fun _ _ _ _ _ => none, ())
  | k + 1 => (slices_IndexFunc_impl_Inst_impl_Inst_3.l0_ k (slices_IndexFunc_impl_Inst_impl_Inst_3.all k).1, ())
def slices_IndexFunc_impl_Inst_impl_Inst_3.l0 (k : Nat) : (List tInstD) → Int → Int → (List tFuncD) → tFuncD → Option slices_IndexFunc_impl_Inst_impl_Inst_3.R := (slices_IndexFunc_impl_Inst_impl_Inst_3.all k).1
def slices_IndexFunc_impl_Inst_impl_Inst_3.f (k : Nat) (a0 : List tInstD) (a1 : List tFuncD) (a2 : tFuncD) : Option slices_IndexFunc_impl_Inst_impl_Inst_3.R := slices_IndexFunc_impl_Inst_impl_Inst_3.l0 k a0 ((List.length a0 : Nat) : Int) 0 a1 a2
def slices_IndexFunc_impl_Inst_impl_Inst_3.s (k : Nat) : FS := ⟨[⟨false, [.lst tInst]⟩, ⟨false, [.fn 92 [(0, 0), (1, 0)]]⟩], [(0, .cbox [.lst tFunc]), (1, .cbox [.lst (.int .i64), .int .i64, .lst tBlock])], false, [⟨false, [.int .i64]⟩], [], [], fun x => slices_IndexFunc_impl_Inst_impl_Inst_3.f k x.1.1.1 x.2.1.1 x.2.2.1⟩
def slices_IndexFunc_impl_Inst_impl_Inst_3.E (k : Nat) : Ents := [(⟨92, []⟩, impl_checked_1.s k)]
def slices_IndexFunc_impl_Inst_impl_Inst_3.L0 (l : (List tInstD) → Int → Int → (List tFuncD) → tFuncD → Option slices_IndexFunc_impl_Inst_impl_Inst_3.R) : LS slices_IndexFunc_impl_Inst_impl_Inst_3.R := ⟨[], [(0, ⟨false, [.lst tInst]⟩), (1, ⟨false, [.fn 92 [(0, 0), (1, 0)]]⟩), (7, ⟨false, [.int .i64]⟩), (8, ⟨false, [.int .i64]⟩)], [(0, .cbox [.lst tFunc]), (1, .cbox [.lst (.int .i64), .int .i64, .lst tBlock])], fun x => l x.1.1.1 x.1.2.2.1.1 x.1.2.2.2.1.1 x.2.1.1 x.2.2.1⟩
def slices_IndexFunc_impl_Inst_impl_Inst_3.L (l0 : (List tInstD) → Int → Int → (List tFuncD) → tFuncD → Option slices_IndexFunc_impl_Inst_impl_Inst_3.R) : List (LS slices_IndexFunc_impl_Inst_impl_Inst_3.R) := [slices_IndexFunc_impl_Inst_impl_Inst_3.L0 l0]
def slices_IndexFunc_impl_Inst_impl_Inst_3.c : Code := Tryz.f161.body.getD .skip
theorem slices_IndexFunc_impl_Inst_impl_Inst_3.eq (k : Nat) (x) : (slices_IndexFunc_impl_Inst_impl_Inst_3.s k).pf x = execF tab (slices_IndexFunc_impl_Inst_impl_Inst_3.E k) Tryz.f161 slices_IndexFunc_impl_Inst_impl_Inst_3.c (slices_IndexFunc_impl_Inst_impl_Inst_3.s k) (slices_IndexFunc_impl_Inst_impl_Inst_3.L (slices_IndexFunc_impl_Inst_impl_Inst_3.l0 k)) x := by kernel_rfl
theorem slices_IndexFunc_impl_Inst_impl_Inst_3.r0 (l0 : (List tInstD) → Int → Int → (List tFuncD) → tFuncD → Option slices_IndexFunc_impl_Inst_impl_Inst_3.R) (k : Nat) (x) : slices_IndexFunc_impl_Inst_impl_Inst_3.l0_ k l0 x.1.1.1 x.1.2.2.1.1 x.1.2.2.2.1.1 x.2.1.1 x.2.2.1 = roundOf tab (slices_IndexFunc_impl_Inst_impl_Inst_3.E k) (slices_IndexFunc_impl_Inst_impl_Inst_3.L l0) slices_IndexFunc_impl_Inst_impl_Inst_3.c (fin tab Tryz.f161 (slices_IndexFunc_impl_Inst_impl_Inst_3.s k)) 0 (slices_IndexFunc_impl_Inst_impl_Inst_3.L0 l0) x := by kernel_rfl
theorem slices_IndexFunc_impl_Inst_impl_Inst_3.sound : ∀ k, Sound Tryz.prog 161 (slices_IndexFunc_impl_Inst_impl_Inst_3.s k) := sound_of mixed tab_ok (f := 161) (fn := Tryz.f161) (c := slices_IndexFunc_impl_Inst_impl_Inst_3.c) (by kernel_rfl) (by kernel_rfl) (by kernel_rfl) ⟨[⟨false, [.lst tInst]⟩, ⟨false, [.fn 92 [(0, 0), (1, 0)]]⟩], [(0, .cbox [.lst tFunc]), (1, .cbox [.lst (.int .i64), .int .i64, .lst tBlock])], false, [⟨false, [.int .i64]⟩], [], []⟩ (by kernel_rfl) (by kernel_rfl) (fun k => (slices_IndexFunc_impl_Inst_impl_Inst_3.s k).pf) slices_IndexFunc_impl_Inst_impl_Inst_3.E (fun k => (EntsOK.cons (impl_checked_1.sound k) EntsOK.nil)) (fun k => slices_IndexFunc_impl_Inst_impl_Inst_3.L (slices_IndexFunc_impl_Inst_impl_Inst_3.l0 k)) (fun k => ⟨rfl, trivial⟩) ⟨fun _ => rfl, trivial⟩ (fun k => ⟨⟨(slices_IndexFunc_impl_Inst_impl_Inst_3.L0 (slices_IndexFunc_impl_Inst_impl_Inst_3.l0 (k + 1))).l, rfl, fun x => slices_IndexFunc_impl_Inst_impl_Inst_3.r0 (slices_IndexFunc_impl_Inst_impl_Inst_3.l0 k) k x⟩, trivial⟩) slices_IndexFunc_impl_Inst_impl_Inst_3.eq
end
end Go.Proofs.YtebgkcjpocfmmaaGreat.V
namespace Go.Proofs.YtebgkcjpocfmmaaGreat.V
open Go
set_option linter.unusedVariables false
noncomputable section
/-! ### slices.ContainsFunc[[]impl.Inst,impl.Inst]: function 91 -/
abbrev slices_ContainsFunc_impl_Inst_impl_Inst_3.R := (((Bool × Unit) × Unit) × Unit)
def slices_ContainsFunc_impl_Inst_impl_Inst_3.f (k : Nat) (a0 : List tInstD) (a1 : List tFuncD) (a2 : tFuncD) : Option slices_ContainsFunc_impl_Inst_impl_Inst_3.R := Option.bind (slices_IndexFunc_impl_Inst_impl_Inst_3.f k a0 a1 a2) fun r1 => some (((decide (0 ≤ r1.1.1.1), ()), ()), ())
def slices_ContainsFunc_impl_Inst_impl_Inst_3.s (k : Nat) : FS := ⟨[⟨false, [.lst tInst]⟩, ⟨false, [.fn 92 [(0, 0), (1, 0)]]⟩], [(0, .cbox [.lst tFunc]), (1, .cbox [.lst (.int .i64), .int .i64, .lst tBlock])], false, [⟨false, [.bool]⟩], [], [], fun x => slices_ContainsFunc_impl_Inst_impl_Inst_3.f k x.1.1.1 x.2.1.1 x.2.2.1⟩
def slices_ContainsFunc_impl_Inst_impl_Inst_3.E (k : Nat) : Ents := [(⟨161, [92]⟩, slices_IndexFunc_impl_Inst_impl_Inst_3.s k)]
def slices_ContainsFunc_impl_Inst_impl_Inst_3.L : List (LS slices_ContainsFunc_impl_Inst_impl_Inst_3.R) := []
def slices_ContainsFunc_impl_Inst_impl_Inst_3.c : Code := Tryz.f91.body.getD .skip
theorem slices_ContainsFunc_impl_Inst_impl_Inst_3.eq (k : Nat) (x) : (slices_ContainsFunc_impl_Inst_impl_Inst_3.s k).pf x = execF tab (slices_ContainsFunc_impl_Inst_impl_Inst_3.E k) Tryz.f91 slices_ContainsFunc_impl_Inst_impl_Inst_3.c (slices_ContainsFunc_impl_Inst_impl_Inst_3.s k) slices_ContainsFunc_impl_Inst_impl_Inst_3.L x := by kernel_rfl
theorem slices_ContainsFunc_impl_Inst_impl_Inst_3.sound : ∀ k, Sound Tryz.prog 91 (slices_ContainsFunc_impl_Inst_impl_Inst_3.s k) := sound_of mixed tab_ok (f := 91) (fn := Tryz.f91) (c := slices_ContainsFunc_impl_Inst_impl_Inst_3.c) (by kernel_rfl) (by kernel_rfl) (by kernel_rfl) ⟨[⟨false, [.lst tInst]⟩, ⟨false, [.fn 92 [(0, 0), (1, 0)]]⟩], [(0, .cbox [.lst tFunc]), (1, .cbox [.lst (.int .i64), .int .i64, .lst tBlock])], false, [⟨false, [.bool]⟩], [], []⟩ (by kernel_rfl) (by kernel_rfl) (fun k => (slices_ContainsFunc_impl_Inst_impl_Inst_3.s k).pf) slices_ContainsFunc_impl_Inst_impl_Inst_3.E (fun k => (EntsOK.cons (slices_IndexFunc_impl_Inst_impl_Inst_3.sound k) EntsOK.nil)) (fun k => slices_ContainsFunc_impl_Inst_impl_Inst_3.L) (fun k => trivial) trivial (fun k => trivial) slices_ContainsFunc_impl_Inst_impl_Inst_3.eq
end
end Go.Proofs.YtebgkcjpocfmmaaGreat.V
namespace Go.Proofs.YtebgkcjpocfmmaaGreat.V
open Go
set_option linter.unusedVariables false
noncomputable section
/-! ### impl.reach: function 94 -/
abbrev impl_reach.R := (((Unit × Unit) × Unit) × ((List Bool) × Unit))
def impl_reach.l0_ (k : Nat) (l0 : Int → tFuncD → (List Bool) → (List Int) → Option impl_reach.R) (a0 : Int) (a1 : tFuncD) (a2 : List Bool) (a3 : List Int) : Option impl_reach.R := bif decide (0 < ((List.length a3 : Nat) : Int)) then (bif (decide (0 ≤ 0)) && (decide (0 < ((List.length a3 : Nat) : Int))) then (bif (decide (0 ≤ 1)) && (decide (1 ≤ ((List.length a3 : Nat) : Int))) then (bif decide (List.getD a3 0 0 = a0) then (l0 a0 a1 a2 (List.drop 1 a3)) else (bif (decide (0 ≤ List.getD a3 0 0)) && (decide (List.getD a3 0 0 < ((List.length a2 : Nat) : Int))) then (bif List.getD a2 (Int.toNat (List.getD a3 0 0)) false then (l0 a0 a1 a2 (List.drop 1 a3)) else (bif (decide (0 ≤ List.getD a3 0 0)) && (decide (List.getD a3 0 0 < ((List.length a2 : Nat) : Int))) then (bif (decide (0 ≤ List.getD a3 0 0)) && (decide (List.getD a3 0 0 < ((List.length a1.2.2.1 : Nat) : Int))) then (Option.bind (impl_leadsTo.f k ((List.getD a1.2.2.1 (Int.toNat (List.getD a3 0 0)) tBlockZ).2.2)) fun r1 => bif decide ((List.length (List.drop 1 a3) + List.length r1.2.1) * 8 ≤ 140737488355328) then (l0 a0 a1 (List.set a2 (Int.toNat (List.getD a3 0 0)) true) ((List.drop 1 a3) ++ r1.2.1)) else none) else none) else none)) else none)) else none) else none) else (some ((((), ()), ()), (a2, ())))
def impl_reach.all : Nat → (Int → tFuncD → (List Bool) → (List Int) → Option impl_reach.R) × Unit
  | 0 => (fun _ _ _ _ => none, ())
  | k + 1 => (impl_reach.l0_ k (impl_reach.all k).1, ())
def impl_reach.l0 (k : Nat) : Int → tFuncD → (List Bool) → (List Int) → Option impl_reach.R := (impl_reach.all k).1
def impl_reach.f (k : Nat) (a0 : tFuncD) (a1 : Int) : Option impl_reach.R := bif (decide (((List.length a0.2.2.1 : Nat) : Int) = ((List.length a0.2.2.1 : Nat) : Int))) && (decide (0 ≤ ((List.length a0.2.2.1 : Nat) : Int))) && (decide (((List.length a0.2.2.1 : Nat) : Int) * 1 ≤ 281474976710656)) then (impl_reach.l0 k a1 a0 (List.replicate (Int.toNat ((List.length a0.2.2.1 : Nat) : Int)) false) [0]) else none
def impl_reach.s (k : Nat) : FS := ⟨[⟨true, [.lst (.int .i64), .int .i64, .lst tBlock]⟩, ⟨false, [.int .i64]⟩], [], false, [⟨false, [.own 100]⟩], [(100, .row true .bool)], [], fun x => impl_reach.f k x.1.1 x.1.2.1.1⟩
def impl_reach.E (k : Nat) : Ents := [(⟨162, []⟩, impl_leadsTo.s k)]
def impl_reach.L0 (l : Int → tFuncD → (List Bool) → (List Int) → Option impl_reach.R) : LS impl_reach.R := ⟨[], [(1, ⟨false, [.int .i64]⟩), (2, ⟨false, [.ptr 100000 0]⟩), (5, ⟨false, [.own 100001]⟩), (6, ⟨false, [.own 100002]⟩)], [(100000, .box [.lst (.int .i64), .int .i64, .lst tBlock]), (100001, .row true .bool), (100002, .row true (.int .i64))], fun x => l x.1.1.1 x.2.1 x.2.2.1 x.2.2.2.1⟩
def impl_reach.L (l0 : Int → tFuncD → (List Bool) → (List Int) → Option impl_reach.R) : List (LS impl_reach.R) := [impl_reach.L0 l0]
def impl_reach.c : Code := Tryz.f94.body.getD .skip
theorem impl_reach.eq (k : Nat) (x) : (impl_reach.s k).pf x = execF tab (impl_reach.E k) Tryz.f94 impl_reach.c (impl_reach.s k) (impl_reach.L (impl_reach.l0 k)) x := by kernel_rfl
theorem impl_reach.r0 (l0 : Int → tFuncD → (List Bool) → (List Int) → Option impl_reach.R) (k : Nat) (x) : impl_reach.l0_ k l0 x.1.1.1 x.2.1 x.2.2.1 x.2.2.2.1 = roundOf tab (impl_reach.E k) (impl_reach.L l0) impl_reach.c (fin tab Tryz.f94 (impl_reach.s k)) 0 (impl_reach.L0 l0) x := by kernel_rfl
theorem impl_reach.sound : ∀ k, Sound Tryz.prog 94 (impl_reach.s k) := sound_of mixed tab_ok (f := 94) (fn := Tryz.f94) (c := impl_reach.c) (by kernel_rfl) (by kernel_rfl) (by kernel_rfl) ⟨[⟨true, [.lst (.int .i64), .int .i64, .lst tBlock]⟩, ⟨false, [.int .i64]⟩], [], false, [⟨false, [.own 100]⟩], [(100, .row true .bool)], []⟩ (by kernel_rfl) (by kernel_rfl) (fun k => (impl_reach.s k).pf) impl_reach.E (fun k => (EntsOK.cons (impl_leadsTo.sound k) EntsOK.nil)) (fun k => impl_reach.L (impl_reach.l0 k)) (fun k => ⟨rfl, trivial⟩) ⟨fun _ => rfl, trivial⟩ (fun k => ⟨⟨(impl_reach.L0 (impl_reach.l0 (k + 1))).l, rfl, fun x => impl_reach.r0 (impl_reach.l0 k) k x⟩, trivial⟩) impl_reach.eq
end
end Go.Proofs.YtebgkcjpocfmmaaGreat.V
namespace Go.Proofs.YtebgkcjpocfmmaaGreat.V
open Go
set_option linter.unusedVariables false
noncomputable section
/-! ### impl.firstOf: function 115 -/
abbrev impl_firstOf.R := (((Int × Unit) × Unit) × Unit)
def impl_firstOf.l0_ (k : Nat) (l0 : Int → (List tBlockD) → Int → Int → Option impl_firstOf.R) (a0 : Int) (a1 : List tBlockD) (a2 : Int) (a3 : Int) : Option impl_firstOf.R := bif decide (a3 < a2) then (bif (decide (0 ≤ a3)) && (decide (a3 < ((List.length a1 : Nat) : Int))) then (l0 (IntKind.wrap .i64 (a0 + (IntKind.wrap .i64 (((List.length ((List.getD a1 (Int.toNat a3) tBlockZ).1) : Nat) : Int) + ((List.length ((List.getD a1 (Int.toNat a3) tBlockZ).2.1) : Nat) : Int))))) a1 a2 (IntKind.wrap .i64 (a3 + 1))) else none) else (some (((a0, ()), ()), ()))
def impl_firstOf.all : Nat → (Int → (List tBlockD) → Int → Int → Option impl_firstOf.R) × Unit
  | 0 => (fun _ _ _ _ => none, ())
  | k + 1 => (impl_firstOf.l0_ k (impl_firstOf.all k).1, ())
def impl_firstOf.l0 (k : Nat) : Int → (List tBlockD) → Int → Int → Option impl_firstOf.R := (impl_firstOf.all k).1
def impl_firstOf.f (k : Nat) (a0 : tFuncD) (a1 : Int) : Option impl_firstOf.R := bif (decide (0 ≤ 0)) && (decide (0 ≤ a1)) && (decide (a1 ≤ ((List.length a0.2.2.1 : Nat) : Int))) then (impl_firstOf.l0 k ((List.length a0.1 : Nat) : Int) (List.take (Int.toNat a1) a0.2.2.1) ((List.length (List.take (Int.toNat a1) a0.2.2.1) : Nat) : Int) 0) else none
def impl_firstOf.s (k : Nat) : FS := ⟨[⟨true, [.lst (.int .i64), .int .i64, .lst tBlock]⟩, ⟨false, [.int .i64]⟩], [], false, [⟨false, [.int .i64]⟩], [], [], fun x => impl_firstOf.f k x.1.1 x.1.2.1.1⟩
def impl_firstOf.E (k : Nat) : Ents := []
def impl_firstOf.L0 (l : Int → (List tBlockD) → Int → Int → Option impl_firstOf.R) : LS impl_firstOf.R := ⟨[], [(5, ⟨false, [.int .i64]⟩), (14, ⟨false, [.lst tBlock]⟩), (15, ⟨false, [.int .i64]⟩), (16, ⟨false, [.int .i64]⟩)], [], fun x => l x.1.1.1 x.1.2.1.1 x.1.2.2.1.1 x.1.2.2.2.1.1⟩
def impl_firstOf.L (l0 : Int → (List tBlockD) → Int → Int → Option impl_firstOf.R) : List (LS impl_firstOf.R) := [impl_firstOf.L0 l0]
def impl_firstOf.c : Code := Tryz.f115.body.getD .skip
theorem impl_firstOf.eq (k : Nat) (x) : (impl_firstOf.s k).pf x = execF tab (impl_firstOf.E k) Tryz.f115 impl_firstOf.c (impl_firstOf.s k) (impl_firstOf.L (impl_firstOf.l0 k)) x := by kernel_rfl
theorem impl_firstOf.r0 (l0 : Int → (List tBlockD) → Int → Int → Option impl_firstOf.R) (k : Nat) (x) : impl_firstOf.l0_ k l0 x.1.1.1 x.1.2.1.1 x.1.2.2.1.1 x.1.2.2.2.1.1 = roundOf tab (impl_firstOf.E k) (impl_firstOf.L l0) impl_firstOf.c (fin tab Tryz.f115 (impl_firstOf.s k)) 0 (impl_firstOf.L0 l0) x := by kernel_rfl
theorem impl_firstOf.sound : ∀ k, Sound Tryz.prog 115 (impl_firstOf.s k) := sound_of mixed tab_ok (f := 115) (fn := Tryz.f115) (c := impl_firstOf.c) (by kernel_rfl) (by kernel_rfl) (by kernel_rfl) ⟨[⟨true, [.lst (.int .i64), .int .i64, .lst tBlock]⟩, ⟨false, [.int .i64]⟩], [], false, [⟨false, [.int .i64]⟩], [], []⟩ (by kernel_rfl) (by kernel_rfl) (fun k => (impl_firstOf.s k).pf) impl_firstOf.E (fun k => EntsOK.nil) (fun k => impl_firstOf.L (impl_firstOf.l0 k)) (fun k => ⟨rfl, trivial⟩) ⟨fun _ => rfl, trivial⟩ (fun k => ⟨⟨(impl_firstOf.L0 (impl_firstOf.l0 (k + 1))).l, rfl, fun x => impl_firstOf.r0 (impl_firstOf.l0 k) k x⟩, trivial⟩) impl_firstOf.eq
end
end Go.Proofs.YtebgkcjpocfmmaaGreat.V
namespace Go.Proofs.YtebgkcjpocfmmaaGreat.V
open Go
set_option linter.unusedVariables false
noncomputable section
/-! ### impl.dominates: function 191 -/
abbrev impl_dominates.R := (((Bool × Unit) × Unit) × Unit)
def impl_dominates.f (k : Nat) (a0 : tFuncD) (a1 : Int) (a2 : Int) : Option impl_dominates.R := Option.bind (impl_reach.f k a0 (-1)) fun r1 => bif (decide (0 ≤ a2)) && (decide (a2 < ((List.length r1.2.1 : Nat) : Int))) then (bif List.getD r1.2.1 (Int.toNat a2) false then (Option.bind (impl_reach.f k a0 a1) fun r2 => bif (decide (0 ≤ a2)) && (decide (a2 < ((List.length r2.2.1 : Nat) : Int))) then (some (((!(List.getD r2.2.1 (Int.toNat a2) false), ()), ()), ())) else none) else (some (((false, ()), ()), ()))) else none
def impl_dominates.s (k : Nat) : FS := ⟨[⟨true, [.lst (.int .i64), .int .i64, .lst tBlock]⟩, ⟨false, [.int .i64]⟩, ⟨false, [.int .i64]⟩], [], false, [⟨false, [.bool]⟩], [], [], fun x => impl_dominates.f k x.1.1 x.1.2.1.1 x.1.2.2.1.1⟩
def impl_dominates.E (k : Nat) : Ents := [(⟨94, []⟩, impl_reach.s k)]
def impl_dominates.L : List (LS impl_dominates.R) := []
def impl_dominates.c : Code := Tryz.f191.body.getD .skip
theorem impl_dominates.eq (k : Nat) (x) : (impl_dominates.s k).pf x = execF tab (impl_dominates.E k) Tryz.f191 impl_dominates.c (impl_dominates.s k) impl_dominates.L x := by kernel_rfl
theorem impl_dominates.sound : ∀ k, Sound Tryz.prog 191 (impl_dominates.s k) := sound_of mixed tab_ok (f := 191) (fn := Tryz.f191) (c := impl_dominates.c) (by kernel_rfl) (by kernel_rfl) (by kernel_rfl) ⟨[⟨true, [.lst (.int .i64), .int .i64, .lst tBlock]⟩, ⟨false, [.int .i64]⟩, ⟨false, [.int .i64]⟩], [], false, [⟨false, [.bool]⟩], [], []⟩ (by kernel_rfl) (by kernel_rfl) (fun k => (impl_dominates.s k).pf) impl_dominates.E (fun k => (EntsOK.cons (impl_reach.sound k) EntsOK.nil)) (fun k => impl_dominates.L) (fun k => trivial) trivial (fun k => trivial) impl_dominates.eq
end
end Go.Proofs.YtebgkcjpocfmmaaGreat.V
namespace Go.Proofs.YtebgkcjpocfmmaaGreat.V
open Go
set_option linter.unusedVariables false
noncomputable section
/-! ### impl.isSeen: function 163 -/
abbrev impl_isSeen.R := (((Bool × Unit) × Unit) × Unit)
def impl_isSeen.f (k : Nat) (a0 : tFuncD) (a1 : Int) (a2 : Int) (a3 : Int) : Option impl_isSeen.R := Option.bind (impl_PlaceOf.f k a0 a1) fun r1 => bif decide (r1.1.1.1 = -1) then (some (((true, ()), ()), ())) else (bif decide (r1.1.1.1 = a2) then (some (((decide (a1 < a3), ()), ()), ())) else (Option.bind (impl_dominates.f k a0 r1.1.1.1 a2) fun r2 => some (((r2.1.1.1, ()), ()), ())))
def impl_isSeen.s (k : Nat) : FS := ⟨[⟨true, [.lst (.int .i64), .int .i64, .lst tBlock]⟩, ⟨false, [.int .i64]⟩, ⟨false, [.int .i64]⟩, ⟨false, [.int .i64]⟩], [], false, [⟨false, [.bool]⟩], [], [], fun x => impl_isSeen.f k x.1.1 x.1.2.1.1 x.1.2.2.1.1 x.1.2.2.2.1.1⟩
def impl_isSeen.E (k : Nat) : Ents := [(⟨137, []⟩, impl_PlaceOf.s k), (⟨191, []⟩, impl_dominates.s k)]
def impl_isSeen.L : List (LS impl_isSeen.R) := []
def impl_isSeen.c : Code := Tryz.f163.body.getD .skip
theorem impl_isSeen.eq (k : Nat) (x) : (impl_isSeen.s k).pf x = execF tab (impl_isSeen.E k) Tryz.f163 impl_isSeen.c (impl_isSeen.s k) impl_isSeen.L x := by kernel_rfl
theorem impl_isSeen.sound : ∀ k, Sound Tryz.prog 163 (impl_isSeen.s k) := sound_of mixed tab_ok (f := 163) (fn := Tryz.f163) (c := impl_isSeen.c) (by kernel_rfl) (by kernel_rfl) (by kernel_rfl) ⟨[⟨true, [.lst (.int .i64), .int .i64, .lst tBlock]⟩, ⟨false, [.int .i64]⟩, ⟨false, [.int .i64]⟩, ⟨false, [.int .i64]⟩], [], false, [⟨false, [.bool]⟩], [], []⟩ (by kernel_rfl) (by kernel_rfl) (fun k => (impl_isSeen.s k).pf) impl_isSeen.E (fun k => (EntsOK.cons (impl_PlaceOf.sound k) (EntsOK.cons (impl_dominates.sound k) EntsOK.nil))) (fun k => impl_isSeen.L) (fun k => trivial) trivial (fun k => trivial) impl_isSeen.eq
end
end Go.Proofs.YtebgkcjpocfmmaaGreat.V
namespace Go.Proofs.YtebgkcjpocfmmaaGreat.V
open Go
set_option linter.unusedVariables false
noncomputable section
/-! ### impl.areSeen$1: function 165 -/
abbrev impl_areSeen_1.R := (((Bool × Unit) × Unit) × Unit)
def impl_areSeen_1.f (k : Nat) (a0 : Int) (a1 : tFuncD) (a2 : Int) (a3 : Int) (a4 : Int) : Option impl_areSeen_1.R := Option.bind (impl_isSeen.f k a1 a0 a2 (IntKind.wrap .i64 (a3 + a4))) fun r1 => some (((!r1.1.1.1, ()), ()), ())
def impl_areSeen_1.s (k : Nat) : FS := ⟨[⟨false, [.int .i64]⟩, ⟨false, [.ptr 0 0]⟩, ⟨false, [.ptr 1 0]⟩, ⟨false, [.ptr 2 0]⟩, ⟨false, [.ptr 3 0]⟩], [(0, .cbox [.lst (.int .i64), .int .i64, .lst tBlock]), (1, .cbox [.int .i64]), (2, .cbox [.int .i64]), (3, .cbox [.int .i64])], false, [⟨false, [.bool]⟩], [], [], fun x => impl_areSeen_1.f k x.1.1.1 x.2.1 x.2.2.1.1 x.2.2.2.1.1 x.2.2.2.2.1.1⟩
def impl_areSeen_1.E (k : Nat) : Ents := [(⟨163, []⟩, impl_isSeen.s k)]
def impl_areSeen_1.L : List (LS impl_areSeen_1.R) := []
def impl_areSeen_1.c : Code := Tryz.f165.body.getD .skip
theorem impl_areSeen_1.eq (k : Nat) (x) : (impl_areSeen_1.s k).pf x = execF tab (impl_areSeen_1.E k) Tryz.f165 impl_areSeen_1.c (impl_areSeen_1.s k) impl_areSeen_1.L x := by kernel_rfl
theorem impl_areSeen_1.sound : ∀ k, Sound Tryz.prog 165 (impl_areSeen_1.s k) := sound_of mixed tab_ok (f := 165) (fn := Tryz.f165) (c := impl_areSeen_1.c) (by kernel_rfl) (by kernel_rfl) (by kernel_rfl) ⟨[⟨false, [.int .i64]⟩, ⟨false, [.ptr 0 0]⟩, ⟨false, [.ptr 1 0]⟩, ⟨false, [.ptr 2 0]⟩, ⟨false, [.ptr 3 0]⟩], [(0, .cbox [.lst (.int .i64), .int .i64, .lst tBlock]), (1, .cbox [.int .i64]), (2, .cbox [.int .i64]), (3, .cbox [.int .i64])], false, [⟨false, [.bool]⟩], [], []⟩ (by kernel_rfl) (by kernel_rfl) (fun k => (impl_areSeen_1.s k).pf) impl_areSeen_1.E (fun k => (EntsOK.cons (impl_isSeen.sound k) EntsOK.nil)) (fun k => impl_areSeen_1.L) (fun k => trivial) trivial (fun k => trivial) impl_areSeen_1.eq
end
end Go.Proofs.YtebgkcjpocfmmaaGreat.V
namespace Go.Proofs.YtebgkcjpocfmmaaGreat.V
open Go
set_option linter.unusedVariables false
noncomputable section
/-! ### slices.IndexFunc[[]int64,int64]: function 183 -/
abbrev slices_IndexFunc_int64_int64_6.R := (((Int × Unit) × Unit) × Unit)
def slices_IndexFunc_int64_int64_6.l0_ (k : Nat) (l0 : (List Int) → Int → Int → tFuncD → Int → Int → Int → Option slices_IndexFunc_int64_int64_6.R) (a0 : List Int) (a1 : Int) (a2 : Int) (a3 : tFuncD) (a4 : Int) (a5 : Int) (a6 : Int) : Option slices_IndexFunc_int64_int64_6.R := bif decide (a2 < a1) then (bif (decide (0 ≤ a2)) && (decide (a2 < ((List.length a0 : Nat) : Int))) then (Option.bind (impl_areSeen_1.f k (List.getD a0 (Int.toNat a2) 0) a3 a4 a5 a6) fun r1 => bif r1.1.1.1 then (some (((a2, ()), ()), ())) else (l0 a0 a1 (IntKind.wrap .i64 (a2 + 1)) a3 a4 a5 a6)) else none) else (some (((-1, ()), ()), ()))
def slices_IndexFunc_int64_int64_6.all : Nat → ((List Int) → Int → Int → tFuncD → Int → Int → Int → Option slices_IndexFunc_int64_int64_6.R) × Unit
  | 0 => (fun _ _ _ _ _ _ _ => none, ())
  | k + 1 => (slices_IndexFunc_int64_int64_6.l0_ k (slices_IndexFunc_int64_int64_6.all k).1, ())
def slices_IndexFunc_int64_int64_6.l0 (k : Nat) : (List Int) → Int → Int → tFuncD → Int → Int → Int → Option slices_IndexFunc_int64_int64_6.R := (slices_IndexFunc_int64_int64_6.all k).1
def slices_IndexFunc_int64_int64_6.f (k : Nat) (a0 : List Int) (a1 : tFuncD) (a2 : Int) (a3 : Int) (a4 : Int) : Option slices_IndexFunc_int64_int64_6.R := slices_IndexFunc_int64_int64_6.l0 k a0 ((List.length a0 : Nat) : Int) 0 a1 a2 a3 a4
def slices_IndexFunc_int64_int64_6.s (k : Nat) : FS := ⟨[⟨false, [.lst (.int .i64)]⟩, ⟨false, [.fn 165 [(0, 0), (1, 0), (2, 0), (3, 0)]]⟩], [(0, .cbox [.lst (.int .i64), .int .i64, .lst tBlock]), (1, .cbox [.int .i64]), (2, .cbox [.int .i64]), (3, .cbox [.int .i64])], false, [⟨false, [.int .i64]⟩], [], [], fun x => slices_IndexFunc_int64_int64_6.f k x.1.1.1 x.2.1 x.2.2.1.1 x.2.2.2.1.1 x.2.2.2.2.1.1⟩
def slices_IndexFunc_int64_int64_6.E (k : Nat) : Ents := [(⟨165, []⟩, impl_areSeen_1.s k)]
def slices_IndexFunc_int64_int64_6.L0 (l : (List Int) → Int → Int → tFuncD → Int → Int → Int → Option slices_IndexFunc_int64_int64_6.R) : LS slices_IndexFunc_int64_int64_6.R := ⟨[], [(0, ⟨false, [.lst (.int .i64)]⟩), (1, ⟨false, [.fn 165 [(0, 0), (1, 0), (2, 0), (3, 0)]]⟩), (7, ⟨false, [.int .i64]⟩), (8, ⟨false, [.int .i64]⟩)], [(0, .cbox [.lst (.int .i64), .int .i64, .lst tBlock]), (1, .cbox [.int .i64]), (2, .cbox [.int .i64]), (3, .cbox [.int .i64])], fun x => l x.1.1.1 x.1.2.2.1.1 x.1.2.2.2.1.1 x.2.1 x.2.2.1.1 x.2.2.2.1.1 x.2.2.2.2.1.1⟩
def slices_IndexFunc_int64_int64_6.L (l0 : (List Int) → Int → Int → tFuncD → Int → Int → Int → Option slices_IndexFunc_int64_int64_6.R) : List (LS slices_IndexFunc_int64_int64_6.R) := [slices_IndexFunc_int64_int64_6.L0 l0]
def slices_IndexFunc_int64_int64_6.c : Code := Tryz.f183.body.getD .skip
theorem slices_IndexFunc_int64_int64_6.eq (k : Nat) (x) : (slices_IndexFunc_int64_int64_6.s k).pf x = execF tab (slices_IndexFunc_int64_int64_6.E k) Tryz.f183 slices_IndexFunc_int64_int64_6.c (slices_IndexFunc_int64_int64_6.s k) (slices_IndexFunc_int64_int64_6.L (slices_IndexFunc_int64_int64_6.l0 k)) x := by kernel_rfl
theorem slices_IndexFunc_int64_int64_6.r0 (l0 : (List Int) → Int → Int → tFuncD → Int → Int → Int → Option slices_IndexFunc_int64_int64_6.R) (k : Nat) (x) : slices_IndexFunc_int64_int64_6.l0_ k l0 x.1.1.1 x.1.2.2.1.1 x.1.2.2.2.1.1 x.2.1 x.2.2.1.1 x.2.2.2.1.1 x.2.2.2.2.1.1 = roundOf tab (slices_IndexFunc_int64_int64_6.E k) (slices_IndexFunc_int64_int64_6.L l0) slices_IndexFunc_int64_int64_6.c (fin tab Tryz.f183 (slices_IndexFunc_int64_int64_6.s k)) 0 (slices_IndexFunc_int64_int64_6.L0 l0) x := by kernel_rfl
theorem slices_IndexFunc_int64_int64_6.sound : ∀ k, Sound Tryz.prog 183 (slices_IndexFunc_int64_int64_6.s k) := sound_of mixed tab_ok (f := 183) (fn := Tryz.f183) (c := slices_IndexFunc_int64_int64_6.c) (by kernel_rfl) (by kernel_rfl) (by kernel_rfl) ⟨[⟨false, [.lst (.int .i64)]⟩, ⟨false, [.fn 165 [(0, 0), (1, 0), (2, 0), (3, 0)]]⟩], [(0, .cbox [.lst (.int .i64), .int .i64, .lst tBlock]), (1, .cbox [.int .i64]), (2, .cbox [.int .i64]), (3, .cbox [.int .i64])], false, [⟨false, [.int .i64]⟩], [], []⟩ (by kernel_rfl) (by kernel_rfl) (fun k => (slices_IndexFunc_int64_int64_6.s k).pf) slices_IndexFunc_int64_int64_6.E (fun k => (EntsOK.cons (impl_areSeen_1.sound k) EntsOK.nil)) (fun k => slices_IndexFunc_int64_int64_6.L (slices_IndexFunc_int64_int64_6.l0 k)) (fun k => ⟨rfl, trivial⟩) ⟨fun _ => rfl, trivial⟩ (fun k => ⟨⟨(slices_IndexFunc_int64_int64_6.L0 (slices_IndexFunc_int64_int64_6.l0 (k + 1))).l, rfl, fun x => slices_IndexFunc_int64_int64_6.r0 (slices_IndexFunc_int64_int64_6.l0 k) k x⟩, trivial⟩) slices_IndexFunc_int64_int64_6.eq
end
end Go.Proofs.YtebgkcjpocfmmaaGreat.V
namespace Go.Proofs.YtebgkcjpocfmmaaGreat.V
open Go
set_option linter.unusedVariables false
noncomputable section
/-! ### slices.ContainsFunc[[]int64,int64]: function 148 -/
abbrev slices_ContainsFunc_int64_int64_6.R := (((Bool × Unit) × Unit) × Unit)
def slices_ContainsFunc_int64_int64_6.f (k : Nat) (a0 : List Int) (a1 : tFuncD) (a2 : Int) (a3 : Int) (a4 : Int) : Option slices_ContainsFunc_int64_int64_6.R := Option.bind (slices_IndexFunc_int64_int64_6.f k a0 a1 a2 a3 a4) fun r1 => some (((decide (0 ≤ r1.1.1.1), ()), ()), ())
def slices_ContainsFunc_int64_int64_6.s (k : Nat) : FS := ⟨[⟨false, [.lst (.int .i64)]⟩, ⟨false, [.fn 165 [(0, 0), (1, 0), (2, 0), (3, 0)]]⟩], [(0, .cbox [.lst (.int .i64), .int .i64, .lst tBlock]), (1, .cbox [.int .i64]), (2, .cbox [.int .i64]), (3, .cbox [.int .i64])], false, [⟨false, [.bool]⟩], [], [], fun x => slices_ContainsFunc_int64_int64_6.f k x.1.1.1 x.2.1 x.2.2.1.1 x.2.2.2.1.1 x.2.2.2.2.1.1⟩
def slices_ContainsFunc_int64_int64_6.E (k : Nat) : Ents := [(⟨183, [165]⟩, slices_IndexFunc_int64_int64_6.s k)]
def slices_ContainsFunc_int64_int64_6.L : List (LS slices_ContainsFunc_int64_int64_6.R) := []
def slices_ContainsFunc_int64_int64_6.c : Code := Tryz.f148.body.getD .skip
theorem slices_ContainsFunc_int64_int64_6.eq (k : Nat) (x) : (slices_ContainsFunc_int64_int64_6.s k).pf x = execF tab (slices_ContainsFunc_int64_int64_6.E k) Tryz.f148 slices_ContainsFunc_int64_int64_6.c (slices_ContainsFunc_int64_int64_6.s k) slices_ContainsFunc_int64_int64_6.L x := by kernel_rfl
theorem slices_ContainsFunc_int64_int64_6.sound : ∀ k, Sound Tryz.prog 148 (slices_ContainsFunc_int64_int64_6.s k) := sound_of mixed tab_ok (f := 148) (fn := Tryz.f148) (c := slices_ContainsFunc_int64_int64_6.c) (by kernel_rfl) (by kernel_rfl) (by kernel_rfl) ⟨[⟨false, [.lst (.int .i64)]⟩, ⟨false, [.fn 165 [(0, 0), (1, 0), (2, 0), (3, 0)]]⟩], [(0, .cbox [.lst (.int .i64), .int .i64, .lst tBlock]), (1, .cbox [.int .i64]), (2, .cbox [.int .i64]), (3, .cbox [.int .i64])], false, [⟨false, [.bool]⟩], [], []⟩ (by kernel_rfl) (by kernel_rfl) (fun k => (slices_ContainsFunc_int64_int64_6.s k).pf) slices_ContainsFunc_int64_int64_6.E (fun k => (EntsOK.cons (slices_IndexFunc_int64_int64_6.sound k) EntsOK.nil)) (fun k => slices_ContainsFunc_int64_int64_6.L) (fun k => trivial) trivial (fun k => trivial) slices_ContainsFunc_int64_int64_6.eq
end
end Go.Proofs.YtebgkcjpocfmmaaGreat.V
namespace Go.Proofs.YtebgkcjpocfmmaaGreat.V
open Go
set_option linter.unusedVariables false
noncomputable section
/-! ### impl.areSeen: function 95 -/
abbrev impl_areSeen.R := (((Bool × Unit) × Unit) × Unit)
def impl_areSeen.l0_ (k : Nat) (l0 : (List Bool) → (List tPhiD) → Int → Int → tFuncD → Int → tBlockD → (List Int) → Option impl_areSeen.R) (l1 : (List Bool) → (List tPhiD) → Int → Int → (List Int) → Int → Int → tFuncD → Int → tBlockD → (List Int) → Option impl_areSeen.R) (l2 : (List tInstD) → Int → Int → tFuncD → Int → tBlockD → Int → Option impl_areSeen.R) (a0 : List Bool) (a1 : List tPhiD) (a2 : Int) (a3 : Int) (a4 : tFuncD) (a5 : Int) (a6 : tBlockD) (a7 : List Int) : Option impl_areSeen.R := bif decide (a3 < a2) then (bif (decide (0 ≤ a3)) && (decide (a3 < ((List.length a1 : Nat) : Int))) then (l1 a0 a1 a2 a3 ((List.getD a1 (Int.toNat a3) tPhiZ).2.1) ((List.length ((List.getD a1 (Int.toNat a3) tPhiZ).2.1) : Nat) : Int) 0 a4 a5 a6 a7) else none) else (Option.bind (impl_firstOf.f k a4 a5) fun r1 => l2 a6.2.1 ((List.length a6.2.1 : Nat) : Int) 0 a4 a5 a6 (IntKind.wrap .i64 (r1.1.1.1 + ((List.length a6.1 : Nat) : Int))))
def impl_areSeen.l1_ (k : Nat) (l0 : (List Bool) → (List tPhiD) → Int → Int → tFuncD → Int → tBlockD → (List Int) → Option impl_areSeen.R) (l1 : (List Bool) → (List tPhiD) → Int → Int → (List Int) → Int → Int → tFuncD → Int → tBlockD → (List Int) → Option impl_areSeen.R) (l2 : (List tInstD) → Int → Int → tFuncD → Int → tBlockD → Int → Option impl_areSeen.R) (a0 : List Bool) (a1 : List tPhiD) (a2 : Int) (a3 : Int) (a4 : List Int) (a5 : Int) (a6 : Int) (a7 : tFuncD) (a8 : Int) (a9 : tBlockD) (a10 : List Int) : Option impl_areSeen.R := bif decide (a6 < a5) then (bif (decide (0 ≤ a6)) && (decide (a6 < ((List.length a4 : Nat) : Int))) then (bif (decide (0 ≤ a6)) && (decide (a6 < ((List.length a10 : Nat) : Int))) then (bif (decide (0 ≤ List.getD a10 (Int.toNat a6) 0)) && (decide (List.getD a10 (Int.toNat a6) 0 < ((List.length a0 : Nat) : Int))) then (bif List.getD a0 (Int.toNat (List.getD a10 (Int.toNat a6) 0)) false then (bif (decide (0 ≤ a6)) && (decide (a6 < ((List.length a10 : Nat) : Int))) then (Option.bind (impl_CountOf.f k a7) fun r1 => Option.bind (impl_isSeen.f k a7 (List.getD a4 (Int.toNat a6) 0) (List.getD a10 (Int.toNat a6) 0) r1.1.1.1) fun r2 => bif !r2.1.1.1 then (some (((false, ()), ()), ())) else (l1 a0 a1 a2 a3 a4 a5 (IntKind.wrap .i64 (a6 + 1)) a7 a8 a9 a10)) else none) else (l1 a0 a1 a2 a3 a4 a5 (IntKind.wrap .i64 (a6 + 1)) a7 a8 a9 a10)) else none) else none) else none) else (l0 a0 a1 a2 (IntKind.wrap .i64 (a3 + 1)) a7 a8 a9 a10)
def impl_areSeen.l2_ (k : Nat) (l0 : (List Bool) → (List tPhiD) → Int → Int → tFuncD → Int → tBlockD → (List Int) → Option impl_areSeen.R) (l1 : (List Bool) → (List tPhiD) → Int → Int → (List Int) → Int → Int → tFuncD → Int → tBlockD → (List Int) → Option impl_areSeen.R) (l2 : (List tInstD) → Int → Int → tFuncD → Int → tBlockD → Int → Option impl_areSeen.R) (a0 : List tInstD) (a1 : Int) (a2 : Int) (a3 : tFuncD) (a4 : Int) (a5 : tBlockD) (a6 : Int) : Option impl_areSeen.R := bif decide (a2 < a1) then (bif (decide (0 ≤ a2)) && (decide (a2 < ((List.length a0 : Nat) : Int))) then (Option.bind (impl_OperandsOf.f k (List.getD a0 (Int.toNat a2) tInstZ)) fun r1 => Option.bind (slices_ContainsFunc_int64_int64_6.f k r1.2.1 a3 a4 a6 a2) fun r2 => bif r2.1.1.1 then (some (((false, ()), ()), ())) else (l2 a0 a1 (IntKind.wrap .i64 (a2 + 1)) a3 a4 a5 a6)) else none) else (bif decide (a5.2.2.1 = 1) then (Option.bind (impl_CountOf.f k a3) fun r3 => Option.bind (impl_isSeen.f k a3 a5.2.2.2.1 a4 r3.1.1.1) fun r4 => some (((r4.1.1.1, ()), ()), ())) else (bif !(decide (a5.2.2.1 = 3)) then (some (((true, ()), ()), ())) else (Option.bind (impl_CountOf.f k a3) fun r5 => Option.bind (impl_isSeen.f k a3 a5.2.2.2.1 a4 r5.1.1.1) fun r6 => some (((r6.1.1.1, ()), ()), ()))))
def impl_areSeen.all : Nat → ((List Bool) → (List tPhiD) → Int → Int → tFuncD → Int → tBlockD → (List Int) → Option impl_areSeen.R) × ((List Bool) → (List tPhiD) → Int → Int → (List Int) → Int → Int → tFuncD → Int → tBlockD → (List Int) → Option impl_areSeen.R) × ((List tInstD) → Int → Int → tFuncD → Int → tBlockD → Int → Option impl_areSeen.R) × Unit
  | 0 => (fun _ _ _ _ _ _ _ _ => none, fun _ _ _ _ _ _ _ _ _ _ _ => none, fun _ _ _ _ _ _ _ => none, ())
  | k + 1 => (impl_areSeen.l0_ k (impl_areSeen.all k).1 (impl_areSeen.all k).2.1 (impl_areSeen.all k).2.2.1, impl_areSeen.l1_ k (impl_areSeen.all k).1 (impl_areSeen.all k).2.1 (impl_areSeen.all k).2.2.1, impl_areSeen.l2_ k (impl_areSeen.all k).1 (impl_areSeen.all k).2.1 (impl_areSeen.all k).2.2.1, ())
def impl_areSeen.l0 (k : Nat) : (List Bool) → (List tPhiD) → Int → Int → tFuncD → Int → tBlockD → (List Int) → Option impl_areSeen.R := (impl_areSeen.all k).1
def impl_areSeen.l1 (k : Nat) : (List Bool) → (List tPhiD) → Int → Int → (List Int) → Int → Int → tFuncD → Int → tBlockD → (List Int) → Option impl_areSeen.R := (impl_areSeen.all k).2.1
def impl_areSeen.l2 (k : Nat) : (List tInstD) → Int → Int → tFuncD → Int → tBlockD → Int → Option impl_areSeen.R := (impl_areSeen.all k).2.2.1
def impl_areSeen.f (k : Nat) (a0 : tFuncD) (a1 : Int) (a2 : List Bool) : Option impl_areSeen.R := bif (decide (0 ≤ a1)) && (decide (a1 < ((List.length a0.2.2.1 : Nat) : Int))) then (Option.bind (impl_predsOf.f k a0 a1) fun r1 => impl_areSeen.l0 k a2 ((List.getD a0.2.2.1 (Int.toNat a1) tBlockZ).1) ((List.length ((List.getD a0.2.2.1 (Int.toNat a1) tBlockZ).1) : Nat) : Int) 0 a0 a1 (List.getD a0.2.2.1 (Int.toNat a1) tBlockZ) r1.2.1) else none
def impl_areSeen.s (k : Nat) : FS := ⟨[⟨true, [.lst (.int .i64), .int .i64, .lst tBlock]⟩, ⟨false, [.int .i64]⟩, ⟨false, [.lst .bool]⟩], [], false, [⟨false, [.bool]⟩], [], [], fun x => impl_areSeen.f k x.1.1 x.1.2.1.1 x.1.2.2.1.1⟩
def impl_areSeen.E (k : Nat) : Ents := [(⟨156, []⟩, impl_predsOf.s k), (⟨115, []⟩, impl_firstOf.s k), (⟨111, []⟩, impl_CountOf.s k), (⟨163, []⟩, impl_isSeen.s k), (⟨164, []⟩, impl_OperandsOf.s k), (⟨148, [165]⟩, slices_ContainsFunc_int64_int64_6.s k)]
def impl_areSeen.L0 (l : (List Bool) → (List tPhiD) → Int → Int → tFuncD → Int → tBlockD → (List Int) → Option impl_areSeen.R) : LS impl_areSeen.R := ⟨[], [(2, ⟨false, [.lst .bool]⟩), (3, ⟨false, [.ptr 100000 0]⟩), (4, ⟨false, [.ptr 100001 0]⟩), (7, ⟨false, [.ptr 100002 0]⟩), (8, ⟨false, [.own 100003]⟩), (26, ⟨false, [.lst tPhi]⟩), (27, ⟨false, [.int .i64]⟩), (28, ⟨false, [.int .i64]⟩)], [(100000, .box [.lst (.int .i64), .int .i64, .lst tBlock]), (100001, .box [.int .i64]), (100002, .box [.lst tPhi, .lst tInst, .int .i64, .int .i64, .int .i64, .int .i64]), (100003, .row true (.int .i64))], fun x => l x.1.1.1 x.1.2.2.2.2.2.1.1 x.1.2.2.2.2.2.2.1.1 x.1.2.2.2.2.2.2.2.1.1 x.2.1 x.2.2.1.1 x.2.2.2.1 x.2.2.2.2.1⟩
def impl_areSeen.L1 (l : (List Bool) → (List tPhiD) → Int → Int → (List Int) → Int → Int → tFuncD → Int → tBlockD → (List Int) → Option impl_areSeen.R) : LS impl_areSeen.R := ⟨[], [(2, ⟨false, [.lst .bool]⟩), (3, ⟨false, [.ptr 100000 0]⟩), (4, ⟨false, [.ptr 100001 0]⟩), (7, ⟨false, [.ptr 100002 0]⟩), (8, ⟨false, [.own 100003]⟩), (26, ⟨false, [.lst tPhi]⟩), (27, ⟨false, [.int .i64]⟩), (28, ⟨false, [.int .i64]⟩), (33, ⟨false, [.lst (.int .i64)]⟩), (34, ⟨false, [.int .i64]⟩), (35, ⟨false, [.int .i64]⟩)], [(100000, .box [.lst (.int .i64), .int .i64, .lst tBlock]), (100001, .box [.int .i64]), (100002, .box [.lst tPhi, .lst tInst, .int .i64, .int .i64, .int .i64, .int .i64]), (100003, .row true (.int .i64))], fun x => l x.1.1.1 x.1.2.2.2.2.2.1.1 x.1.2.2.2.2.2.2.1.1 x.1.2.2.2.2.2.2.2.1.1 x.1.2.2.2.2.2.2.2.2.1.1 x.1.2.2.2.2.2.2.2.2.2.1.1 x.1.2.2.2.2.2.2.2.2.2.2.1.1 x.2.1 x.2.2.1.1 x.2.2.2.1 x.2.2.2.2.1⟩
def impl_areSeen.L2 (l : (List tInstD) → Int → Int → tFuncD → Int → tBlockD → Int → Option impl_areSeen.R) : LS impl_areSeen.R := ⟨[], [(3, ⟨false, [.ptr 100000 0]⟩), (4, ⟨false, [.ptr 100001 0]⟩), (7, ⟨false, [.ptr 100002 0]⟩), (13, ⟨false, [.ptr 100003 0]⟩), (69, ⟨false, [.lst tInst]⟩), (70, ⟨false, [.int .i64]⟩), (71, ⟨false, [.int .i64]⟩)], [(100000, .box [.lst (.int .i64), .int .i64, .lst tBlock]), (100001, .box [.int .i64]), (100002, .box [.lst tPhi, .lst tInst, .int .i64, .int .i64, .int .i64, .int .i64]), (100003, .box [.int .i64])], fun x => l x.1.2.2.2.2.1.1 x.1.2.2.2.2.2.1.1 x.1.2.2.2.2.2.2.1.1 x.2.1 x.2.2.1.1 x.2.2.2.1 x.2.2.2.2.1.1⟩
def impl_areSeen.L (l0 : (List Bool) → (List tPhiD) → Int → Int → tFuncD → Int → tBlockD → (List Int) → Option impl_areSeen.R) (l1 : (List Bool) → (List tPhiD) → Int → Int → (List Int) → Int → Int → tFuncD → Int → tBlockD → (List Int) → Option impl_areSeen.R) (l2 : (List tInstD) → Int → Int → tFuncD → Int → tBlockD → Int → Option impl_areSeen.R) : List (LS impl_areSeen.R) := [impl_areSeen.L0 l0, impl_areSeen.L1 l1, impl_areSeen.L2 l2]
def impl_areSeen.c : Code := Tryz.f95.body.getD .skip
theorem impl_areSeen.eq (k : Nat) (x) : (impl_areSeen.s k).pf x = execF tab (impl_areSeen.E k) Tryz.f95 impl_areSeen.c (impl_areSeen.s k) (impl_areSeen.L (impl_areSeen.l0 k) (impl_areSeen.l1 k) (impl_areSeen.l2 k)) x := by kernel_rfl
theorem impl_areSeen.r0 (l0 : (List Bool) → (List tPhiD) → Int → Int → tFuncD → Int → tBlockD → (List Int) → Option impl_areSeen.R) (l1 : (List Bool) → (List tPhiD) → Int → Int → (List Int) → Int → Int → tFuncD → Int → tBlockD → (List Int) → Option impl_areSeen.R) (l2 : (List tInstD) → Int → Int → tFuncD → Int → tBlockD → Int → Option impl_areSeen.R) (k : Nat) (x) : impl_areSeen.l0_ k l0 l1 l2 x.1.1.1 x.1.2.2.2.2.2.1.1 x.1.2.2.2.2.2.2.1.1 x.1.2.2.2.2.2.2.2.1.1 x.2.1 x.2.2.1.1 x.2.2.2.1 x.2.2.2.2.1 = roundOf tab (impl_areSeen.E k) (impl_areSeen.L l0 l1 l2) impl_areSeen.c (fin tab Tryz.f95 (impl_areSeen.s k)) 0 (impl_areSeen.L0 l0) x := by kernel_rfl
theorem impl_areSeen.r1 (l0 : (List Bool) → (List tPhiD) → Int → Int → tFuncD → Int → tBlockD → (List Int) → Option impl_areSeen.R) (l1 : (List Bool) → (List tPhiD) → Int → Int → (List Int) → Int → Int → tFuncD → Int → tBlockD → (List Int) → Option impl_areSeen.R) (l2 : (List tInstD) → Int → Int → tFuncD → Int → tBlockD → Int → Option impl_areSeen.R) (k : Nat) (x) : impl_areSeen.l1_ k l0 l1 l2 x.1.1.1 x.1.2.2.2.2.2.1.1 x.1.2.2.2.2.2.2.1.1 x.1.2.2.2.2.2.2.2.1.1 x.1.2.2.2.2.2.2.2.2.1.1 x.1.2.2.2.2.2.2.2.2.2.1.1 x.1.2.2.2.2.2.2.2.2.2.2.1.1 x.2.1 x.2.2.1.1 x.2.2.2.1 x.2.2.2.2.1 = roundOf tab (impl_areSeen.E k) (impl_areSeen.L l0 l1 l2) impl_areSeen.c (fin tab Tryz.f95 (impl_areSeen.s k)) 1 (impl_areSeen.L1 l1) x := by kernel_rfl
theorem impl_areSeen.r2 (l0 : (List Bool) → (List tPhiD) → Int → Int → tFuncD → Int → tBlockD → (List Int) → Option impl_areSeen.R) (l1 : (List Bool) → (List tPhiD) → Int → Int → (List Int) → Int → Int → tFuncD → Int → tBlockD → (List Int) → Option impl_areSeen.R) (l2 : (List tInstD) → Int → Int → tFuncD → Int → tBlockD → Int → Option impl_areSeen.R) (k : Nat) (x) : impl_areSeen.l2_ k l0 l1 l2 x.1.2.2.2.2.1.1 x.1.2.2.2.2.2.1.1 x.1.2.2.2.2.2.2.1.1 x.2.1 x.2.2.1.1 x.2.2.2.1 x.2.2.2.2.1.1 = roundOf tab (impl_areSeen.E k) (impl_areSeen.L l0 l1 l2) impl_areSeen.c (fin tab Tryz.f95 (impl_areSeen.s k)) 2 (impl_areSeen.L2 l2) x := by kernel_rfl
theorem impl_areSeen.sound : ∀ k, Sound Tryz.prog 95 (impl_areSeen.s k) := sound_of mixed tab_ok (f := 95) (fn := Tryz.f95) (c := impl_areSeen.c) (by kernel_rfl) (by kernel_rfl) (by kernel_rfl) ⟨[⟨true, [.lst (.int .i64), .int .i64, .lst tBlock]⟩, ⟨false, [.int .i64]⟩, ⟨false, [.lst .bool]⟩], [], false, [⟨false, [.bool]⟩], [], []⟩ (by kernel_rfl) (by kernel_rfl) (fun k => (impl_areSeen.s k).pf) impl_areSeen.E (fun k => (EntsOK.cons (impl_predsOf.sound k) (EntsOK.cons (impl_firstOf.sound k) (EntsOK.cons (impl_CountOf.sound k) (EntsOK.cons (impl_isSeen.sound k) (EntsOK.cons (impl_OperandsOf.sound k) (EntsOK.cons (slices_ContainsFunc_int64_int64_6.sound k) EntsOK.nil))))))) (fun k => impl_areSeen.L (impl_areSeen.l0 k) (impl_areSeen.l1 k) (impl_areSeen.l2 k)) (fun k => ⟨rfl, rfl, rfl, trivial⟩) ⟨fun _ => rfl, fun _ => rfl, fun _ => rfl, trivial⟩ (fun k => ⟨⟨(impl_areSeen.L0 (impl_areSeen.l0 (k + 1))).l, rfl, fun x => impl_areSeen.r0 (impl_areSeen.l0 k) (impl_areSeen.l1 k) (impl_areSeen.l2 k) k x⟩, ⟨(impl_areSeen.L1 (impl_areSeen.l1 (k + 1))).l, rfl, fun x => impl_areSeen.r1 (impl_areSeen.l0 k) (impl_areSeen.l1 k) (impl_areSeen.l2 k) k x⟩, ⟨(impl_areSeen.L2 (impl_areSeen.l2 (k + 1))).l, rfl, fun x => impl_areSeen.r2 (impl_areSeen.l0 k) (impl_areSeen.l1 k) (impl_areSeen.l2 k) k x⟩, trivial⟩) impl_areSeen.eq
end
end Go.Proofs.YtebgkcjpocfmmaaGreat.V
namespace Go.Proofs.YtebgkcjpocfmmaaGreat.V
open Go
set_option linter.unusedVariables false
noncomputable section
/-! ### impl.checked: function 42 -/
abbrev impl_checked.R := (((Int × Unit) × Unit) × Unit)
def impl_checked.l0_ (k : Nat) (l0 : (List tBlockD) → Int → Int → (List tFuncD) → tFuncD → Option impl_checked.R) (l1 : Int → Int → tFuncD → (List Bool) → Option impl_checked.R) (a0 : List tBlockD) (a1 : Int) (a2 : Int) (a3 : List tFuncD) (a4 : tFuncD) : Option impl_checked.R := bif decide (a2 < a1) then (bif (decide (0 ≤ a2)) && (decide (a2 < ((List.length a0 : Nat) : Int))) then (Option.bind (slices_ContainsFunc_impl_Inst_impl_Inst_3.f k ((List.getD a0 (Int.toNat a2) tBlockZ).2.1) a3 a4) fun r1 => bif r1.1.1.1 then (some (((5, ()), ()), ())) else (l0 a0 a1 (IntKind.wrap .i64 (a2 + 1)) a3 a4)) else none) else (Option.bind (impl_reach.f k a4 (-1)) fun r2 => l1 ((List.length r2.2.1 : Nat) : Int) 0 a4 r2.2.1)
def impl_checked.l1_ (k : Nat) (l0 : (List tBlockD) → Int → Int → (List tFuncD) → tFuncD → Option impl_checked.R) (l1 : Int → Int → tFuncD → (List Bool) → Option impl_checked.R) (a0 : Int) (a1 : Int) (a2 : tFuncD) (a3 : List Bool) : Option impl_checked.R := bif decide (a1 < a0) then (bif (decide (0 ≤ a1)) && (decide (a1 < ((List.length a3 : Nat) : Int))) then (bif List.getD a3 (Int.toNat a1) false then (Option.bind (impl_areSeen.f k a2 a1 a3) fun r1 => bif !r1.1.1.1 then (some (((6, ()), ()), ())) else (l1 a0 (IntKind.wrap .i64 (a1 + 1)) a2 a3)) else (l1 a0 (IntKind.wrap .i64 (a1 + 1)) a2 a3)) else none) else (some (((0, ()), ()), ()))
def impl_checked.all : Nat → ((List tBlockD) → Int → Int → (List tFuncD) → tFuncD → Option impl_checked.R) × (Int → Int → tFuncD → (List Bool) → Option impl_checked.R) × Unit
  | 0 => (fun _ _ _ _ _ => none, fun _ _ _ _ => none, ())
  | k + 1 => (impl_checked.l0_ k (impl_checked.all k).1 (impl_checked.all k).2.1, impl_checked.l1_ k (impl_checked.all k).1 (impl_checked.all k).2.1, ())
def impl_checked.l0 (k : Nat) : (List tBlockD) → Int → Int → (List tFuncD) → tFuncD → Option impl_checked.R := (impl_checked.all k).1
def impl_checked.l1 (k : Nat) : Int → Int → tFuncD → (List Bool) → Option impl_checked.R := (impl_checked.all k).2.1
def impl_checked.f (k : Nat) (a0 : tModuleD) (a1 : tFuncD) : Option impl_checked.R := Option.bind (impl_isEntry.f k a1) fun r1 => bif !r1.1.1.1 then (some (((2, ()), ()), ())) else (Option.bind (impl_arePhis.f k a1) fun r2 => bif !r2.1.1.1 then (some (((3, ()), ()), ())) else (Option.bind (impl_areTypes.f k a1) fun r3 => bif !r3.1.1.1 then (some (((4, ()), ()), ())) else (impl_checked.l0 k a1.2.2.1 ((List.length a1.2.2.1 : Nat) : Int) 0 a0.1 a1)))
def impl_checked.s (k : Nat) : FS := ⟨[⟨true, [.lst tFunc]⟩, ⟨true, [.lst (.int .i64), .int .i64, .lst tBlock]⟩], [], false, [⟨false, [.int .i64]⟩], [], [], fun x => impl_checked.f k x.1.1 x.1.2.1⟩
def impl_checked.E (k : Nat) : Ents := [(⟨88, []⟩, impl_isEntry.s k), (⟨89, []⟩, impl_arePhis.s k), (⟨90, []⟩, impl_areTypes.s k), (⟨91, [92]⟩, slices_ContainsFunc_impl_Inst_impl_Inst_3.s k), (⟨94, []⟩, impl_reach.s k), (⟨95, []⟩, impl_areSeen.s k)]
def impl_checked.L0 (l : (List tBlockD) → Int → Int → (List tFuncD) → tFuncD → Option impl_checked.R) : LS impl_checked.R := ⟨[], [(2, ⟨false, [.ptr 100000 0]⟩), (3, ⟨false, [.ptr 100001 0]⟩), (23, ⟨false, [.lst tBlock]⟩), (24, ⟨false, [.int .i64]⟩), (25, ⟨false, [.int .i64]⟩)], [(100000, .box [.lst tFunc]), (100001, .box [.lst (.int .i64), .int .i64, .lst tBlock])], fun x => l x.1.2.2.1.1 x.1.2.2.2.1.1 x.1.2.2.2.2.1.1 x.2.1.1 x.2.2.1⟩
def impl_checked.L1 (l : Int → Int → tFuncD → (List Bool) → Option impl_checked.R) : LS impl_checked.R := ⟨[], [(3, ⟨false, [.ptr 100000 0]⟩), (7, ⟨false, [.own 100001]⟩), (36, ⟨false, [.own 100001]⟩), (37, ⟨false, [.int .i64]⟩), (38, ⟨false, [.int .i64]⟩)], [(100000, .box [.lst (.int .i64), .int .i64, .lst tBlock]), (100001, .row true .bool)], fun x => l x.1.2.2.2.1.1 x.1.2.2.2.2.1.1 x.2.1 x.2.2.1⟩
def impl_checked.L (l0 : (List tBlockD) → Int → Int → (List tFuncD) → tFuncD → Option impl_checked.R) (l1 : Int → Int → tFuncD → (List Bool) → Option impl_checked.R) : List (LS impl_checked.R) := [impl_checked.L0 l0, impl_checked.L1 l1]
def impl_checked.c : Code := Tryz.f42.body.getD .skip
theorem impl_checked.eq (k : Nat) (x) : (impl_checked.s k).pf x = execF tab (impl_checked.E k) Tryz.f42 impl_checked.c (impl_checked.s k) (impl_checked.L (impl_checked.l0 k) (impl_checked.l1 k)) x := by kernel_rfl
theorem impl_checked.r0 (l0 : (List tBlockD) → Int → Int → (List tFuncD) → tFuncD → Option impl_checked.R) (l1 : Int → Int → tFuncD → (List Bool) → Option impl_checked.R) (k : Nat) (x) : impl_checked.l0_ k l0 l1 x.1.2.2.1.1 x.1.2.2.2.1.1 x.1.2.2.2.2.1.1 x.2.1.1 x.2.2.1 = roundOf tab (impl_checked.E k) (impl_checked.L l0 l1) impl_checked.c (fin tab Tryz.f42 (impl_checked.s k)) 0 (impl_checked.L0 l0) x := by kernel_rfl
theorem impl_checked.r1 (l0 : (List tBlockD) → Int → Int → (List tFuncD) → tFuncD → Option impl_checked.R) (l1 : Int → Int → tFuncD → (List Bool) → Option impl_checked.R) (k : Nat) (x) : impl_checked.l1_ k l0 l1 x.1.2.2.2.1.1 x.1.2.2.2.2.1.1 x.2.1 x.2.2.1 = roundOf tab (impl_checked.E k) (impl_checked.L l0 l1) impl_checked.c (fin tab Tryz.f42 (impl_checked.s k)) 1 (impl_checked.L1 l1) x := by kernel_rfl
theorem impl_checked.sound : ∀ k, Sound Tryz.prog 42 (impl_checked.s k) := sound_of mixed tab_ok (f := 42) (fn := Tryz.f42) (c := impl_checked.c) (by kernel_rfl) (by kernel_rfl) (by kernel_rfl) ⟨[⟨true, [.lst tFunc]⟩, ⟨true, [.lst (.int .i64), .int .i64, .lst tBlock]⟩], [], false, [⟨false, [.int .i64]⟩], [], []⟩ (by kernel_rfl) (by kernel_rfl) (fun k => (impl_checked.s k).pf) impl_checked.E (fun k => (EntsOK.cons (impl_isEntry.sound k) (EntsOK.cons (impl_arePhis.sound k) (EntsOK.cons (impl_areTypes.sound k) (EntsOK.cons (slices_ContainsFunc_impl_Inst_impl_Inst_3.sound k) (EntsOK.cons (impl_reach.sound k) (EntsOK.cons (impl_areSeen.sound k) EntsOK.nil))))))) (fun k => impl_checked.L (impl_checked.l0 k) (impl_checked.l1 k)) (fun k => ⟨rfl, rfl, trivial⟩) ⟨fun _ => rfl, fun _ => rfl, trivial⟩ (fun k => ⟨⟨(impl_checked.L0 (impl_checked.l0 (k + 1))).l, rfl, fun x => impl_checked.r0 (impl_checked.l0 k) (impl_checked.l1 k) k x⟩, ⟨(impl_checked.L1 (impl_checked.l1 (k + 1))).l, rfl, fun x => impl_checked.r1 (impl_checked.l0 k) (impl_checked.l1 k) k x⟩, trivial⟩) impl_checked.eq
end
end Go.Proofs.YtebgkcjpocfmmaaGreat.V
namespace Go.Proofs.YtebgkcjpocfmmaaGreat.V
open Go
set_option linter.unusedVariables false
noncomputable section
/-! ### impl.FuncChecked: function 18 -/
abbrev impl_FuncChecked.R := (((Int × Unit) × Unit) × Unit)
def impl_FuncChecked.f (k : Nat) (a0 : tModuleD) (a1 : Int) : Option impl_FuncChecked.R := Option.bind (impl_ShapeOk.f k (a0.1, ())) fun r1 => bif !r1.1.1.1 then (some (((1, ()), ()), ())) else (Option.bind (impl_within.f k a1 0 (IntKind.wrap .i64 (((List.length a0.1 : Nat) : Int) - 1))) fun r2 => bif !r2.1.1.1 then (some (((1, ()), ()), ())) else (bif (decide (0 ≤ a1)) && (decide (a1 < ((List.length a0.1 : Nat) : Int))) then (Option.bind (impl_checked.f k (a0.1, ()) (List.getD a0.1 (Int.toNat a1) tFuncZ)) fun r3 => some (((r3.1.1.1, ()), ()), ())) else none))
def impl_FuncChecked.s (k : Nat) : FS := ⟨[⟨true, [.lst tFunc]⟩, ⟨false, [.int .i64]⟩], [], false, [⟨false, [.int .i64]⟩], [], [], fun x => impl_FuncChecked.f k x.1.1 x.1.2.1.1⟩
def impl_FuncChecked.E (k : Nat) : Ents := [(⟨40, []⟩, impl_ShapeOk.s k), (⟨41, []⟩, impl_within.s k), (⟨42, []⟩, impl_checked.s k)]
def impl_FuncChecked.L : List (LS impl_FuncChecked.R) := []
def impl_FuncChecked.c : Code := Tryz.f18.body.getD .skip
theorem impl_FuncChecked.eq (k : Nat) (x) : (impl_FuncChecked.s k).pf x = execF tab (impl_FuncChecked.E k) Tryz.f18 impl_FuncChecked.c (impl_FuncChecked.s k) impl_FuncChecked.L x := by kernel_rfl
theorem impl_FuncChecked.sound : ∀ k, Sound Tryz.prog 18 (impl_FuncChecked.s k) := sound_of mixed tab_ok (f := 18) (fn := Tryz.f18) (c := impl_FuncChecked.c) (by kernel_rfl) (by kernel_rfl) (by kernel_rfl) ⟨[⟨true, [.lst tFunc]⟩, ⟨false, [.int .i64]⟩], [], false, [⟨false, [.int .i64]⟩], [], []⟩ (by kernel_rfl) (by kernel_rfl) (fun k => (impl_FuncChecked.s k).pf) impl_FuncChecked.E (fun k => (EntsOK.cons (impl_ShapeOk.sound k) (EntsOK.cons (impl_within.sound k) (EntsOK.cons (impl_checked.sound k) EntsOK.nil)))) (fun k => impl_FuncChecked.L) (fun k => trivial) trivial (fun k => trivial) impl_FuncChecked.eq
end
end Go.Proofs.YtebgkcjpocfmmaaGreat.V
namespace Go.Proofs.YtebgkcjpocfmmaaGreat.V
open Go
set_option linter.unusedVariables false
noncomputable section
/-! ### laws.FnExactFuncChecked: function 5 -/
abbrev laws_FnExactFuncChecked.R := (((Bool × Unit) × Unit) × Unit)
def laws_FnExactFuncChecked.f (k : Nat) (a0 : tModuleD) (a1 : Int) : Option laws_FnExactFuncChecked.R := Option.bind (laws_szModule.f k (a0.1, ()) 1048576) fun r1 => bif decide (r1.1.1.1 < 0) then (some (((true, ()), ()), ())) else (Option.bind (laws_toModule.f k (a0.1, ())) fun r2 => Option.bind (spec_FuncChecked.f k (r2.2.1, ()) a1) fun r3 => Option.bind (laws_toModule.f k (a0.1, ())) fun r4 => Option.bind (impl_FuncChecked.f k (r4.2.1, ()) a1) fun r5 => bif !decide (r5.1.1.1 = r3.1.1.1) then (some (((false, ()), ()), ())) else (Option.bind (laws_toModule.f k (a0.1, ())) fun r6 => Option.bind (laws_eqModule.f k (r4.2.1, ()) (r6.2.1, ())) fun r7 => bif !r7.1.1.1 then (some (((false, ()), ()), ())) else (some (((true, ()), ()), ()))))
def laws_FnExactFuncChecked.s (k : Nat) : FS := ⟨[⟨true, [.lst tFunc]⟩, ⟨false, [.int .i64]⟩], [], false, [⟨false, [.bool]⟩], [], [], fun x => laws_FnExactFuncChecked.f k x.1.1 x.1.2.1.1⟩
def laws_FnExactFuncChecked.E (k : Nat) : Ents := [(⟨8, []⟩, laws_szModule.s k), (⟨10, []⟩, laws_toModule.s k), (⟨17, []⟩, spec_FuncChecked.s k), (⟨18, []⟩, impl_FuncChecked.s k), (⟨12, []⟩, laws_eqModule.s k)]
def laws_FnExactFuncChecked.L : List (LS laws_FnExactFuncChecked.R) := []
def laws_FnExactFuncChecked.c : Code := Tryz.f5.body.getD .skip
theorem laws_FnExactFuncChecked.eq (k : Nat) (x) : (laws_FnExactFuncChecked.s k).pf x = execF tab (laws_FnExactFuncChecked.E k) Tryz.f5 laws_FnExactFuncChecked.c (laws_FnExactFuncChecked.s k) laws_FnExactFuncChecked.L x := by kernel_rfl
theorem laws_FnExactFuncChecked.sound : ∀ k, Sound Tryz.prog 5 (laws_FnExactFuncChecked.s k) := sound_of mixed tab_ok (f := 5) (fn := Tryz.f5) (c := laws_FnExactFuncChecked.c) (by kernel_rfl) (by kernel_rfl) (by kernel_rfl) ⟨[⟨true, [.lst tFunc]⟩, ⟨false, [.int .i64]⟩], [], false, [⟨false, [.bool]⟩], [], []⟩ (by kernel_rfl) (by kernel_rfl) (fun k => (laws_FnExactFuncChecked.s k).pf) laws_FnExactFuncChecked.E (fun k => (EntsOK.cons (laws_szModule.sound k) (EntsOK.cons (laws_toModule.sound k) (EntsOK.cons (spec_FuncChecked.sound k) (EntsOK.cons (impl_FuncChecked.sound k) (EntsOK.cons (laws_eqModule.sound k) EntsOK.nil)))))) (fun k => laws_FnExactFuncChecked.L) (fun k => trivial) trivial (fun k => trivial) laws_FnExactFuncChecked.eq
end
end Go.Proofs.YtebgkcjpocfmmaaGreat.V
namespace Go.Proofs.YtebgkcjpocfmmaaGreat.V
open Go Go.Deep Go.RowKit
set_option linter.unusedVariables false
set_option linter.unusedSimpArgs false
/-- What is known of a datum that was read. -/
def Wf : (t : T) → t.Den → Prop
  | .int k, n => (Lit.int k n).wf = true
  | .bool, _ => True
  | .str, s => ByteArray.size s ≤ 9223372036854775807
  | .list t, xs => List.length (α := t.Den) xs ≤ 9223372036854775807 ∧ ∀ x : t.Den, List.Mem (α := t.Den) x xs → Wf t x
  | .pair a b, x => Wf a (Prod.fst (α := a.Den) (β := b.Den) x) ∧ Wf b (Prod.snd (α := a.Den) (β := b.Den) x)
  | .unit, _ => True
def OpensC (P : Program) (ty : TypeId) (t r : T) : Prop :=
  ∀ (H : Type) (enc : TypeId × Value → H) (w : World) (base : Nat) (spare : Nat → Bool) (held : Bool) (fuel : Nat) (cs : List Value) (x : DataW H × List MemPlace), DataW.trod enc P w base spare held fuel ty cs = some x →
    ∀ (y : r.Den) (us : List Value), Rd (fun b => b < w.heap.size) w r y us → Wf r y → ∃ a : t.Den, Rd (fun b => b < w.heap.size) w t a (cs ++ us) ∧ Wf t a
def Opens (P : Program) (ty : TypeId) (t : T) : Prop :=
  ∀ (H : Type) (enc : TypeId × Value → H) (w : World) (base : Nat) (spare : Nat → Bool) (held : Bool) (fuel : Nat) (cs : List Value) (x : DataW H × List MemPlace), DataW.trod enc P w base spare held fuel ty cs = some x →
    ∃ a : t.Den, Rd (fun b => b < w.heap.size) w t a cs ∧ Wf t a
theorem OpensC.whole {P : Program} {ty : TypeId} {t : T} (h : OpensC P ty t .unit) : Opens P ty t := by
  intro H enc w base spare held fuel cs x hx
  obtain ⟨a, h1, h2⟩ := h H enc w base spare held fuel cs x hx () [] rfl trivial
  rw [List.append_nil] at h1
  exact ⟨a, h1, h2⟩
theorem OpensC.one {P : Program} {ty : TypeId} {e : T} (h : OpensC P ty (.pair e .unit) .unit) : Opens P ty e := by
  intro H enc w base spare held fuel cs x hx
  obtain ⟨a, ⟨us, ws, h0, h1, h2⟩, h3⟩ := h H enc w base spare held fuel cs x hx () [] rfl trivial
  simp only [Rd] at h2
  subst h2
  simp only [List.append_nil] at h0
  subst h0
  exact ⟨_, h1, h3.1⟩
theorem OpensC.leaf {P : Program} {ty : TypeId} {e r : T} (h : Opens P ty e) : OpensC P ty (.pair e r) r := by
  intro H enc w base spare held fuel cs x hx y us hy hw
  obtain ⟨a, h1, h2⟩ := h H enc w base spare held fuel cs x hx
  exact ⟨(a, y), ⟨cs, us, rfl, h1, hy⟩, h2, hw⟩
theorem opens_list {P : Program} {ty el : TypeId} {e : T} (hu : P.underlying ty = some (.slice el)) (hc : P.cellsOf el = e.sz) (h1 : 1 ≤ e.sz) (h : Opens P el e) : Opens P ty (.list e) := by
  intro H enc w base spare held fuel cs x hx
  rcases open_slice hu hx with ⟨rfl, -⟩ | ⟨a, len, cap, m, n, D, Pl, rfl, hb, hl, hm, hmm, -, hel⟩
  · exact ⟨([] : List e.Den), ⟨none, 0, rfl, Nat.le_refl _, fun h => absurd rfl h⟩, Nat.zero_le _, fun _ h => (List.not_mem_nil h).elim⟩
  · have hlm : len ≤ m := by rw [hmm]; split <;> omega
    have hspot : len ≠ 0 → a.spot = none ∧ a.block < w.heap.size := by
      intro hn
      obtain ⟨cs', c1, c2⟩ := hel 0 (by omega)
      obtain ⟨-, l1, l2⟩ := World.cells?_some c1
      rw [hc] at l1 l2
      have h0 := l2 0 (by omega)
      simp only [Nat.zero_mul, Addr.add, if_true] at h0
      rw [List.getElem?_eq_getElem (by omega)] at h0
      unfold World.cell? at h0
      split at h0
      · rename_i hh
        refine ⟨?_, (Array.getElem?_eq_some_iff.1 hh).1⟩
        split at h0
        · cases h0
        · rename_i hs
          simpa using hs
      · cases h0
    have hadd : len ≠ 0 → ∀ n, a.add n = ⟨a.block, a.off + n, none⟩ := by
      intro hn n
      have hs := (hspot hn).1
      unfold Addr.add
      split
      · rename_i h0
        subst h0
        cases a
        simp only at hs
        subst hs
        rfl
      · rfl
    have each : ∀ n, n ≤ len → ∃ (xs : List e.Den) (us : List Value), xs.length = n ∧ (∀ x ∈ xs, Wf e x) ∧ At w a.block a.off us ∧ ELs (Rd (fun b => b < w.heap.size) w e) e.sz xs us := by
      intro n
      induction n with
      | zero => exact fun _ => ⟨[], [], rfl, fun _ h => (List.not_mem_nil h).elim, fun j v hj => by simp at hj, rfl⟩
      | succ n ih =>
        intro hn
        obtain ⟨xs, us, i1, i2, i4, i5⟩ := ih (by omega)
        obtain ⟨cs', c1, c2⟩ := hel n (by omega)
        obtain ⟨y, y1, y2⟩ := h H enc w base spare held _ cs' _ c2
        obtain ⟨-, l1, l2⟩ := World.cells?_some c1
        rw [hc] at l1 l2
        have hcell : ∀ j, j < e.sz → w.cell? ⟨a.block, a.off + (n * e.sz + j), none⟩ = cs'[j]? := by
          intro j hj
          have := l2 j hj
          rw [Deep.add_add, hadd (by omega)] at this
          exact this
        refine ⟨xs ++ [y], us ++ cs', by simp [i1], fun x hx => ?_, fun j v hj => ?_, ?_⟩
        · rcases List.mem_append.1 hx with hx | hx
          · exact i2 x hx
          · simp only [List.mem_singleton] at hx; subst hx; exact y2
        · have hul : us.length = n * e.sz := by have := i5.length; rw [i1] at this; exact this
          rcases Nat.lt_or_ge j us.length with hlt | hge
          · rw [List.getElem?_append_left hlt] at hj
            exact i4 j v hj
          · rw [List.getElem?_append_right hge] at hj
            have hlt := (List.getElem?_eq_some_iff.1 hj).1
            have := hcell (j - us.length) (by omega)
            rw [hj, show a.off + (n * e.sz + (j - us.length)) = a.off + j by omega] at this
            exact this
        · refine i5.app ⟨cs', [], by simp, l1, y1, rfl⟩
    obtain ⟨xs, us, i1, i2, i4, i5⟩ := each len (Nat.le_refl _)
    refine ⟨xs, ⟨some a, cap, by rw [i1], by omega, fun hne => ?_⟩, ?_, i2⟩
    · have hn : len ≠ 0 := fun h0 => hne (List.length_eq_zero_iff.1 (by omega))
      obtain ⟨s1, s2⟩ := hspot hn
      refine ⟨a.block, a.off, us, ?_, s2, i4, i5⟩
      cases a
      simp only at s1
      subst s1
      rfl
    · have : cap ≤ maxLen := hm
      unfold maxLen at this
      show xs.length ≤ _
      omega
theorem opens_int {P : Program} {t : TypeId} {k : IntKind} (hu : P.underlying t = some (.int k)) : Opens P t (.int k) := by
  intro H enc w base spare held fuel cs x h
  obtain ⟨n, rfl, -, hw⟩ := DataW.trod_int hu h
  exact ⟨n, rfl, hw⟩
/-- Fields from place o on, of m cells. -/
def OpensF (P : Program) (o m : Nat) (fs : List Field) (t r : T) : Prop :=
  ∀ (H : Type) (enc : TypeId × Value → H) (w : World) (base : Nat) (spare : Nat → Bool) (held : Bool) (fuel : Nat) (cs : List Value),
    (∀ f ∈ fs, ∃ x, DataW.trod enc P w base spare held fuel f.type ((cs.drop f.offset).take (P.cellsOf f.type)) = some x) → cs.length = o + m →
    ∀ (y : r.Den) (us : List Value), Rd (fun b => b < w.heap.size) w r y us → Wf r y → ∃ a : t.Den, Rd (fun b => b < w.heap.size) w t a (cs.drop o ++ us) ∧ Wf t a
theorem opensF_nil {P : Program} {o : Nat} {t : T} : OpensF P o 0 [] t t := by
  intro H enc w base spare held fuel cs h hl y us hy hw
  refine ⟨y, ?_, hw⟩
  rw [List.drop_eq_nil_of_le (by omega), List.nil_append]
  exact hy
theorem opensF_cons {P : Program} {o m n : Nat} {f : Field} {fs : List Field} {t t1 r : T} (ho : f.offset = o) (hc : P.cellsOf f.type = m) (hd : OpensC P f.type t t1) (hs : OpensF P (o + m) n fs t1 r) : OpensF P o (m + n) (f :: fs) t r := by
  intro H enc w base spare held fuel cs h hl y us hy hw
  obtain ⟨x, hx⟩ := h f (by simp)
  obtain ⟨a1, q1, q2⟩ := hs H enc w base spare held fuel cs (fun f hf => h f (by simp [hf])) (by omega) y us hy hw
  rw [ho, hc] at hx
  obtain ⟨a, q3, q4⟩ := hd H enc w base spare held fuel _ _ hx a1 _ q1 q2
  refine ⟨a, ?_, q4⟩
  rw [← List.append_assoc, ← List.drop_drop, List.take_append_drop] at q3
  exact q3
theorem opensC_struct {P : Program} {ty : TypeId} {fs : Array Field} {m : Nat} {t r : T} (hu : P.underlying ty = some (.struct fs)) (hc : P.cellsOf ty = m) (hd : OpensF P 0 m fs.toList t r) : OpensC P ty t r := by
  intro H enc w base spare held fuel cs x h y us hy hw
  obtain ⟨xs, n, -, -, hl, hxs, hf⟩ := DataW.trod_struct hu h
  have := hd H enc w base spare held n cs (fun f hm => by
    obtain ⟨i, hi, rfl⟩ := List.getElem_of_mem hm
    have hi' : i < fs.size := by simpa using hi
    have := hf i fs[i] (by simp [hi'])
    rw [List.getElem?_eq_getElem (by omega)] at this
    exact ⟨_, by simpa using this⟩) (by rw [hl, hc, Nat.zero_add]) y us hy hw
  simpa using this
/-! ### a law -/
def gh0 (W : World) : Gh := ⟨fun _ => none, fun _ => none, fun b => b < W.heap.size⟩
theorem rval_struct {W : World} {t : T} {a : t.Den} {cs : Array Value} (h : Rd (fun b => b < W.heap.size) W t a cs.toList) : RVal (gh0 W) [] W true (cellsOf t a) (.agg cs) :=
  ⟨cs, rfl, rcs_cells (g := gh0 W) h⟩
theorem rval_int {W : World} {k : IntKind} {n : Int} : RVal (gh0 W) [] W false [.int k n] (.int k n) :=
  rcs_cells (g := gh0 W) (t := .int k) (x := n) rfl
theorem law_calls {P : Program} {f : FuncId} {ins : List VS} {pf : DenV ins × DenO [] → Option (DenV [⟨false, [.bool]⟩] × DenO [])} (hs : Sound P f ⟨ins, [], false, [⟨false, [.bool]⟩], [], [], pf⟩) {x : DenV ins} (hx : pf (x, ()) = some (((true, ()), ()), ())) {W : World} {args : Array Value}
    (h : RVals (gh0 W) [] W (instV ins x) args.toList) : Calls P f args W fun e W' => e = .returned (.bool true) ∧ Below W.heap.size W W' := by
  have hG : RelG (gh0 W) [] W := ⟨fun o ob h => (by cases h), fun b o h => (by cases h), fun b h => h⟩
  refine (hs.2 (x, ()) (((true, ()), ()), ()) hx (gh0 W) W args hG h).mono fun e W' he => ?_
  cases e with
  | returned v =>
    obtain ⟨g', O⟩ := he
    have hv : RVal g' [] W' false [.bool true] v := O.val
    obtain ⟨u, us, e, h1, h2⟩ := hv
    obtain ⟨rfl, rfl⟩ : u = v ∧ us = [] := by simpa using e.symm
    have h3 : u = .bool true := h1.2
    refine ⟨by rw [h3], O.ext.os, O.ext.tape, O.ext.output, O.ext.size, fun k hk => O.ext.block k hk (by simp [gh0])⟩
  | panicked c => exact he.elim
  | outgrown => exact he.elim
end Go.Proofs.YtebgkcjpocfmmaaGreat.V
namespace Go.Proofs.YtebgkcjpocfmmaaGreat.V
open Go
set_option linter.unusedVariables false
theorem opensC173 (r : T) : OpensC Tryz.prog 173 (.pair (.int .i64) (.pair (.list (.int .i64)) r)) r := opensC_struct Tryz.underlying173 (by kernel_rfl) (opensF_cons (o := 0) (m := 1) (n := 1) rfl (by kernel_rfl) (OpensC.leaf (opens_int Tryz.underlying2)) (opensF_cons (o := 1) (m := 1) (n := 0) rfl (by kernel_rfl) (OpensC.leaf (opens_list Tryz.underlying39 (by kernel_rfl) (by decide) (opens_int Tryz.underlying2))) opensF_nil))
theorem opensC175 (r : T) : OpensC Tryz.prog 175 (.pair (.int .i64) (.pair (.int .i64) (.pair (.int .i64) (.pair (.int .i64) (.pair (.int .i64) (.pair (.int .i64) (.pair (.list (.int .i64)) r))))))) r := opensC_struct Tryz.underlying175 (by kernel_rfl) (opensF_cons (o := 0) (m := 1) (n := 6) rfl (by kernel_rfl) (OpensC.leaf (opens_int Tryz.underlying2)) (opensF_cons (o := 1) (m := 1) (n := 5) rfl (by kernel_rfl) (OpensC.leaf (opens_int Tryz.underlying2)) (opensF_cons (o := 2) (m := 1) (n := 4) rfl (by kernel_rfl) (OpensC.leaf (opens_int Tryz.underlying2)) (opensF_cons (o := 3) (m := 1) (n := 3) rfl (by kernel_rfl) (OpensC.leaf (opens_int Tryz.underlying2)) (opensF_cons (o := 4) (m := 1) (n := 2) rfl (by kernel_rfl) (OpensC.leaf (opens_int Tryz.underlying2)) (opensF_cons (o := 5) (m := 1) (n := 1) rfl (by kernel_rfl) (OpensC.leaf (opens_int Tryz.underlying2)) (opensF_cons (o := 6) (m := 1) (n := 0) rfl (by kernel_rfl) (OpensC.leaf (opens_list Tryz.underlying39 (by kernel_rfl) (by decide) (opens_int Tryz.underlying2))) opensF_nil)))))))
theorem opensC151 (r : T) : OpensC Tryz.prog 151 (.pair (.int .i64) (.pair (.int .i64) (.pair (.int .i64) (.pair (.int .i64) r)))) r := opensC_struct Tryz.underlying151 (by kernel_rfl) (opensF_cons (o := 0) (m := 1) (n := 3) rfl (by kernel_rfl) (OpensC.leaf (opens_int Tryz.underlying2)) (opensF_cons (o := 1) (m := 1) (n := 2) rfl (by kernel_rfl) (OpensC.leaf (opens_int Tryz.underlying2)) (opensF_cons (o := 2) (m := 1) (n := 1) rfl (by kernel_rfl) (OpensC.leaf (opens_int Tryz.underlying2)) (opensF_cons (o := 3) (m := 1) (n := 0) rfl (by kernel_rfl) (OpensC.leaf (opens_int Tryz.underlying2)) opensF_nil))))
theorem opensC153 (r : T) : OpensC Tryz.prog 153 (.pair (.list tPhi) (.pair (.list tInst) (.pair (.int .i64) (.pair (.int .i64) (.pair (.int .i64) (.pair (.int .i64) r)))))) r := opensC_struct Tryz.underlying153 (by kernel_rfl) (opensF_cons (o := 0) (m := 1) (n := 5) rfl (by kernel_rfl) (OpensC.leaf (opens_list Tryz.underlying149 (by kernel_rfl) (by decide) (OpensC.whole (opensC173 _)))) (opensF_cons (o := 1) (m := 1) (n := 4) rfl (by kernel_rfl) (OpensC.leaf (opens_list Tryz.underlying150 (by kernel_rfl) (by decide) (OpensC.whole (opensC175 _)))) (opensF_cons (o := 2) (m := 4) (n := 0) rfl (by kernel_rfl) (opensC151 _) opensF_nil)))
theorem opensC70 (r : T) : OpensC Tryz.prog 70 (.pair (.list (.int .i64)) (.pair (.int .i64) (.pair (.list tBlock) r))) r := opensC_struct Tryz.underlying70 (by kernel_rfl) (opensF_cons (o := 0) (m := 1) (n := 2) rfl (by kernel_rfl) (OpensC.leaf (opens_list Tryz.underlying39 (by kernel_rfl) (by decide) (opens_int Tryz.underlying2))) (opensF_cons (o := 1) (m := 1) (n := 1) rfl (by kernel_rfl) (OpensC.leaf (opens_int Tryz.underlying2)) (opensF_cons (o := 2) (m := 1) (n := 0) rfl (by kernel_rfl) (OpensC.leaf (opens_list Tryz.underlying68 (by kernel_rfl) (by decide) (OpensC.whole (opensC153 _)))) opensF_nil)))
theorem opensC24 (r : T) : OpensC Tryz.prog 24 (.pair (.list tFunc) r) r := opensC_struct Tryz.underlying24 (by kernel_rfl) (opensF_cons (o := 0) (m := 1) (n := 0) rfl (by kernel_rfl) (OpensC.leaf (opens_list Tryz.underlying22 (by kernel_rfl) (by decide) (OpensC.whole (opensC70 _)))) opensF_nil)
end Go.Proofs.YtebgkcjpocfmmaaGreat.V
namespace Go.Proofs.YtebgkcjpocfmmaaGreat.V
open Go
set_option linter.unusedVariables false
set_option linter.unusedSimpArgs false
def Ev {R : Type} (g : Nat → Option R) (r : R) : Prop := ∃ n, ∀ k, n ≤ k → g k = some r
abbrev one {α : Type} (x : α) : ((α × Unit) × Unit) × Unit := (((x, ()), ()), ())
abbrev rowR {α : Type} (xs : α) : ((Unit × Unit) × Unit) × (α × Unit) := ((((), ()), ()), (xs, ()))
section
variable {R S : Type}
theorem Ev.cst {o : Option R} {r : R} (h : o = some r) : Ev (fun _ => o) r := ⟨0, fun _ _ => h⟩
theorem Ev.all {g : Nat → Option R} {r : R} (h : ∀ k, g k = some r) : Ev g r := ⟨0, fun k _ => h k⟩
theorem Ev.congr {g g' : Nat → Option R} {r : R} (h : Ev g' r) (e : ∀ k, g k = g' k) : Ev g r := by
  obtain ⟨n, h⟩ := h
  exact ⟨n, fun k hk => by rw [e, h k hk]⟩
theorem Ev.step {g g' : Nat → Option R} {r : R} (h : Ev g' r) (e : ∀ k, g (k + 1) = g' k) : Ev g r := by
  obtain ⟨n, h⟩ := h
  refine ⟨n + 1, fun k hk => ?_⟩
  obtain ⟨k, rfl⟩ : ∃ j, k = j + 1 := ⟨k - 1, by omega⟩
  rw [e, h k (by omega)]
theorem Ev.bind {g : Nat → Option S} {f : Nat → S → Option R} {a : S} {r : R} (h : Ev g a) (k : Ev (fun n => f n a) r) : Ev (fun n => Option.bind (g n) (f n)) r := by
  obtain ⟨n, h⟩ := h
  obtain ⟨m, k⟩ := k
  exact ⟨max n m, fun j hj => by show Option.bind (g j) (f j) = some r; rw [h j (by omega), Option.bind_some]; exact k j (by omega)⟩
theorem Ev.rw {g : Nat → Option R} {r s : R} (h : Ev g r) (e : r = s) : Ev g s := e ▸ h
theorem Ev.pos {c : Bool} {f g : Nat → Option R} {r : R} (hc : c = true) (h : Ev f r) : Ev (fun k => bif c then f k else g k) r := h.congr fun k => by rw [hc]; rfl
theorem Ev.neg {c : Bool} {f g : Nat → Option R} {r : R} (hc : c = false) (h : Ev g r) : Ev (fun k => bif c then f k else g k) r := h.congr fun k => by rw [hc]; rfl
theorem Ev.ex {g : Nat → Option R} {r : R} (h : Ev g r) : ∃ k, g k = some r := by
  obtain ⟨n, h⟩ := h
  exact ⟨n, h n (Nat.le_refl _)⟩
end
def W (x : Int) : Int := IntKind.wrap .i64 x
theorem wrap_id {x : Int} (h0 : -9223372036854775808 ≤ x) (h1 : x ≤ 9223372036854775807) : IntKind.wrap .i64 x = x := by
  have e : IntKind.wrap .i64 x = if (true && decide (x % 18446744073709551616 ≥ 9223372036854775808)) = true then x % 18446744073709551616 - 18446744073709551616 else x % 18446744073709551616 := rfl
  rw [e]
  simp only [Bool.true_and, decide_eq_true_eq]
  split <;> omega
theorem wrap_nat {i : Nat} (h : i < 9223372036854775807) : IntKind.wrap .i64 ((i : Int) + 1) = ((i + 1 : Nat) : Int) := by
  rw [wrap_id (by omega) (by omega)]; omega
theorem getD_at {α : Type} (l : List α) (z : α) (j : Nat) (h : j < l.length) : l.getD j z = l[j] := by simp [List.getD, List.getElem?_eq_getElem h]
theorem dpos {c : Prop} [Decidable c] (h : c) : decide c = true := by simp [h]
theorem dneg {c : Prop} [Decidable c] (h : ¬ c) : decide c = false := by simp [h]
/-- A loop over places 0 .. n, backwards. -/
theorem Ev.down {R : Type} {G : Nat → Nat → Option R} {V : Nat → R} (n : Nat) (hend : Ev (G n) (V n)) (hstep : ∀ i, i < n → Ev (G (i + 1)) (V (i + 1)) → Ev (G i) (V i)) : ∀ i, i ≤ n → Ev (G i) (V i) := by
  intro i hi
  obtain ⟨d, rfl⟩ : ∃ d, i = n - d := ⟨n - i, by omega⟩
  clear hi
  induction d with
  | zero => exact hend
  | succ d ih =>
    by_cases h : d < n
    · have e : n - (d + 1) + 1 = n - d := by omega
      exact hstep (n - (d + 1)) (by omega) (by rw [e]; exact ih)
    · have e : n - (d + 1) = n - d := by omega
      rw [e]; exact ih
section
variable {α R : Type} {z : α} {l : List α}
/-- What a loop's head asks: is the place one of the list? -/
theorem head_in {i : Nat} (h : i < l.length) : (decide ((i : Int) < (l.length : Int))) = true := dpos (by omega)
theorem head_0 {i : Nat} : (decide (0 ≤ (i : Int))) = true := dpos (by omega)
theorem head_end : (decide ((l.length : Int) < (l.length : Int))) = false := dneg (by omega)
theorem get_in {i : Nat} (h : i < l.length) : l.getD (Int.toNat (i : Int)) z = l[i] := by rw [Int.toNat_natCast]; exact getD_at l z i h
/-- The loops that ask something of each element. -/
theorem each_ev {L : Nat → Int → Option R} {q : Nat → α → (Nat → Option R) → Option R} {tail : Nat → Option R} {V : List α → R} (hlen : l.length ≤ 9223372036854775807)
    (hL : ∀ k a, L (k + 1) a = bif decide (a < (l.length : Int)) then (bif decide (0 ≤ a) && decide (a < (l.length : Int)) then q k (l.getD a.toNat z) (fun j => L j (IntKind.wrap .i64 (a + 1))) else none) else tail k)
    (hend : Ev tail (V [])) (hstep : ∀ x m (g : Nat → Option R), x ∈ l → Ev g (V m) → Ev (fun k => q k x g) (V (x :: m))) : Ev (fun k => L k 0) (V l) := by
  have := Ev.down (G := fun i k => L k (i : Int)) (V := fun i => V (l.drop i)) l.length ?_ ?_ 0 (Nat.zero_le _)
  · exact this
  · rw [List.drop_length]
    refine hend.step fun k => ?_
    rw [hL, head_end]; rfl
  · intro i hi ih
    rw [List.drop_eq_getElem_cons hi]
    refine (hstep l[i] (l.drop (i + 1)) (fun j => L j (((i + 1 : Nat)) : Int)) (List.getElem_mem hi) ih).step fun k => ?_
    show L (k + 1) (i : Int) = _
    rw [hL]
    simp only [head_in hi, head_0, Bool.and_self, cond_true, get_in hi, wrap_nat (show i < 9223372036854775807 by omega)]
/-- slices.IndexFunc. -/
def ixF (p : α → Bool) : List α → Nat → Int
  | [], _ => -1
  | x :: l, i => bif p x then (i : Int) else ixF p l (i + 1)
theorem ixF_any (p : α → Bool) : ∀ (l : List α) (i : Nat), decide (0 ≤ ixF p l i) = l.any p
  | [], i => by simp [ixF]
  | x :: l, i => by
    have ih := ixF_any p l (i + 1)
    rw [List.any_cons]
    unfold ixF
    rcases Bool.eq_false_or_eq_true (p x) with h | h
    · simp only [h, cond_true, Bool.true_or]; exact dpos (by omega)
    · simp only [h, cond_false, Bool.false_or]; exact ih
theorem index_ev {p : α → Bool} {q : Nat → α → Option (((Bool × Unit) × Unit) × Unit)} {L : Nat → Int → Int → Option (((Int × Unit) × Unit) × Unit)} (hlen : l.length ≤ 9223372036854775807)
    (hL : ∀ k b a, L (k + 1) b a = bif decide (a < b) then (bif decide (0 ≤ a) && decide (a < (l.length : Int)) then (Option.bind (q k (l.getD a.toNat z)) fun r1 => bif r1.1.1.1 then some (((a, ()), ()), ()) else L k b (IntKind.wrap .i64 (a + 1))) else none) else some (((-1, ()), ()), ()))
    (hq : ∀ x ∈ l, Ev (fun k => q k x) (one (p x))) : Ev (fun k => Option.bind (L k (l.length : Int) 0) fun r1 => some (((decide (0 ≤ r1.1.1.1), ()), ()), ())) (one (l.any p)) := by
  have := Ev.down (G := fun i k => L k (l.length : Int) (i : Int)) (V := fun i => one (ixF p (l.drop i) i)) l.length ?_ ?_ 0 (Nat.zero_le _)
  · refine (Ev.bind (f := fun _ r1 => some (((decide (0 ≤ r1.1.1.1), ()), ()), ())) this (Ev.cst rfl)).rw ?_
    show one (decide (0 ≤ ixF p l 0)) = _
    rw [ixF_any]
  · rw [List.drop_length]
    refine Ev.step (g' := fun _ => some (((-1, ()), ()), ())) (Ev.cst rfl) fun k => ?_
    show L (k + 1) _ _ = _
    rw [hL, head_end]; rfl
  · intro i hi ih
    rw [List.drop_eq_getElem_cons hi]
    have h1 := hq l[i] (List.getElem_mem hi)
    refine Ev.step (g' := fun k => Option.bind (q k l[i]) fun r1 => bif r1.1.1.1 then some ((((i : Int), ()), ()), ()) else L k (l.length : Int) ((i + 1 : Nat) : Int)) ?_ fun k => ?_
    · refine Ev.bind h1 ?_
      simp only [ixF]
      cases p l[i] with
      | true => exact Ev.cst rfl
      | false => exact ih
    · show L (k + 1) _ _ = _
      rw [hL]
      simp only [head_in hi, head_0, Bool.and_self, cond_true, get_in hi, wrap_nat (show i < 9223372036854775807 by omega)]
end
end Go.Proofs.YtebgkcjpocfmmaaGreat.V
namespace Go.Proofs.YtebgkcjpocfmmaaGreat.V
open Go
set_option linter.unusedVariables false
set_option linter.unusedSimpArgs false
/-- All lists are short. -/
def Small : (t : T) → t.Den → Prop
  | .list t, xs => List.length (α := t.Den) xs ≤ 1048576 ∧ ∀ x : t.Den, List.Mem (α := t.Den) x xs → Small t x
  | .pair a b, x => Small a (Prod.fst (α := a.Den) (β := b.Den) x) ∧ Small b (Prod.snd (α := a.Den) (β := b.Den) x)
  | _, _ => True
abbrev IR := (((Int × Unit) × Unit) × Unit)
abbrev BR := (((Bool × Unit) × Unit) × Unit)
def SzP {α : Type} (wf small : α → Prop) (f : Nat → α → Int → Option IR) : Prop := ∀ (x : α), wf x → ∀ n : Int, 0 ≤ n → n ≤ 1048576 → ∃ s, Ev (fun k => f k x n) (one s) ∧ -1 ≤ s ∧ s ≤ n ∧ (0 ≤ s → small x)
abbrev SzOK (t : T) (f : Nat → t.Den → Int → Option IR) : Prop := SzP (Wf t) (Small t) f
theorem sz_list {α : Type} {wf small : α → Prop} {z : α} {f : Nat → α → Int → Option IR} (hf : SzP wf small f) {L : Nat → List α → Int → Int → Option IR} {F : Nat → List α → Int → Option IR}
    (hL : ∀ k l a1 a2, L (k + 1) l a1 a2 = bif decide (a2 < (l.length : Int)) then (bif decide (0 ≤ a2) && decide (a2 < (l.length : Int)) then (Option.bind (f k (l.getD a2.toNat z) a1) fun r1 => bif decide (r1.1.1.1 < 0) then some (((-1, ()), ()), ()) else L k l r1.1.1.1 (IntKind.wrap .i64 (a2 + 1))) else none) else some (((a1, ()), ()), ()))
    (hF : ∀ k l a, F k l a = bif decide (IntKind.wrap .i64 (a - (l.length : Int)) < 0) then some (((-1, ()), ()), ()) else L k l (IntKind.wrap .i64 (a - (l.length : Int))) 0) : SzP (fun l : List α => l.length ≤ 9223372036854775807 ∧ ∀ x ∈ l, wf x) (fun l : List α => l.length ≤ 1048576 ∧ ∀ x ∈ l, small x) F := by
  intro l hw n h0 h1
  obtain ⟨hlen, hel⟩ := hw
  have key : ∀ (d i : Nat) (n : Int), i + d = l.length → 0 ≤ n → n ≤ 1048576 → ∃ s, Ev (fun k => L k l n (i : Int)) (one s) ∧ -1 ≤ s ∧ s ≤ n ∧ (0 ≤ s → ∀ x ∈ l.drop i, small x) := by
    intro d
    induction d with
    | zero =>
      intro i n hi h0 h1
      have hi' : i = l.length := by omega
      subst hi'
      refine ⟨n, Ev.step (g' := fun _ => some (one n)) (Ev.cst rfl) fun k => ?_, by omega, Int.le_refl _, fun _ x hx => by rw [List.drop_length] at hx; cases hx⟩
      rw [hL, head_end]; rfl
    | succ d ih =>
      intro i n hi h0 h1
      have hi' : i < l.length := by omega
      have hmem : l[i] ∈ l := List.getElem_mem hi'
      obtain ⟨s, e1, e2, e3, e4⟩ := hf (l[i]) (hel _ hmem) n h0 h1
      have hstep : ∀ k, L (k + 1) l n (i : Int) = Option.bind (f k (l[i]) n) fun r1 => bif decide (r1.1.1.1 < 0) then some (((-1, ()), ()), ()) else L k l r1.1.1.1 ((i + 1 : Nat) : Int) := fun k => by
        rw [hL]
        simp only [head_in hi', head_0, Bool.and_self, cond_true, get_in hi', wrap_nat (show i < 9223372036854775807 by omega)]
      rcases Int.lt_or_le s 0 with hs | hs
      · refine ⟨-1, Ev.step (Ev.bind (f := fun k r1 => bif decide (r1.1.1.1 < 0) then some (((-1, ()), ()), ()) else L k l r1.1.1.1 ((i + 1 : Nat) : Int)) e1 ?_) hstep, by omega, by omega, fun h => by omega⟩
        exact Ev.pos (dpos hs) (Ev.cst rfl)
      · obtain ⟨s', q1, q2, q3, q4⟩ := ih (i + 1) s (by omega) hs (by omega)
        refine ⟨s', Ev.step (Ev.bind (f := fun k r1 => bif decide (r1.1.1.1 < 0) then some (((-1, ()), ()), ()) else L k l r1.1.1.1 ((i + 1 : Nat) : Int)) e1 (Ev.neg (dneg (show ¬ s < 0 by omega)) q1)) hstep, q2, by omega, fun h x hx => ?_⟩
        rw [List.drop_eq_getElem_cons hi'] at hx
        rcases List.mem_cons.1 hx with rfl | hx
        · exact e4 hs
        · exact q4 h x hx
  have hw : IntKind.wrap .i64 (n - (l.length : Int)) = n - (l.length : Int) := wrap_id (by omega) (by omega)
  rcases Int.lt_or_le (n - (l.length : Int)) 0 with hs | hs
  · refine ⟨-1, (Ev.cst rfl : Ev (fun _ => some (one (-1 : Int))) _).congr fun k => ?_, by omega, by omega, fun h => by omega⟩
    rw [hF, hw, dpos hs]; rfl
  · obtain ⟨s, q1, q2, q3, q4⟩ := key (l.length) 0 _ (by omega) hs (by omega)
    refine ⟨s, q1.congr fun k => ?_, q2, by omega, fun h => ⟨by omega, fun x hx => q4 h x (by simpa using hx)⟩⟩
    rw [hF, hw, dneg (by omega)]; rfl
/-- A copy, element by element. -/
theorem to_list {α R : Type} {z : α} {L : Nat → List α → Int → List α → Option (((Unit × Unit) × Unit) × (List α × Unit))} {q : Nat → α → (α → Option (((Unit × Unit) × Unit) × (List α × Unit))) → Option (((Unit × Unit) × Unit) × (List α × Unit))} {F : Nat → List α → Option (((Unit × Unit) × Unit) × (List α × Unit))} {b : Int}
    (hL : ∀ k l a1 a2, L (k + 1) l a1 a2 = bif decide (a1 < (l.length : Int)) then (bif decide (0 ≤ a1) && decide (a1 < (l.length : Int)) then q k (l.getD a1.toNat z) (fun y => bif decide (0 ≤ a1) && decide (a1 < (a2.length : Int)) then L k l (IntKind.wrap .i64 (a1 + 1)) (a2.set a1.toNat y) else none) else none) else some ((((), ()), ()), (a2, ())))
    (hF : ∀ k l, F k l = bif decide ((l.length : Int) = (l.length : Int)) && decide (0 ≤ (l.length : Int)) && decide ((l.length : Int) * b ≤ 281474976710656) then L k l 0 (List.replicate (Int.toNat (l.length : Int)) z) else none)
    {l : List α} (hlen : l.length ≤ 1048576) (hb0 : 0 ≤ b) (hb : b ≤ 1000) (hq : ∀ x ∈ l, ∀ (h : Nat → α → Option (((Unit × Unit) × Unit) × (List α × Unit))) r, Ev (fun k => h k x) r → Ev (fun k => q k x (h k)) r) : Ev (fun k => F k l) (rowR l) := by
  have h1 := Ev.down (G := fun i k => L k l (i : Int) (l.take i ++ List.replicate (l.length - i) z)) (V := fun _ => rowR l) l.length ?_ ?_ 0 (Nat.zero_le _)
  · refine h1.congr fun k => ?_
    have hsz : (l.length : Int) * b ≤ 281474976710656 := by
      have : (l.length : Int) * b ≤ 1048576 * 1000 := Int.mul_le_mul (by omega) hb hb0 (by omega)
      omega
    rw [hF, dpos rfl, dpos (show 0 ≤ (l.length : Int) by omega), dpos hsz]
    simp
  · refine Ev.step (g' := fun _ => some (rowR l)) (Ev.cst rfl) fun k => ?_
    show L (k + 1) l _ _ = _
    rw [hL, head_end]
    simp
  · intro i hi ih
    refine Ev.step (g' := fun k => q k l[i] (fun y => bif decide (0 ≤ (i : Int)) && decide ((i : Int) < (((l.take i ++ List.replicate (l.length - i) z).length : Nat) : Int)) then L k l ((i + 1 : Nat) : Int) ((l.take i ++ List.replicate (l.length - i) z).set i y) else none)) (hq _ (List.getElem_mem hi) (fun k y => bif decide (0 ≤ (i : Int)) && decide ((i : Int) < (((l.take i ++ List.replicate (l.length - i) z).length : Nat) : Int)) then L k l ((i + 1 : Nat) : Int) ((l.take i ++ List.replicate (l.length - i) z).set i y) else none) _ ?_) fun k => ?_
    · refine Ev.pos ?_ (ih.congr fun k => ?_)
      · rw [dpos (by omega), dpos (by simp; omega)]; rfl
      · congr 1
        rw [List.set_append_right _ _ (by simp; omega)]
        have e1 : i - (l.take i).length = 0 := by simp; omega
        have e2 : l.length - i = (l.length - (i + 1)) + 1 := by omega
        rw [e1, e2, List.replicate_succ, List.set_cons_zero, List.take_succ_eq_append_getElem hi, List.append_assoc]
        rfl
    · show L (k + 1) l _ _ = _
      rw [hL]
      simp only [head_in hi, head_0, Bool.and_self, cond_true, get_in hi, wrap_nat (show i < 9223372036854775807 by omega), Int.toNat_natCast]
      rw [getD_at l z i hi]
/-- A list compared with itself. -/
theorem eq_list {α : Type} {z : α} {L : Nat → List α → List α → Int → Option BR} {q : Nat → α → α → Option BR → Option BR} {F : Nat → List α → List α → Option BR}
    (hL : ∀ k l m a, L (k + 1) l m a = bif decide (a < (l.length : Int)) then (bif decide (0 ≤ a) && decide (a < (l.length : Int)) then (bif decide (0 ≤ a) && decide (a < (m.length : Int)) then q k (l.getD a.toNat z) (m.getD a.toNat z) (L k l m (IntKind.wrap .i64 (a + 1))) else none) else none) else some (((true, ()), ()), ()))
    (hF : ∀ k l m, F k l m = bif !decide ((l.length : Int) = (m.length : Int)) then some (((false, ()), ()), ()) else L k l m 0)
    {l : List α} (hlen : l.length ≤ 1048576) (hq : ∀ x ∈ l, ∀ (g : Nat → Option BR) r, Ev g r → Ev (fun k => q k x x (g k)) r) : Ev (fun k => F k l l) (one true) := by
  have h1 := Ev.down (G := fun i k => L k l l (i : Int)) (V := fun _ => one true) l.length ?_ ?_ 0 (Nat.zero_le _)
  · refine h1.congr fun k => ?_
    rw [hF, dpos rfl]; rfl
  · refine Ev.step (g' := fun _ => some (one true)) (Ev.cst rfl) fun k => ?_
    show L (k + 1) l l _ = _
    rw [hL, head_end]; rfl
  · intro i hi ih
    refine Ev.step (hq _ (List.getElem_mem hi) (fun k => L k l l ((i + 1 : Nat) : Int)) _ ih) fun k => ?_
    show L (k + 1) l l _ = _
    rw [hL]
    simp only [head_in hi, head_0, Bool.and_self, cond_true, get_in hi, wrap_nat (show i < 9223372036854775807 by omega)]
end Go.Proofs.YtebgkcjpocfmmaaGreat.V
namespace Go.Proofs.YtebgkcjpocfmmaaGreat.V
open Go
set_option linter.unusedVariables false
set_option linter.unusedSimpArgs false
/-! ### how much there is -/
theorem sz_then {n s : Int} {g : Nat → Option IR} (h : Ev g (one s)) : Ev (fun k => Option.bind (g k) fun r1 => bif decide (r1.1.1.1 < 0) then some (((-1, ()), ()), ()) else some (((r1.1.1.1, ()), ()), ())) (one (if s < 0 then -1 else s)) := by
  refine Ev.bind h ?_
  by_cases hs : s < 0
  · rw [if_pos hs]; exact Ev.pos (dpos hs) (Ev.cst rfl)
  · rw [if_neg hs]; exact Ev.neg (dneg hs) (Ev.cst rfl)
theorem szInts : SzOK (.list (.int .i64)) laws_szInt64S.f := by
  intro l hw n h0 h1
  have hlen : List.length (α := Int) l ≤ 9223372036854775807 := hw.1
  have hwr : IntKind.wrap .i64 (n - (List.length (α := Int) l : Int)) = n - (List.length (α := Int) l : Int) := wrap_id (by omega) (by omega)
  have he : ∀ k, laws_szInt64S.f k l n = bif decide (n - (List.length (α := Int) l : Int) < 0) then some (one (-1)) else some (one (n - (List.length (α := Int) l : Int))) := fun k => by
    show (bif decide (IntKind.wrap .i64 (n - (List.length (α := Int) l : Int)) < 0) then _ else _) = _
    rw [hwr]
  by_cases hs : n - (List.length (α := Int) l : Int) < 0
  · exact ⟨-1, Ev.all fun k => by rw [he, dpos hs]; rfl, by omega, by omega, fun h => by omega⟩
  · exact ⟨_, Ev.all fun k => by rw [he, dneg hs]; rfl, by omega, by omega, fun h => ⟨by show List.length (α := Int) l ≤ _; omega, fun _ _ => trivial⟩⟩
theorem szPhi : SzOK tPhi laws_szPhi.f := by
  intro x hw n h0 h1
  obtain ⟨s, e, a, b, c⟩ := szInts _ hw.2.1 n h0 h1
  exact ⟨_, sz_then (n := n) e, by split <;> omega, by split <;> omega, fun h => ⟨trivial, c (by split at h <;> omega), trivial⟩⟩
theorem szPhiS : SzOK (.list tPhi) laws_szPhiS.f := sz_list (z := tPhiZ) szPhi (L := laws_szPhiS.l0) (fun k l a b => rfl) fun k l a => rfl
theorem szInst : SzOK tInst laws_szInst.f := by
  intro x hw n h0 h1
  obtain ⟨s, e, a, b, c⟩ := szInts _ hw.2.2.2.2.2.2.1 n h0 h1
  exact ⟨_, sz_then (n := n) e, by split <;> omega, by split <;> omega, fun h => ⟨trivial, trivial, trivial, trivial, trivial, trivial, c (by split at h <;> omega), trivial⟩⟩
theorem szInstS : SzOK (.list tInst) laws_szInstS.f := sz_list (z := tInstZ) szInst (L := laws_szInstS.l0) (fun k l a b => rfl) fun k l a => rfl
theorem sz_two {n s : Int} {g : Nat → Option IR} {f : Nat → Int → Option IR} {r : Int} (h : Ev g (one s)) (h' : 0 ≤ s → Ev (fun k => f k s) (one r)) (hr : s < 0 → r = -1) : Ev (fun k => Option.bind (g k) fun r1 => bif decide (r1.1.1.1 < 0) then some (((-1, ()), ()), ()) else f k r1.1.1.1) (one r) := by
  refine Ev.bind h ?_
  by_cases hs : s < 0
  · rw [hr hs]; exact Ev.pos (dpos hs) (Ev.cst rfl)
  · exact Ev.neg (dneg hs) (h' (by omega))
theorem szBlock : SzOK tBlock laws_szBlock.f := by
  intro x hw n h0 h1
  obtain ⟨s, e, a, b, c⟩ := szPhiS _ hw.1 n h0 h1
  by_cases hs : s < 0
  · exact ⟨-1, sz_two (n := n) (f := fun k s => Option.bind (laws_szInstS.f k x.2.1 s) fun r1 => bif decide (r1.1.1.1 < 0) then some (((-1, ()), ()), ()) else some (((r1.1.1.1, ()), ()), ())) e (fun h => by omega) (fun _ => rfl), by omega, by omega, fun h => by omega⟩
  · obtain ⟨s', e', a', b', c'⟩ := szInstS _ hw.2.1 s (by omega) (by omega)
    exact ⟨_, sz_two (n := n) (f := fun k s => Option.bind (laws_szInstS.f k x.2.1 s) fun r1 => bif decide (r1.1.1.1 < 0) then some (((-1, ()), ()), ()) else some (((r1.1.1.1, ()), ()), ())) e (fun _ => sz_then (n := n) e') (fun h => by omega), by split <;> omega, by split <;> omega, fun h => ⟨c (by omega), c' (by split at h <;> omega), trivial, trivial, trivial, trivial, trivial⟩⟩
theorem szBlockS : SzOK (.list tBlock) laws_szBlockS.f := sz_list (z := tBlockZ) szBlock (L := laws_szBlockS.l0) (fun k l a b => rfl) fun k l a => rfl
theorem szFunc : SzOK tFunc laws_szFunc.f := by
  intro x hw n h0 h1
  obtain ⟨s, e, a, b, c⟩ := szInts _ hw.1 n h0 h1
  by_cases hs : s < 0
  · exact ⟨-1, sz_two (n := n) (f := fun k s => Option.bind (laws_szBlockS.f k x.2.2.1 s) fun r1 => bif decide (r1.1.1.1 < 0) then some (((-1, ()), ()), ()) else some (((r1.1.1.1, ()), ()), ())) e (fun h => by omega) (fun _ => rfl), by omega, by omega, fun h => by omega⟩
  · obtain ⟨s', e', a', b', c'⟩ := szBlockS _ hw.2.2.1 s (by omega) (by omega)
    exact ⟨_, sz_two (n := n) (f := fun k s => Option.bind (laws_szBlockS.f k x.2.2.1 s) fun r1 => bif decide (r1.1.1.1 < 0) then some (((-1, ()), ()), ()) else some (((r1.1.1.1, ()), ()), ())) e (fun _ => sz_then (n := n) e') (fun h => by omega), by split <;> omega, by split <;> omega, fun h => ⟨c (by omega), trivial, c' (by split at h <;> omega), trivial⟩⟩
theorem szFuncS : SzOK (.list tFunc) laws_szFuncS.f := sz_list (z := tFuncZ) szFunc (L := laws_szFuncS.l0) (fun k l a b => rfl) fun k l a => rfl
theorem szModule : SzOK tModule laws_szModule.f := by
  intro x hw n h0 h1
  obtain ⟨s, e, a, b, c⟩ := szFuncS _ hw.1 n h0 h1
  exact ⟨_, sz_then (n := n) e, by split <;> omega, by split <;> omega, fun h => ⟨c (by split at h <;> omega), trivial⟩⟩
/-! ### a copy -/
theorem toInts {l : List Int} (h : Small (.list (.int .i64)) l) : Ev (fun k => laws_toInt64S.f k l) (rowR l) :=
  to_list (z := 0) (L := laws_toInt64S.l0) (q := fun k x h => h x) (b := 8) (R := Unit) (fun k l a b => rfl) (fun k l => rfl) h.1 (by omega) (by omega) fun x _ h r hh => hh
theorem toPhi {x : tPhiD} (h : Small tPhi x) : Ev (fun k => laws_toPhi.f k x) (((x.1, (), ()), ()), (x.2.1, ())) := Ev.bind (toInts h.2.1) (Ev.cst rfl)
theorem toPhiS {l : List tPhiD} (h : Small (.list tPhi) l) : Ev (fun k => laws_toPhiS.f k l) (rowR l) :=
  to_list (z := tPhiZ) (L := laws_toPhiS.l0) (q := fun k x h => Option.bind (laws_toPhi.f k x) fun r1 => h (r1.1.1.1, r1.2.1, ())) (b := 32) (R := Unit) (fun k l a b => rfl) (fun k l => rfl) h.1 (by omega) (by omega) fun x hx g r hh => Ev.bind (toPhi (h.2 x hx)) hh
theorem toInst {x : tInstD} (h : Small tInst x) : Ev (fun k => laws_toInst.f k x) (((x.1, x.2.1, x.2.2.1, x.2.2.2.1, x.2.2.2.2.1, x.2.2.2.2.2.1, (), ()), ()), (x.2.2.2.2.2.2.1, ())) := Ev.bind (toInts h.2.2.2.2.2.2.1) (Ev.cst rfl)
theorem toInstS {l : List tInstD} (h : Small (.list tInst) l) : Ev (fun k => laws_toInstS.f k l) (rowR l) :=
  to_list (z := tInstZ) (L := laws_toInstS.l0) (q := fun k x h => Option.bind (laws_toInst.f k x) fun r1 => h (r1.1.1.1, r1.1.1.2.1, r1.1.1.2.2.1, r1.1.1.2.2.2.1, r1.1.1.2.2.2.2.1, r1.1.1.2.2.2.2.2.1, r1.2.1, ())) (b := 72) (R := Unit) (fun k l a b => rfl) (fun k l => rfl) h.1 (by omega) (by omega) fun x hx g r hh => Ev.bind (toInst (h.2 x hx)) hh
theorem toBlock {x : tBlockD} (h : Small tBlock x) : Ev (fun k => laws_toBlock.f k x) ((((), (), x.2.2.1, x.2.2.2.1, x.2.2.2.2.1, x.2.2.2.2.2.1, ()), ()), (x.1, x.2.1, ())) := Ev.bind (toPhiS h.1) (Ev.bind (toInstS h.2.1) (Ev.cst rfl))
theorem toBlockS {l : List tBlockD} (h : Small (.list tBlock) l) : Ev (fun k => laws_toBlockS.f k l) (rowR l) :=
  to_list (z := tBlockZ) (L := laws_toBlockS.l0) (q := fun k x h => Option.bind (laws_toBlock.f k x) fun r1 => h (r1.2.1, r1.2.2.1, r1.1.1.2.2.1, r1.1.1.2.2.2.1, r1.1.1.2.2.2.2.1, r1.1.1.2.2.2.2.2.1, ())) (b := 80) (R := Unit) (fun k l a b => rfl) (fun k l => rfl) h.1 (by omega) (by omega) fun x hx g r hh => Ev.bind (toBlock (h.2 x hx)) hh
theorem toFunc {x : tFuncD} (h : Small tFunc x) : Ev (fun k => laws_toFunc.f k x) ((((), x.2.1, (), ()), ()), (x.1, x.2.2.1, ())) := Ev.bind (toInts h.1) (Ev.bind (toBlockS h.2.2.1) (Ev.cst rfl))
theorem toFuncS {l : List tFuncD} (h : Small (.list tFunc) l) : Ev (fun k => laws_toFuncS.f k l) (rowR l) :=
  to_list (z := tFuncZ) (L := laws_toFuncS.l0) (q := fun k x h => Option.bind (laws_toFunc.f k x) fun r1 => h (r1.2.1, r1.1.1.2.1, r1.2.2.1, ())) (b := 56) (R := Unit) (fun k l a b => rfl) (fun k l => rfl) h.1 (by omega) (by omega) fun x hx g r hh => Ev.bind (toFunc (h.2 x hx)) hh
theorem toModule {x : tModuleD} (h : Small tModule x) : Ev (fun k => laws_toModule.f k x) ((((), ()), ()), (x.1, ())) := Ev.bind (toFuncS h.1) (Ev.cst rfl)
/-! ### a thing compared with itself -/
theorem eqInts {l : List Int} (h : Small (.list (.int .i64)) l) : Ev (fun k => laws_eqInt64S.f k l l) (one true) :=
  eq_list (z := 0) (L := laws_eqInt64S.l0) (q := fun k x y g => bif !decide (x = y) then some (((false, ()), ()), ()) else g) (fun k l m a => rfl) (fun k l m => rfl) h.1 fun x _ g r hh => Ev.neg (by rw [dpos rfl]; rfl) hh
theorem Ev.skip {R : Type} {n : Int} {o : Option R} {g : Nat → Option R} {r : R} (h : Ev g r) : Ev (fun k => bif !decide (n = n) then o else g k) r := Ev.neg (by rw [dpos rfl]; rfl) h
theorem Ev.yes {g : Nat → Option BR} {f : Nat → Option BR} {o : Option BR} {r : BR} (h : Ev g (one true)) (hf : Ev f r) : Ev (fun k => Option.bind (g k) fun r1 => bif !r1.1.1.1 then o else f k) r := Ev.bind h (Ev.neg rfl hf)
theorem eqPhi {x : tPhiD} (h : Small tPhi x) : Ev (fun k => laws_eqPhi.f k x x) (one true) := Ev.skip (Ev.yes (eqInts h.2.1) (Ev.cst rfl))
theorem eqPhiS {l : List tPhiD} (h : Small (.list tPhi) l) : Ev (fun k => laws_eqPhiS.f k l l) (one true) :=
  eq_list (z := tPhiZ) (L := laws_eqPhiS.l0) (q := fun k x y g => Option.bind (laws_eqPhi.f k x y) fun r1 => bif !r1.1.1.1 then some (((false, ()), ()), ()) else g) (fun k l m a => rfl) (fun k l m => rfl) h.1 fun x hx g r hh => Ev.yes (eqPhi (h.2 x hx)) hh
theorem eqInst {x : tInstD} (h : Small tInst x) : Ev (fun k => laws_eqInst.f k x x) (one true) := Ev.skip (Ev.skip (Ev.skip (Ev.skip (Ev.skip (Ev.skip (Ev.yes (eqInts h.2.2.2.2.2.2.1) (Ev.cst rfl)))))))
theorem eqInstS {l : List tInstD} (h : Small (.list tInst) l) : Ev (fun k => laws_eqInstS.f k l l) (one true) :=
  eq_list (z := tInstZ) (L := laws_eqInstS.l0) (q := fun k x y g => Option.bind (laws_eqInst.f k x y) fun r1 => bif !r1.1.1.1 then some (((false, ()), ()), ()) else g) (fun k l m a => rfl) (fun k l m => rfl) h.1 fun x hx g r hh => Ev.yes (eqInst (h.2 x hx)) hh
theorem eqTerm {x : tTermD} : Ev (fun k => laws_eqTerm.f k x x) (one true) := Ev.skip (Ev.skip (Ev.skip (Ev.skip (Ev.cst rfl))))
theorem eqBlock {x : tBlockD} (h : Small tBlock x) : Ev (fun k => laws_eqBlock.f k x x) (one true) := Ev.yes (eqPhiS h.1) (Ev.yes (eqInstS h.2.1) (Ev.yes eqTerm (Ev.cst rfl)))
theorem eqBlockS {l : List tBlockD} (h : Small (.list tBlock) l) : Ev (fun k => laws_eqBlockS.f k l l) (one true) :=
  eq_list (z := tBlockZ) (L := laws_eqBlockS.l0) (q := fun k x y g => Option.bind (laws_eqBlock.f k x y) fun r1 => bif !r1.1.1.1 then some (((false, ()), ()), ()) else g) (fun k l m a => rfl) (fun k l m => rfl) h.1 fun x hx g r hh => Ev.yes (eqBlock (h.2 x hx)) hh
theorem eqFunc {x : tFuncD} (h : Small tFunc x) : Ev (fun k => laws_eqFunc.f k x x) (one true) := Ev.yes (eqInts h.1) (Ev.skip (Ev.yes (eqBlockS h.2.2.1) (Ev.cst rfl)))
theorem eqFuncS {l : List tFuncD} (h : Small (.list tFunc) l) : Ev (fun k => laws_eqFuncS.f k l l) (one true) :=
  eq_list (z := tFuncZ) (L := laws_eqFuncS.l0) (q := fun k x y g => Option.bind (laws_eqFunc.f k x y) fun r1 => bif !r1.1.1.1 then some (((false, ()), ()), ()) else g) (fun k l m a => rfl) (fun k l m => rfl) h.1 fun x hx g r hh => Ev.yes (eqFunc (h.2 x hx)) hh
theorem eqModule {x : tModuleD} (h : Small tModule x) : Ev (fun k => laws_eqModule.f k x x) (one true) := Ev.yes (eqFuncS h.1) (Ev.cst rfl)
/-! ### a law over a module -/
theorem law_frame {a : tModuleD} (hw : Wf tModule a) {g : Nat → Option BR} (h : Small tModule a → Ev g (one true)) : Ev (fun k => Option.bind (laws_szModule.f k (a.1, ()) 1048576) fun r1 => bif decide (r1.1.1.1 < 0) then some (((true, ()), ()), ()) else g k) (one true) := by
  obtain ⟨s, e, _, _, c⟩ := szModule a hw 1048576 (by omega) (by omega)
  refine Ev.bind (f := fun k r1 => bif decide (r1.1.1.1 < 0) then some (((true, ()), ()), ()) else g k) e ?_
  by_cases hs : s < 0
  · exact Ev.pos (dpos hs) (Ev.cst rfl)
  · exact Ev.neg (dneg hs) (h (c (by omega)))
/-- What comes behind the two answers: the module that went in is as it was. -/
theorem law_end {a : tModuleD} (h : Small tModule a) : Ev (fun k => Option.bind (laws_toModule.f k (a.1, ())) fun r6 => Option.bind (laws_eqModule.f k (a.1, ()) (r6.2.1, ())) fun r7 => bif !r7.1.1.1 then some (((false, ()), ()), ()) else some (((true, ()), ()), ())) (one true) :=
  Ev.bind (f := fun k r6 => Option.bind (laws_eqModule.f k (a.1, ()) (r6.2.1, ())) fun r7 => bif !r7.1.1.1 then some (((false, ()), ()), ()) else some (((true, ()), ()), ())) (toModule h) (Ev.yes (eqModule h) (Ev.cst rfl))
end Go.Proofs.YtebgkcjpocfmmaaGreat.V
namespace Go.Proofs.YtebgkcjpocfmmaaGreat.V
open Go
set_option linter.unusedVariables false
set_option linter.unusedSimpArgs false
def inB (lo hi x : Int) : Bool := decide (lo ≤ x) && decide (x ≤ hi)
def wOk (w : Int) : Bool := decide (w = 1) || decide (w = 8) || decide (w = 16) || decide (w = 32)
def opsB (i : tInstD) : List Int :=
  bif inB 1 17 i.1 then [i.2.2.1, i.2.2.2.1] else bif decide (i.1 = 24) then [i.2.2.1, i.2.2.2.1] else bif inB 18 20 i.1 then [i.2.2.1] else bif decide (i.1 = 23) then [i.2.2.1] else bif decide (i.1 = 25) then [i.2.2.1] else bif decide (i.1 = 27) then [i.2.2.1] else
  bif decide (i.1 = 22) then [i.2.2.1, i.2.2.2.1, i.2.2.2.2.1] else bif decide (i.1 = 26) then i.2.2.2.2.2.2.1 else []
theorem specIn (k : Nat) (a lo hi : Int) : spec_l1In.f k a lo hi = some (one (inB lo hi a)) := by
  unfold spec_l1In.f inB
  cases decide (lo ≤ a) <;> rfl
theorem implIn (k : Nat) (a lo hi : Int) : impl_within.f k a lo hi = some (one (inB lo hi a)) := by
  unfold impl_within.f inB
  cases decide (lo ≤ a) <;> rfl
theorem specW (k : Nat) (a : Int) : spec_WidthOk.f k a = some (one (wOk a)) := by
  unfold spec_WidthOk.f wOk
  cases decide (a = 1) <;> cases decide (a = 8) <;> cases decide (a = 16) <;> rfl
theorem implW (k : Nat) (a : Int) : impl_WidthOk.f k a = some (one (wOk a)) := by
  unfold impl_WidthOk.f wOk
  cases decide (a = 1) <;> cases decide (a = 8) <;> cases decide (a = 16) <;> rfl
theorem specCopy (k : Nat) {l : List Int} (h : l.length ≤ 1048576) : spec_l1Copy.f k l = some (rowR l) := by
  unfold spec_l1Copy.f
  rw [dpos (by simp; omega)]; rfl
theorem implClone (k : Nat) {l : List Int} (h : l.length ≤ 1048576) : slices_Clone_int64_int64.f k l = some (rowR l) := by
  unfold slices_Clone_int64_int64.f cloneF
  rw [dpos (by omega)]; rfl
theorem specOps (k : Nat) {i : tInstD} (h : i.2.2.2.2.2.2.1.length ≤ 1048576) : spec_l2Operands.f k i = some (rowR (opsB i)) := by
  unfold spec_l2Operands.f opsB
  simp only [specIn, specCopy k h, Option.bind_some]
  cases inB 1 17 i.1
  · cases decide (i.1 = 24)
    · cases inB 18 20 i.1
      · cases decide (i.1 = 23)
        · cases decide (i.1 = 25)
          · cases decide (i.1 = 27)
            · cases decide (i.1 = 22)
              · cases decide (i.1 = 26) <;> rfl
              · rfl
            · rfl
          · rfl
        · rfl
      · rfl
    · rfl
  · rfl
theorem implBin (k : Nat) (a : Int) : impl_isBinary.f k a = some (one (inB 1 17 a)) := by
  unfold impl_isBinary.f
  rw [implIn]; rfl
theorem implCast (k : Nat) (a : Int) : impl_isCast.f k a = some (one (inB 18 20 a)) := by
  unfold impl_isCast.f
  rw [implIn]; rfl
theorem implOps (k : Nat) {i : tInstD} (h : i.2.2.2.2.2.2.1.length ≤ 1048576) : impl_OperandsOf.f k i = some (rowR (opsB i)) := by
  unfold impl_OperandsOf.f opsB
  simp only [implBin, implCast, implClone k h, Option.bind_some]
  cases inB 1 17 i.1
  · cases decide (i.1 = 24)
    · cases inB 18 20 i.1
      · cases decide (i.1 = 23)
        · cases decide (i.1 = 25)
          · cases decide (i.1 = 27)
            · cases decide (i.1 = 22)
              · cases decide (i.1 = 26) <;> rfl
              · rfl
            · rfl
          · rfl
        · rfl
      · rfl
    · rfl
  · rfl
/-! ### instructions -/
def topOf (w : Int) : Int := bif decide (w = 1) then 1 else bif decide (w = 8) then 255 else bif decide (w = 16) then 65535 else 4294967295
def valB (w x : Int) : Bool := wOk w && inB 0 (topOf w) x
theorem wOk_cases {w : Int} (h : wOk w = true) : w = 1 ∨ w = 8 ∨ w = 16 ∨ w = 32 := by
  simp only [wOk, Bool.or_eq_true, decide_eq_true_eq] at h
  omega
theorem specVal (k : Nat) (w x : Int) : spec_l1Value.f k w x = some (one (valB w x)) := by
  unfold spec_l1Value.f valB
  simp only [specW, Option.bind_some]
  cases h : wOk w with
  | false => rfl
  | true => rcases wOk_cases h with rfl | rfl | rfl | rfl <;> (unfold spec_l1Top.f; simp only [specIn]; rfl)
theorem implVal (k : Nat) (w x : Int) : impl_isValue.f k w x = some (one (valB w x)) := by
  unfold impl_isValue.f valB
  simp only [implW, Option.bind_some]
  cases h : wOk w with
  | false => rfl
  | true => rcases wOk_cases h with rfl | rfl | rfl | rfl <;> (unfold impl_mask.f; simp only [implIn]; rfl)
def widB (i : tInstD) : Bool := bif decide (i.1 = 24) || decide (i.1 = 25) then decide (i.2.1 = 0) else bif decide (i.1 = 23) then decide (i.2.1 = 8) else wOk i.2.1
def immB (i : tInstD) (funcs : Int) : Bool := bif decide (i.1 = 21) then valB i.2.1 i.2.2.2.2.2.1 else bif decide (i.1 = 26) then inB 0 (funcs - 1) i.2.2.2.2.2.1 else decide (i.2.2.2.2.2.1 = 0)
def named (i : tInstD) : Nat := bif decide (i.1 = 26) then 0 else (opsB i).length
def zerosB (i : tInstD) : Bool := ([i.2.2.1, i.2.2.2.1, i.2.2.2.2.1].drop (named i)).all fun n => decide (n = 0)
def instB (count funcs : Int) (i : tInstD) : Bool :=
  inB 1 27 i.1 && decide (i.2.2.2.2.2.2.1.length ≤ 4) && (decide (i.2.2.2.2.2.2.1.length = 0) || decide (i.1 = 26)) && (opsB i).all (inB 0 (count - 1)) && zerosB i && widB i && immB i funcs
theorem implWid (k : Nat) (i : tInstD) : impl_isWidth.f k i = some (one (widB i)) := by
  unfold impl_isWidth.f widB
  simp only [implW, Option.bind_some]
  by_cases h : i.1 = 24
  · simp [h]
  · by_cases h2 : i.1 = 25
    · simp [h2]
    · simp only [dneg h, dneg h2, cond_false, Bool.or_self]
      cases decide (i.1 = 23) <;> rfl
theorem implImm (k : Nat) (i : tInstD) {funcs : Int} (h0 : 0 ≤ funcs) (h1 : funcs ≤ 9223372036854775807) : impl_isImm.f k i funcs = some (one (immB i funcs)) := by
  unfold impl_isImm.f immB
  simp only [implVal, implIn, Option.bind_some, wrap_id (show -9223372036854775808 ≤ funcs - 1 by omega) (show funcs - 1 ≤ 9223372036854775807 by omega)]
  cases decide (i.1 = 21) <;> cases decide (i.1 = 26) <;> rfl
/-! ### ends -/
def termB (count blocks : Int) (t : tTermD) : Bool :=
  bif decide (t.1 = 1) then inB 0 (count - 1) t.2.1 && decide (t.2.2.1 = 0) && decide (t.2.2.2.1 = 0) else
  bif decide (t.1 = 2) then decide (t.2.1 = 0) && inB 0 (blocks - 1) t.2.2.1 && decide (t.2.2.2.1 = 0) else
  bif decide (t.1 = 3) then inB 0 (count - 1) t.2.1 && inB 0 (blocks - 1) t.2.2.1 && inB 0 (blocks - 1) t.2.2.2.1 && !decide (t.2.2.1 = t.2.2.2.1) else
  decide (t.1 = 4) && decide (t.2.1 = 0) && decide (t.2.2.1 = 0) && decide (t.2.2.2.1 = 0)
theorem specTerm (k : Nat) (t : tTermD) {count blocks : Int} (h0 : 0 ≤ count) (h1 : count ≤ 9223372036854775807) (h2 : 0 ≤ blocks) (h3 : blocks ≤ 9223372036854775807) : spec_l2Term.f k t count blocks = some (one (termB count blocks t)) := by
  unfold spec_l2Term.f termB
  simp only [specIn, Option.bind_some, wrap_id (show -9223372036854775808 ≤ count - 1 by omega) (show count - 1 ≤ 9223372036854775807 by omega), wrap_id (show -9223372036854775808 ≤ blocks - 1 by omega) (show blocks - 1 ≤ 9223372036854775807 by omega)]
  cases decide (t.1 = 1)
  · cases decide (t.1 = 2)
    · cases decide (t.1 = 3)
      · cases decide (t.1 = 4) <;> cases decide (t.2.1 = 0) <;> cases decide (t.2.2.1 = 0) <;> rfl
      · cases inB 0 (count - 1) t.2.1 <;> cases inB 0 (blocks - 1) t.2.2.1 <;> cases inB 0 (blocks - 1) t.2.2.2.1 <;> rfl
    · cases decide (t.2.1 = 0) <;> cases inB 0 (blocks - 1) t.2.2.1 <;> rfl
  · cases inB 0 (count - 1) t.2.1 <;> cases decide (t.2.2.1 = 0) <;> rfl
theorem implTerm1 (k : Nat) (a : Int) {f : tFuncD} (h : f.2.2.1.length ≤ 1048576) : impl_isTerm_1.f k a f = some (one (inB 0 ((f.2.2.1.length : Int) - 1) a)) := by
  unfold impl_isTerm_1.f
  rw [implIn, wrap_id (by omega) (by omega)]; rfl
theorem implTerm (k : Nat) (t : tTermD) {f : tFuncD} (h : f.2.2.1.length ≤ 1048576) {count : Int} (h0 : 0 ≤ count) (h1 : count ≤ 9223372036854775807) : impl_isTerm.f k f t count = some (one (termB count (f.2.2.1.length : Int) t)) := by
  unfold impl_isTerm.f termB
  simp only [implIn, implTerm1 k _ h, Option.bind_some, wrap_id (show -9223372036854775808 ≤ count - 1 by omega) (show count - 1 ≤ 9223372036854775807 by omega)]
  generalize (f.2.2.1.length : Int) = blocks
  cases decide (t.1 = 1)
  · cases decide (t.1 = 2)
    · cases decide (t.1 = 3)
      · cases decide (t.1 = 4) <;> cases decide (t.2.1 = 0) <;> cases decide (t.2.2.1 = 0) <;> rfl
      · cases inB 0 (count - 1) t.2.1 <;> cases inB 0 (blocks - 1) t.2.2.1 <;> cases inB 0 (blocks - 1) t.2.2.2.1 <;> rfl
    · cases decide (t.2.1 = 0) <;> cases inB 0 (blocks - 1) t.2.2.1 <;> rfl
  · cases inB 0 (count - 1) t.2.1 <;> cases decide (t.2.2.1 = 0) <;> rfl
end Go.Proofs.YtebgkcjpocfmmaaGreat.V
namespace Go.Proofs.YtebgkcjpocfmmaaGreat.V
open Go
set_option linter.unusedVariables false
set_option linter.unusedSimpArgs false
theorem any_not {α : Type} {p : α → Bool} : ∀ {l : List α}, (l.any fun x => !p x) = !l.all p
  | [] => rfl
  | x :: l => by simp only [List.any_cons, List.all_cons, any_not (l := l), Bool.not_and]
theorem implIn1 {l : List Int} (h : l.length ≤ 1048576) {count : Int} (h0 : 0 ≤ count) (h1 : count ≤ 9223372036854775807) : Ev (fun k => slices_ContainsFunc_int64_int64_3.f k l count) (one (!l.all (inB 0 (count - 1)))) := by
  rw [← any_not]
  exact index_ev (z := 0) (L := fun k b a => slices_IndexFunc_int64_int64_3.l0 k l b a count) (q := fun k x => impl_isInst_1.f k x count) (by omega) (fun k b a => rfl) fun x _ => Ev.all fun k => by
    unfold impl_isInst_1.f
    rw [implIn, wrap_id (by omega) (by omega)]; rfl
theorem implZero {l : List Int} (h : l.length ≤ 1048576) : Ev (fun k => slices_ContainsFunc_int64_int64_4.f k l) (one (!l.all fun n => decide (n = 0))) := by
  rw [← any_not]
  exact index_ev (z := 0) (L := fun k b a => slices_IndexFunc_int64_int64_4.l0 k l b a) (q := fun k x => impl_isInst_2.f k x) (by omega) (fun k b a => rfl) fun x _ => Ev.all fun k => rfl
theorem opsB_len {i : tInstD} (h : i.2.2.2.2.2.2.1.length ≤ 1048576) : (opsB i).length ≤ 1048576 := by
  unfold opsB
  cases inB 1 17 i.1 <;> cases decide (i.1 = 24) <;> cases inB 18 20 i.1 <;> cases decide (i.1 = 23) <;> cases decide (i.1 = 25) <;> cases decide (i.1 = 27) <;> cases decide (i.1 = 22) <;> cases decide (i.1 = 26) <;> simp only [cond_true, cond_false, List.length_cons, List.length_nil] <;> omega
theorem opsB_few {i : tInstD} (h : i.1 ≠ 26) : (opsB i).length ≤ 3 := by
  unfold opsB
  rw [dneg h]
  cases inB 1 17 i.1 <;> cases decide (i.1 = 24) <;> cases inB 18 20 i.1 <;> cases decide (i.1 = 23) <;> cases decide (i.1 = 25) <;> cases decide (i.1 = 27) <;> cases decide (i.1 = 22) <;> simp
theorem ev_and {g : Nat → Option BR} {b c : Bool} (h : Ev g (one c)) : Ev (fun k => bif !b then some (one false) else g k) (one (b && c)) := by
  cases b with
  | true => exact Ev.neg rfl h
  | false => exact Ev.pos rfl (Ev.cst rfl)
theorem ev_and' {g : Nat → Option BR} {b c : Bool} (h : Ev g (one c)) : Ev (fun k => bif b then some (one false) else g k) (one (!b && c)) := by
  cases b with
  | true => exact Ev.pos rfl (Ev.cst rfl)
  | false => exact Ev.neg rfl h
/-- What comes behind the operands, in the program. -/
theorem implTail {i : tInstD} {l : List Int} (hl : l.length ≤ 1048576) {funcs : Int} (h0 : 0 ≤ funcs) (h1 : funcs ≤ 9223372036854775807) : Ev (fun k => Option.bind (slices_ContainsFunc_int64_int64_4.f k l) fun r4 => bif r4.1.1.1 then some (((false, ()), ()), ()) else Option.bind (impl_isWidth.f k i) fun r5 => bif r5.1.1.1 then Option.bind (impl_isImm.f k i funcs) fun r6 => some (((r6.1.1.1, ()), ()), ()) else some (((false, ()), ()), ())) (one ((l.all fun n => decide (n = 0)) && widB i && immB i funcs)) := by
  refine Ev.bind (implZero hl) ?_
  cases l.all fun n => decide (n = 0) with
  | false => exact Ev.cst rfl
  | true =>
    refine Ev.all fun k => ?_
    simp only [implWid, implImm k i h0 h1, Option.bind_some]
    cases widB i <;> cases immB i funcs <;> rfl
theorem implInst {i : tInstD} (hs : i.2.2.2.2.2.2.1.length ≤ 1048576) {count funcs : Int} (h0 : 0 ≤ count) (h1 : count ≤ 9223372036854775807) (h2 : 0 ≤ funcs) (h3 : funcs ≤ 9223372036854775807) : Ev (fun k => impl_isInst.f k i count funcs) (one (instB count funcs i)) := by
  have rest : i.1 = 26 ∨ i.1 ≠ 26 → Ev (fun k => Option.bind (impl_OperandsOf.f k i) fun r2 => Option.bind (slices_ContainsFunc_int64_int64_3.f k r2.2.1 count) fun r3 => bif r3.1.1.1 then some (((false, ()), ()), ()) else
      bif decide (i.1 = 26) then (bif (decide ((0 : Int) ≤ 0)) && (decide ((0 : Int) ≤ ((List.length [i.2.2.1, i.2.2.2.1, i.2.2.2.2.1] : Nat) : Int))) then (Option.bind (slices_ContainsFunc_int64_int64_4.f k [i.2.2.1, i.2.2.2.1, i.2.2.2.2.1]) fun r4 => bif r4.1.1.1 then some (((false, ()), ()), ()) else Option.bind (impl_isWidth.f k i) fun r5 => bif r5.1.1.1 then Option.bind (impl_isImm.f k i funcs) fun r6 => some (((r6.1.1.1, ()), ()), ()) else some (((false, ()), ()), ())) else none)
      else (bif (decide (0 ≤ ((List.length r2.2.1 : Nat) : Int))) && (decide (((List.length r2.2.1 : Nat) : Int) ≤ ((List.length [i.2.2.1, i.2.2.2.1, i.2.2.2.2.1] : Nat) : Int))) then (Option.bind (slices_ContainsFunc_int64_int64_4.f k (List.drop (Int.toNat ((List.length r2.2.1 : Nat) : Int)) [i.2.2.1, i.2.2.2.1, i.2.2.2.2.1])) fun r4 => bif r4.1.1.1 then some (((false, ()), ()), ()) else Option.bind (impl_isWidth.f k i) fun r5 => bif r5.1.1.1 then Option.bind (impl_isImm.f k i funcs) fun r6 => some (((r6.1.1.1, ()), ()), ()) else some (((false, ()), ()), ())) else none))
      (one ((opsB i).all (inB 0 (count - 1)) && (zerosB i && widB i && immB i funcs))) := by
    intro hd
    refine Ev.bind (Ev.all fun k => implOps k hs) (Ev.bind (implIn1 (opsB_len hs) h0 h1) ?_)
    cases (opsB i).all (inB 0 (count - 1)) with
    | false => exact Ev.cst rfl
    | true =>
      rcases hd with hd | hd
      · refine Ev.neg rfl (Ev.pos (dpos hd) (Ev.pos rfl ?_))
        have := implTail (i := i) (l := [i.2.2.1, i.2.2.2.1, i.2.2.2.2.1]) (by simp) h2 h3
        refine this.rw ?_
        unfold zerosB named
        rw [dpos hd]; rfl
      · refine Ev.neg rfl (Ev.neg (dneg hd) (Ev.pos ?_ ?_))
        · have := opsB_few hd
          show (decide (0 ≤ ((opsB i).length : Int)) && decide (((opsB i).length : Int) ≤ 3)) = true
          rw [dpos (by omega), dpos (by omega)]; rfl
        · have := implTail (i := i) (l := List.drop (opsB i).length [i.2.2.1, i.2.2.2.1, i.2.2.2.2.1]) (by simp; omega) h2 h3
          refine this.rw ?_
          unfold zerosB named
          rw [dneg hd]; rfl
  have rest := rest (Decidable.em _)
  unfold impl_isInst.f
  refine Ev.bind (Ev.all fun k => implIn k _ _ _) ?_
  unfold instB
  generalize hz : ((opsB i).all (inB 0 (count - 1)) && (zerosB i && widB i && immB i funcs)) = zz at rest
  have hzz : ∀ b c d : Bool, (b && c && d && (opsB i).all (inB 0 (count - 1)) && zerosB i && widB i && immB i funcs) = (b && c && d && zz) := fun b c d => by rw [← hz]; simp only [Bool.and_assoc]
  rw [hzz]
  cases inB 1 27 i.1 with
  | false => exact Ev.pos rfl (Ev.cst rfl)
  | true =>
    refine Ev.neg rfl ?_
    by_cases h4 : 4 < ((i.2.2.2.2.2.2.1.length : Nat) : Int)
    · refine Ev.pos (dpos h4) (Ev.cst ?_)
      rw [dneg (show ¬ i.2.2.2.2.2.2.1.length ≤ 4 by omega)]; rfl
    · refine Ev.neg (dneg h4) ?_
      rw [dpos (show i.2.2.2.2.2.2.1.length ≤ 4 by omega)]
      by_cases h5 : 0 < ((i.2.2.2.2.2.2.1.length : Nat) : Int)
      · refine Ev.pos (dpos h5) ?_
        rw [dneg (show ¬ i.2.2.2.2.2.2.1.length = 0 by omega)]
        by_cases h6 : i.1 = 26
        · exact Ev.neg (by rw [dpos h6]; rfl) (rest.rw (by rw [dpos h6]; rfl))
        · exact Ev.pos (by rw [dneg h6]; rfl) (Ev.cst (by rw [dneg h6]; rfl))
      · refine Ev.neg (dneg h5) (rest.rw ?_)
        rw [dpos (show i.2.2.2.2.2.2.1.length = 0 by omega)]; rfl
/-! ### the specification's -/
theorem zeros_at {a b c : Int} : ∀ n : Nat, ([a, b, c].drop n).all (fun n => decide (n = 0)) = ((bif decide ((n : Int) < 1) then decide (a = 0) else true) && (bif decide ((n : Int) < 2) then decide (b = 0) else true) && (bif decide ((n : Int) < 3) then decide (c = 0) else true))
  | 0 => by simp [Bool.and_assoc]
  | 1 => by simp
  | 2 => by simp
  | n + 3 => by
    rw [dneg (show ¬ (((n + 3 : Nat) : Int) < 1) by omega), dneg (show ¬ (((n + 3 : Nat) : Int) < 2) by omega), dneg (show ¬ (((n + 3 : Nat) : Int) < 3) by omega)]
    simp
set_option synthInstance.maxHeartbeats 400000 in
set_option synthInstance.maxSize 100000 in
theorem specInst0 {i : tInstD} {ids : List Int} (hl : ids.length ≤ 1048576) {count funcs : Int} (h0 : 0 ≤ count) (h1 : count ≤ 9223372036854775807) (h2 : 0 ≤ funcs) (h3 : funcs ≤ 9223372036854775807) (hn : named i = bif decide (i.1 = 26) then 0 else ids.length) :
    Ev (fun k => spec_l2Inst.l0 k count funcs 0 i ids) (one (ids.all (inB 0 (count - 1)) && (decide (i.2.2.2.2.2.2.1.length ≤ 4) && zerosB i && widB i && immB i funcs))) := by
  refine each_ev (z := 0) (L := fun k a => spec_l2Inst.l0 k count funcs a i ids) (V := fun m => one (m.all (inB 0 (count - 1)) && (decide (i.2.2.2.2.2.2.1.length ≤ 4) && zerosB i && widB i && immB i funcs))) (q := fun k x g => Option.bind (spec_l1In.f k x 0 (IntKind.wrap .i64 (count - 1))) fun r1 => bif !r1.1.1.1 then some (((false, ()), ()), ()) else g k) (by omega) (fun k a => rfl) ?_ ?_
  · refine Ev.all fun k => ?_
    have hz : zerosB i = ((bif decide (((named i : Nat) : Int) < 1) then decide (i.2.2.1 = 0) else true) && (bif decide (((named i : Nat) : Int) < 2) then decide (i.2.2.2.1 = 0) else true) && (bif decide (((named i : Nat) : Int) < 3) then decide (i.2.2.2.2.1 = 0) else true)) := zeros_at _
    rw [hz, hn]
    simp only [specVal, specIn, specW, Option.bind_some, wrap_id (show -9223372036854775808 ≤ funcs - 1 by omega) (show funcs - 1 ≤ 9223372036854775807 by omega), List.all_nil, Bool.true_and]
    have h4 : decide (i.2.2.2.2.2.2.1.length ≤ 4) = !decide (4 < ((List.length i.2.2.2.2.2.2.1 : Nat) : Int)) := by
      by_cases h : 4 < ((List.length i.2.2.2.2.2.2.1 : Nat) : Int)
      · rw [dpos h, dneg (by omega)]; rfl
      · rw [dneg h, dpos (by omega)]; rfl
    rw [h4]
    unfold widB immB
    have fin : ∀ (o24 o25 o26 o21 o23 w0 w8 wk : Bool), decide (i.1 = 24) = o24 → decide (i.1 = 25) = o25 → decide (i.1 = 26) = o26 → decide (i.1 = 21) = o21 → decide (i.1 = 23) = o23 → decide (i.2.1 = 0) = w0 → decide (i.2.1 = 8) = w8 → wOk i.2.1 = wk →
        (o24 = true ∧ o25 = false ∧ o26 = false ∧ o21 = false ∧ o23 = false ∨ o24 = false ∧ o25 = true ∧ o26 = false ∧ o21 = false ∧ o23 = false ∨ o24 = false ∧ o25 = false ∧ o26 = true ∧ o21 = false ∧ o23 = false ∨ o24 = false ∧ o25 = false ∧ o26 = false ∧ o21 = true ∧ o23 = false ∨ o24 = false ∧ o25 = false ∧ o26 = false ∧ o21 = false ∧ o23 = true ∨ o24 = false ∧ o25 = false ∧ o26 = false ∧ o21 = false ∧ o23 = false) ∧
        (w0 = true ∧ w8 = false ∧ wk = false ∨ w0 = false ∧ w8 = true ∧ wk = true ∨ w0 = false ∧ w8 = false) := by
      rintro _ _ _ _ _ _ _ _ rfl rfl rfl rfl rfl rfl rfl rfl
      simp only [decide_eq_true_eq, decide_eq_false_iff_not]
      refine ⟨by omega, ?_⟩
      by_cases h : i.2.1 = 0
      · exact .inl ⟨h, by omega, by rw [h]; rfl⟩
      · by_cases h' : i.2.1 = 8
        · exact .inr (.inl ⟨h, h', by rw [h']; rfl⟩)
        · exact .inr (.inr ⟨h, h'⟩)
    have fin := fin _ _ _ _ _ _ _ _ rfl rfl rfl rfl rfl rfl rfl rfl
    clear hz h4 hn
    generalize decide (i.1 = 24) = o24 at fin ⊢
    generalize decide (i.1 = 25) = o25 at fin ⊢
    generalize decide (i.1 = 26) = o26 at fin ⊢
    generalize decide (i.1 = 21) = o21 at fin ⊢
    generalize decide (i.1 = 23) = o23 at fin ⊢
    generalize decide (i.2.1 = 0) = w0 at fin ⊢
    generalize decide (i.2.1 = 8) = w8 at fin ⊢
    generalize wOk i.2.1 = wk at fin ⊢
    have z1 : decide (((0 : Nat) : Int) < 1) = true := rfl
    have z2 : decide (((0 : Nat) : Int) < 2) = true := rfl
    have z3 : decide (((0 : Nat) : Int) < 3) = true := rfl
    have y1 : decide ((0 : Int) < 1) = true := rfl
    have y2 : decide ((0 : Int) < 2) = true := rfl
    have y3 : decide ((0 : Int) < 3) = true := rfl
    obtain ⟨f1, f2⟩ := fin
    rcases f1 with ⟨rfl, rfl, rfl, rfl, rfl⟩ | ⟨rfl, rfl, rfl, rfl, rfl⟩ | ⟨rfl, rfl, rfl, rfl, rfl⟩ | ⟨rfl, rfl, rfl, rfl, rfl⟩ | ⟨rfl, rfl, rfl, rfl, rfl⟩ | ⟨rfl, rfl, rfl, rfl, rfl⟩ <;> rcases f2 with ⟨rfl, rfl, rfl⟩ | ⟨rfl, rfl, rfl⟩ | ⟨rfl, rfl⟩ <;>
      simp only [cond_true, cond_false, z1, z2, z3, y1, y2, y3, beq_self_eq_true, Bool.not_true, Bool.not_false, Bool.or_true, Bool.or_false, Bool.and_false, Bool.false_and, Bool.true_and, Bool.and_true, show (true == false) = false from rfl, show (false == true) = false from rfl, Int.reduceLT, decide_true, decide_false] <;>
      generalize decide (4 < ((List.length i.2.2.2.2.2.2.1 : Nat) : Int)) = l4 <;>
      generalize decide (((ids.length : Nat) : Int) < 1) = n1 <;> generalize decide (((ids.length : Nat) : Int) < 2) = n2 <;> generalize decide (((ids.length : Nat) : Int) < 3) = n3 <;>
      generalize decide (i.2.2.1 = 0) = a <;> generalize decide (i.2.2.2.1 = 0) = b <;> generalize decide (i.2.2.2.2.1 = 0) = c <;> generalize decide (i.2.2.2.2.2.1 = 0) = m <;>
      generalize valB i.2.1 i.2.2.2.2.2.1 = va <;> generalize inB 0 (funcs - 1) i.2.2.2.2.2.1 = vb <;> revert l4 n1 n2 n3 a b c m va vb <;> (try revert wk) <;> decide +kernel
  · intro x m g hx hg
    refine Ev.bind (Ev.all fun k => specIn k _ _ _) ?_
    rw [wrap_id (by omega) (by omega), List.all_cons, Bool.and_assoc]
    exact ev_and hg
end Go.Proofs.YtebgkcjpocfmmaaGreat.V
namespace Go.Proofs.YtebgkcjpocfmmaaGreat.V
open Go
set_option linter.unusedVariables false
set_option linter.unusedSimpArgs false
theorem specInst {i : tInstD} (hs : i.2.2.2.2.2.2.1.length ≤ 1048576) {count funcs : Int} (h0 : 0 ≤ count) (h1 : count ≤ 9223372036854775807) (h2 : 0 ≤ funcs) (h3 : funcs ≤ 9223372036854775807) : Ev (fun k => spec_l2Inst.f k i count funcs) (one (instB count funcs i)) := by
  have hn : named i = bif decide (i.1 = 26) then 0 else (opsB i).length := rfl
  have l0 := specInst0 (opsB_len hs) h0 h1 h2 h3 hn
  unfold spec_l2Inst.f
  refine Ev.bind (Ev.all fun k => specIn k _ _ _) ?_
  unfold instB
  generalize hz : ((opsB i).all (inB 0 (count - 1))) = za at l0 ⊢
  cases inB 1 27 i.1 with
  | false => exact Ev.pos rfl (Ev.cst rfl)
  | true =>
    refine Ev.neg rfl ?_
    have done : ∀ b : Bool, b = true → Ev (fun k => Option.bind (spec_l2Operands.f k i) fun r3 => spec_l2Inst.l0 k count funcs 0 i r3.2.1) (one (true && decide (i.2.2.2.2.2.2.1.length ≤ 4) && b && za && zerosB i && widB i && immB i funcs)) := by
      rintro _ rfl
      refine (Ev.bind (f := fun k r3 => spec_l2Inst.l0 k count funcs 0 i r3.2.1) (Ev.all fun k => specOps k hs) l0).rw ?_
      generalize decide (i.2.2.2.2.2.2.1.length ≤ 4) = z4
      generalize zerosB i = z5
      generalize widB i = z6
      generalize immB i funcs = z7
      clear l0 hz
      revert za z4 z5 z6 z7
      decide
    by_cases h6 : i.1 = 26
    · exact Ev.neg (by rw [dpos h6]; rfl) (done _ (by rw [dpos h6, Bool.or_true]))
    · refine Ev.pos (by rw [dneg h6]; rfl) ?_
      by_cases h5 : 0 < ((i.2.2.2.2.2.2.1.length : Nat) : Int)
      · refine Ev.pos (dpos h5) (Ev.cst ?_)
        rw [dneg (show ¬ i.2.2.2.2.2.2.1.length = 0 by omega), dneg h6]
        simp
      · exact Ev.neg (dneg h5) (done _ (by rw [dpos (show i.2.2.2.2.2.2.1.length = 0 by omega), Bool.true_or]))
/-! ### how many ids -/
def sumB {α : Type} (w : α → Int) : List α → Int
  | [] => 0
  | x :: l => w x + sumB w l
theorem sumB_le {α : Type} {w : α → Int} {m : Int} : ∀ {l : List α}, (∀ x ∈ l, 0 ≤ w x ∧ w x ≤ m) → 0 ≤ sumB w l ∧ sumB w l ≤ l.length * m
  | [], _ => by simp [sumB]
  | x :: l, h => by
    obtain ⟨a, b⟩ := sumB_le (l := l) fun y hy => h y (by simp [hy])
    obtain ⟨c, d⟩ := h x (by simp)
    simp only [sumB, List.length_cons]
    have : ((l.length + 1 : Nat) : Int) * m = l.length * m + m := by
      rw [Int.natCast_add, Int.add_mul]; simp
    omega
theorem acc_ev {α : Type} {l : List α} {w : α → Int} {L : Nat → Int → Int → Option IR} (hw : ∀ x ∈ l, 0 ≤ w x ∧ w x ≤ 2097152) (hlen : l.length ≤ 1048576)
    (h1 : ∀ k a (i : Nat) (h : i < l.length), L (k + 1) a (i : Int) = L k (IntKind.wrap .i64 (a + IntKind.wrap .i64 (w l[i]))) ((i + 1 : Nat) : Int)) (h2 : ∀ k a, L (k + 1) a (l.length : Int) = some (one a)) {a : Int} (ha : 0 ≤ a) (ha' : a ≤ 1048576) : Ev (fun k => L k a 0) (one (a + sumB w l)) := by
  have key : ∀ (d i : Nat) (a : Int), i + d = l.length → 0 ≤ a → a ≤ 1048576 + i * 2097152 → Ev (fun k => L k a (i : Int)) (one (a + sumB w (l.drop i))) := by
    intro d
    induction d with
    | zero =>
      intro i a hi h0 h3
      have hi' : i = l.length := by omega
      subst hi'
      rw [List.drop_length]
      exact Ev.step (g' := fun _ => some (one a)) (Ev.cst (by simp [sumB])) fun k => h2 k a
    | succ d ih =>
      intro i a hi h0 h3
      have hi' : i < l.length := by omega
      obtain ⟨w0, w1⟩ := hw l[i] (List.getElem_mem hi')
      have := ih (i + 1) (a + w l[i]) (by omega) (by omega) (by omega)
      refine (Ev.step this fun k => ?_).rw ?_
      · show L (k + 1) a (i : Int) = _
        rw [h1 k a i hi', wrap_id (x := w l[i]) (by omega) (by omega), wrap_id (by omega) (by omega)]
      · rw [List.drop_eq_getElem_cons hi']
        simp only [sumB]
        rw [Int.add_assoc]
  have := key l.length 0 a (by omega) ha (by omega)
  simpa using this
def cntB (f : tFuncD) : Int := (f.1.length : Int) + sumB (fun x : tBlockD => ((x.1.length : Nat) : Int) + ((x.2.1.length : Nat) : Int)) f.2.2.1
theorem blk_small {f : tFuncD} (h : Small tFunc f) : ∀ x ∈ f.2.2.1, x.1.length ≤ 1048576 ∧ x.2.1.length ≤ 1048576 := fun x hx => by
  have := h.2.2.1.2 x hx
  exact ⟨this.1.1, this.2.1.1⟩
theorem cntB_le {f : tFuncD} (h : Small tFunc f) : 0 ≤ cntB f ∧ cntB f ≤ 1048576 + 1048576 * 2097152 := by
  have h1 : f.1.length ≤ 1048576 := h.1.1
  have h2 : f.2.2.1.length ≤ 1048576 := h.2.2.1.1
  have := sumB_le (w := fun x : tBlockD => ((x.1.length : Nat) : Int) + ((x.2.1.length : Nat) : Int)) (m := 2097152) (l := f.2.2.1) fun x hx => by
    have := blk_small h x hx
    omega
  unfold cntB
  omega
theorem specCount {f : tFuncD} (h : Small tFunc f) : Ev (fun k => spec_CountOf.f k f) (one (cntB f)) := by
  have h1 : f.1.length ≤ 1048576 := h.1.1
  exact acc_ev (L := fun k a i => spec_CountOf.l0 k a i f) (l := f.2.2.1) (w := fun x : tBlockD => ((x.1.length : Nat) : Int) + ((x.2.1.length : Nat) : Int)) (fun x hx => by have := blk_small h x hx; omega) h.2.2.1.1 (fun k a i hi => by
      show spec_CountOf.l0_ k (spec_CountOf.l0 k) a i f = _
      unfold spec_CountOf.l0_
      have hlen : f.2.2.1.length ≤ 1048576 := h.2.2.1.1
      simp only [head_in hi, head_0, Bool.and_self, cond_true, get_in hi, wrap_nat (show i < 9223372036854775807 by omega)]) (fun k a => by
      show spec_CountOf.l0_ k (spec_CountOf.l0 k) a _ f = _
      unfold spec_CountOf.l0_
      simp only [head_end, cond_false]) (by omega) (by omega)
theorem implCount {f : tFuncD} (h : Small tFunc f) : Ev (fun k => impl_CountOf.f k f) (one (cntB f)) := by
  have h1 : f.1.length ≤ 1048576 := h.1.1
  exact acc_ev (L := fun k a i => impl_CountOf.l0 k a f.2.2.1 ((List.length f.2.2.1 : Nat) : Int) i) (l := f.2.2.1) (w := fun x : tBlockD => ((x.1.length : Nat) : Int) + ((x.2.1.length : Nat) : Int)) (fun x hx => by have := blk_small h x hx; omega) h.2.2.1.1 (fun k a i hi => by
      show impl_CountOf.l0_ k (impl_CountOf.l0 k) a f.2.2.1 _ i = _
      unfold impl_CountOf.l0_
      have hlen : f.2.2.1.length ≤ 1048576 := h.2.2.1.1
      simp only [head_in hi, head_0, Bool.and_self, cond_true, get_in hi, wrap_nat (show i < 9223372036854775807 by omega)]) (fun k a => by
      show impl_CountOf.l0_ k (impl_CountOf.l0 k) a f.2.2.1 _ _ = _
      unfold impl_CountOf.l0_
      simp only [head_end, cond_false]) (by omega) (by omega)
/-! ### functions -/
def phiB (count : Int) (p : tPhiD) : Bool := wOk p.1 && decide (p.2.1.length ≤ 10) && p.2.1.all (inB 0 (count - 1))
def blockB (count funcs blocks : Int) (b : tBlockD) : Bool := b.1.all (phiB count) && b.2.1.all (instB count funcs) && termB count blocks b.2.2
def funcB (funcs : Int) (f : tFuncD) : Bool :=
  decide (f.1.length ≤ 4) && wOk f.2.1 && inB 1 10 (f.2.2.1.length : Int) && decide (cntB f ≤ 60) && f.1.all wOk && f.2.2.1.all (blockB (cntB f) funcs (f.2.2.1.length : Int))
def shapeB (m : tModuleD) : Bool := inB 1 3 (m.1.length : Int) && m.1.all (funcB (m.1.length : Int))
section
variable {f : tFuncD} {funcs count blocks : Int}
theorem specFunc4 {x : tBlockD} (hx : Small tBlock x) (h0 : 0 ≤ count) (h1 : count ≤ 9223372036854775807) (h2 : 0 ≤ funcs) (h3 : funcs ≤ 9223372036854775807) (h4 : 0 ≤ blocks) (h5 : blocks ≤ 9223372036854775807) {j : Nat} (hj : j < 9223372036854775807) {r : Bool}
    (hr : Ev (fun k => spec_l2Func.l1 k funcs count blocks ((j + 1 : Nat) : Int) f) (one r)) : Ev (fun k => spec_l2Func.l4 k funcs count blocks j 0 f x) (one (x.2.1.all (instB count funcs) && (termB count blocks x.2.2 && r))) := by
  have hs := hx.2.1
  refine each_ev (z := tInstZ) (l := x.2.1) (L := fun k a => spec_l2Func.l4 k funcs count blocks j a f x) (V := fun m => one (m.all (instB count funcs) && (termB count blocks x.2.2 && r))) (q := fun k y g => Option.bind (spec_l2Inst.f k y count funcs) fun r1 => bif !r1.1.1.1 then some (((false, ()), ()), ()) else g k)
    (by have := hs.1; show List.length (α := tInstD) x.2.1 ≤ _; have : List.length (α := tInstD) x.2.1 ≤ 1048576 := this; omega) (fun k a => rfl) ?_ ?_
  · refine Ev.bind (Ev.all fun k => specTerm k x.2.2 h0 h1 h4 h5) ?_
    rw [wrap_nat hj, List.all_nil, Bool.true_and]
    exact ev_and hr
  · intro y m g hy hg
    refine Ev.bind (specInst (i := y) ((hs.2 y hy).2.2.2.2.2.2.1.1) h0 h1 h2 h3) ?_
    rw [List.all_cons, Bool.and_assoc]
    exact ev_and hg
theorem specFunc2 {x : tBlockD} (hx : Small tBlock x) (h0 : 0 ≤ count) (h1 : count ≤ 9223372036854775807) (h2 : 0 ≤ funcs) (h3 : funcs ≤ 9223372036854775807) (h4 : 0 ≤ blocks) (h5 : blocks ≤ 9223372036854775807) {j : Nat} (hj : j < 9223372036854775807) {r : Bool}
    (hr : Ev (fun k => spec_l2Func.l1 k funcs count blocks ((j + 1 : Nat) : Int) f) (one r)) : Ev (fun k => spec_l2Func.l2 k funcs count blocks j 0 f x) (one (blockB count funcs blocks x && r)) := by
  have hs := hx.1
  have hlen : x.1.length ≤ 1048576 := hs.1
  have tail := specFunc4 (f := f) hx h0 h1 h2 h3 h4 h5 hj hr
  have key := Ev.down (G := fun i k => spec_l2Func.l2 k funcs count blocks j (i : Int) f x) (V := fun i => one ((x.1.drop i).all (phiB count) && (x.2.1.all (instB count funcs) && (termB count blocks x.2.2 && r)))) x.1.length ?_ ?_ 0 (Nat.zero_le _)
  · refine key.rw ?_
    unfold blockB
    rw [List.drop_zero, Bool.and_assoc, Bool.and_assoc]
  · rw [List.drop_length]
    refine tail.step fun k => ?_
    show spec_l2Func.l2_ k (spec_l2Func.l0 k) (spec_l2Func.l1 k) (spec_l2Func.l2 k) (spec_l2Func.l3 k) (spec_l2Func.l4 k) funcs count blocks j _ f x = _
    unfold spec_l2Func.l2_
    simp only [head_end, cond_false]
  · intro i hi ih
    have hp := hs.2 x.1[i] (List.getElem_mem hi)
    have hpl : x.1[i].2.1.length ≤ 1048576 := hp.2.1.1
    -- the inner loop
    have inner := Ev.down (G := fun q k => spec_l2Func.l3 k funcs count blocks j i (q : Int) f x) (V := fun q => one ((x.1[i].2.1.drop q).all (inB 0 (count - 1)) && ((x.1.drop (i + 1)).all (phiB count) && (x.2.1.all (instB count funcs) && (termB count blocks x.2.2 && r))))) x.1[i].2.1.length ?_ ?_ 0 (Nat.zero_le _)
    · rw [List.drop_eq_getElem_cons hi, List.all_cons]
      refine Ev.step (g' := fun k => Option.bind (spec_WidthOk.f k x.1[i].1) fun r1 => bif !r1.1.1.1 then some (((false, ()), ()), ()) else bif decide (10 < ((List.length x.1[i].2.1 : Nat) : Int)) then some (((false, ()), ()), ()) else spec_l2Func.l3 k funcs count blocks j i 0 f x) ?_ fun k => ?_
      · refine Ev.bind (Ev.all fun k => specW k _) ?_
        have e1 : ∀ R, (phiB count x.1[i] && R) = (wOk x.1[i].1 && (!decide (10 < ((List.length x.1[i].2.1 : Nat) : Int)) && (x.1[i].2.1.all (inB 0 (count - 1)) && R))) := fun R => by
          have e : decide (x.1[i].2.1.length ≤ 10) = !decide (10 < ((List.length x.1[i].2.1 : Nat) : Int)) := by
            by_cases h : 10 < ((List.length x.1[i].2.1 : Nat) : Int)
            · rw [dpos h, dneg (by omega)]; rfl
            · rw [dneg h, dpos (by omega)]; rfl
          unfold phiB
          rw [e, Bool.and_assoc, Bool.and_assoc]
        rw [Bool.and_assoc, e1]
        refine ev_and ?_
        exact ev_and' inner
      · show spec_l2Func.l2_ k (spec_l2Func.l0 k) (spec_l2Func.l1 k) (spec_l2Func.l2 k) (spec_l2Func.l3 k) (spec_l2Func.l4 k) funcs count blocks j _ f x = _
        unfold spec_l2Func.l2_
        simp only [head_in hi, head_0, Bool.and_self, cond_true, get_in hi]
    · rw [List.drop_length, List.all_nil, Bool.true_and]
      refine ih.step fun k => ?_
      show spec_l2Func.l3_ k (spec_l2Func.l0 k) (spec_l2Func.l1 k) (spec_l2Func.l2 k) (spec_l2Func.l3 k) (spec_l2Func.l4 k) funcs count blocks j _ _ f x = _
      unfold spec_l2Func.l3_
      simp only [head_in hi, head_0, Bool.and_self, cond_true, get_in hi, head_end, cond_false, wrap_nat (show i < 9223372036854775807 by omega)]
    · intro q hq ihq
      rw [List.drop_eq_getElem_cons hq, List.all_cons, Bool.and_assoc]
      refine Ev.step (g' := fun k => Option.bind (spec_l1In.f k x.1[i].2.1[q] 0 (IntKind.wrap .i64 (count - 1))) fun r1 => bif !r1.1.1.1 then some (((false, ()), ()), ()) else spec_l2Func.l3 k funcs count blocks j i ((q + 1 : Nat) : Int) f x) ?_ fun k => ?_
      · rw [wrap_id (by omega) (by omega)]
        exact Ev.bind (Ev.all fun k => specIn k _ _ _) (ev_and ihq)
      · show spec_l2Func.l3_ k (spec_l2Func.l0 k) (spec_l2Func.l1 k) (spec_l2Func.l2 k) (spec_l2Func.l3 k) (spec_l2Func.l4 k) funcs count blocks j _ _ f x = _
        unfold spec_l2Func.l3_
        simp only [head_in hi, head_0, Bool.and_self, cond_true, get_in hi, head_in hq, get_in hq, wrap_nat (show q < 9223372036854775807 by omega)]
theorem specFunc1 (hf : Small tFunc f) (h0 : 0 ≤ count) (h1 : count ≤ 9223372036854775807) (h2 : 0 ≤ funcs) (h3 : funcs ≤ 9223372036854775807) (h4 : 0 ≤ blocks) (h5 : blocks ≤ 9223372036854775807) : Ev (fun k => spec_l2Func.l1 k funcs count blocks 0 f) (one (f.2.2.1.all (blockB count funcs blocks))) := by
  have hs := hf.2.2.1
  have hlen : f.2.2.1.length ≤ 1048576 := hs.1
  have key := Ev.down (G := fun i k => spec_l2Func.l1 k funcs count blocks (i : Int) f) (V := fun i => one ((f.2.2.1.drop i).all (blockB count funcs blocks))) f.2.2.1.length ?_ ?_ 0 (Nat.zero_le _)
  · exact key
  · rw [List.drop_length]
    refine Ev.step (g' := fun _ => some (one true)) (Ev.cst rfl) fun k => ?_
    show spec_l2Func.l1_ k (spec_l2Func.l0 k) (spec_l2Func.l1 k) (spec_l2Func.l2 k) (spec_l2Func.l3 k) (spec_l2Func.l4 k) funcs count blocks _ f = _
    unfold spec_l2Func.l1_
    simp only [head_end, cond_false]
  · intro i hi ih
    rw [List.drop_eq_getElem_cons hi, List.all_cons]
    refine (specFunc2 (f := f) (x := f.2.2.1[i]) (hs.2 _ (List.getElem_mem hi)) h0 h1 h2 h3 h4 h5 (show i < 9223372036854775807 by omega) ih).step fun k => ?_
    show spec_l2Func.l1_ k (spec_l2Func.l0 k) (spec_l2Func.l1 k) (spec_l2Func.l2 k) (spec_l2Func.l3 k) (spec_l2Func.l4 k) funcs count blocks _ f = _
    unfold spec_l2Func.l1_
    simp only [head_in hi, head_0, Bool.and_self, cond_true, get_in hi]
theorem le_not {a b : Int} : decide (a ≤ b) = !decide (b < a) := by
  by_cases h : b < a
  · rw [dpos h, dneg (by omega)]; rfl
  · rw [dneg h, dpos (by omega)]; rfl
theorem len_not {n m : Nat} : decide (n ≤ m) = !decide ((m : Int) < (n : Int)) := by
  by_cases h : (m : Int) < (n : Int)
  · rw [dpos h, dneg (by omega)]; rfl
  · rw [dneg h, dpos (by omega)]; rfl
theorem specFunc (hf : Small tFunc f) (h2 : 0 ≤ funcs) (h3 : funcs ≤ 9223372036854775807) : Ev (fun k => spec_l2Func.f k f funcs) (one (funcB funcs f)) := by
  have hs := hf.2.2.1
  have hlen : f.2.2.1.length ≤ 1048576 := hs.1
  have hpl : f.1.length ≤ 1048576 := hf.1.1
  obtain ⟨c0, c1⟩ := cntB_le hf
  unfold spec_l2Func.f funcB
  simp only [Bool.and_assoc]
  refine Ev.bind (specCount hf) ?_
  rw [len_not]
  refine ev_and' (Ev.bind (Ev.all fun k => specW k _) (ev_and (Ev.bind (Ev.all fun k => specIn k _ _ _) (ev_and ?_))))
  rw [le_not]
  refine ev_and' ?_
  exact each_ev (z := 0) (l := f.1) (L := fun k a => spec_l2Func.l0 k funcs (cntB f) (f.2.2.1.length : Int) a f) (V := fun m => one (m.all wOk && f.2.2.1.all (blockB (cntB f) funcs (f.2.2.1.length : Int)))) (q := fun k y g => Option.bind (spec_WidthOk.f k y) fun r1 => bif !r1.1.1.1 then some (((false, ()), ()), ()) else g k)
    (by omega) (fun k a => rfl) (specFunc1 hf c0 (by omega) h2 h3 (by omega) (by omega)) fun y m g hy hg => by
      refine Ev.bind (Ev.all fun k => specW k _) ?_
      rw [List.all_cons, Bool.and_assoc]
      exact ev_and hg
end
theorem specShape {m : tModuleD} (hm : Small tModule m) : Ev (fun k => spec_ShapeOk.f k m) (one (shapeB m)) := by
  have hs := hm.1
  have hlen : m.1.length ≤ 1048576 := hs.1
  unfold spec_ShapeOk.f shapeB
  refine Ev.bind (Ev.all fun k => specIn k _ _ _) (ev_and ?_)
  exact each_ev (z := tFuncZ) (l := m.1) (L := fun k a => spec_ShapeOk.l0 k a m.1) (V := fun l => one (l.all (funcB (m.1.length : Int)))) (q := fun k y g => Option.bind (spec_l2Func.f k y ((List.length m.1 : Nat) : Int)) fun r1 => bif !r1.1.1.1 then some (((false, ()), ()), ()) else g k)
    (by omega) (fun k a => rfl) (Ev.cst rfl) fun y l g hy hg => by
      refine Ev.bind (specFunc (hs.2 y hy) (by omega) (by omega)) ?_
      rw [List.all_cons]
      exact ev_and hg
end Go.Proofs.YtebgkcjpocfmmaaGreat.V
namespace Go.Proofs.YtebgkcjpocfmmaaGreat.V
open Go
set_option linter.unusedVariables false
set_option linter.unusedSimpArgs false
theorem implWs {l : List Int} (h : l.length ≤ 1048576) : Ev (fun k => slices_ContainsFunc_int64_int64.f k l) (one (!l.all wOk)) := by
  rw [← any_not]
  exact index_ev (z := 0) (L := fun k b a => slices_IndexFunc_int64_int64.l0 k l b a) (q := fun k x => impl_isFunc_1.f k x) (by omega) (fun k b a => rfl) fun x _ => Ev.all fun k => by
    unfold impl_isFunc_1.f
    rw [implW]; rfl
theorem implIds {l : List Int} (h : l.length ≤ 1048576) {count : Int} (h0 : 0 ≤ count) (h1 : count ≤ 9223372036854775807) : Ev (fun k => slices_ContainsFunc_int64_int64_2.f k l count) (one (!l.all (inB 0 (count - 1)))) := by
  rw [← any_not]
  exact index_ev (z := 0) (L := fun k b a => slices_IndexFunc_int64_int64_2.l0 k l b a count) (q := fun k x => impl_isFunc_2_1.f k x count) (by omega) (fun k b a => rfl) fun x _ => Ev.all fun k => by
    unfold impl_isFunc_2_1.f
    rw [implIn, wrap_id (by omega) (by omega)]; rfl
theorem ev_nt {g : Nat → Option BR} {b c : Bool} (h : Ev g (one (!c))) : Ev (fun k => bif !b then some (one true) else g k) (one (!(b && c))) := by
  cases b with
  | true => exact Ev.neg rfl h
  | false => exact Ev.pos rfl (Ev.cst rfl)
theorem ev_nt' {g : Nat → Option BR} {b c : Bool} (h : Ev g (one (!c))) : Ev (fun k => bif b then some (one true) else g k) (one (!(!b && c))) := by
  cases b with
  | true => exact Ev.pos rfl (Ev.cst rfl)
  | false => exact Ev.neg rfl h
theorem implPhi {p : tPhiD} (hp : Small tPhi p) {count : Int} (h0 : 0 ≤ count) (h1 : count ≤ 9223372036854775807) : Ev (fun k => impl_isFunc_2.f k p count) (one (!phiB count p)) := by
  have hl : p.2.1.length ≤ 1048576 := hp.2.1.1
  unfold impl_isFunc_2.f phiB
  rw [Bool.and_assoc, len_not]
  exact Ev.bind (Ev.all fun k => implW k _) (ev_nt (ev_nt' (Ev.bind (implIds hl h0 h1) (Ev.cst rfl))))
theorem implPhis {l : List tPhiD} (hs : Small (.list tPhi) l) {count : Int} (h0 : 0 ≤ count) (h1 : count ≤ 9223372036854775807) : Ev (fun k => slices_ContainsFunc_impl_Phi_impl_Phi.f k l count) (one (!l.all (phiB count))) := by
  have hl : l.length ≤ 1048576 := hs.1
  rw [← any_not]
  exact index_ev (z := tPhiZ) (L := fun k b a => slices_IndexFunc_impl_Phi_impl_Phi.l0 k l b a count) (q := fun k x => impl_isFunc_2.f k x count) (by omega) (fun k b a => rfl) fun x hx => implPhi (hs.2 x hx) h0 h1
theorem implInsts {l : List tInstD} (hs : Small (.list tInst) l) {count funcs : Int} (h0 : 0 ≤ count) (h1 : count ≤ 9223372036854775807) (h2 : 0 ≤ funcs) (h3 : funcs ≤ 9223372036854775807) : Ev (fun k => slices_ContainsFunc_impl_Inst_impl_Inst.f k l count funcs) (one (!l.all (instB count funcs))) := by
  have hl : l.length ≤ 1048576 := hs.1
  rw [← any_not]
  refine index_ev (z := tInstZ) (L := fun k b a => slices_IndexFunc_impl_Inst_impl_Inst.l0 k l b a count funcs) (q := fun k x => impl_isFunc_3.f k x count funcs) (by omega) (fun k b a => rfl) fun x hx => ?_
  exact Ev.bind (implInst (i := x) ((hs.2 x hx).2.2.2.2.2.2.1.1) h0 h1 h2 h3) (Ev.cst rfl)
theorem implFunc {f : tFuncD} (hf : Small tFunc f) {funcs : Int} (h2 : 0 ≤ funcs) (h3 : funcs ≤ 9223372036854775807) : Ev (fun k => impl_isFunc.f k f funcs) (one (funcB funcs f)) := by
  have hs := hf.2.2.1
  have hlen : f.2.2.1.length ≤ 1048576 := hs.1
  have hpl : f.1.length ≤ 1048576 := hf.1.1
  obtain ⟨c0, c1⟩ := cntB_le hf
  have c1 : cntB f ≤ 9223372036854775807 := by omega
  have hord : funcB funcs f = (!decide (((4 : Nat) : Int) < ((f.1.length : Nat) : Int)) && (wOk f.2.1 && (inB 1 10 (f.2.2.1.length : Int) && (f.1.all wOk && (!decide (60 < cntB f) && f.2.2.1.all (blockB (cntB f) funcs (f.2.2.1.length : Int))))))) := by
    unfold funcB
    rw [len_not, le_not]
    generalize decide (((4 : Nat) : Int) < ((f.1.length : Nat) : Int)) = a
    generalize decide (60 < cntB f) = b
    generalize f.1.all wOk = c
    cases a <;> cases b <;> cases c <;> simp [Bool.and_assoc]
  rw [hord]
  unfold impl_isFunc.f
  refine ev_and' (Ev.bind (Ev.all fun k => implW k _) (ev_and (Ev.bind (Ev.all fun k => implIn k _ _ _) (ev_and (Ev.bind (implWs hpl) ?_)))))
  have inner : Ev (fun k => Option.bind (impl_CountOf.f k f) fun r4 => bif decide (60 < r4.1.1.1) then some (((false, ()), ()), ()) else impl_isFunc.l0 k f.2.2.1 ((List.length f.2.2.1 : Nat) : Int) 0 f funcs r4.1.1.1) (one (!decide (60 < cntB f) && f.2.2.1.all (blockB (cntB f) funcs (f.2.2.1.length : Int)))) := by
    refine Ev.bind (implCount hf) (ev_and' ?_)
    refine each_ev (z := tBlockZ) (l := f.2.2.1) (L := fun k a => impl_isFunc.l0 k f.2.2.1 ((List.length f.2.2.1 : Nat) : Int) a f funcs (cntB f)) (V := fun m => one (m.all (blockB (cntB f) funcs (f.2.2.1.length : Int))))
      (q := fun k x g => Option.bind (slices_ContainsFunc_impl_Phi_impl_Phi.f k x.1 (cntB f)) fun r1 => bif r1.1.1.1 then some (((false, ()), ()), ()) else Option.bind (slices_ContainsFunc_impl_Inst_impl_Inst.f k x.2.1 (cntB f) funcs) fun r2 => bif r2.1.1.1 then some (((false, ()), ()), ()) else Option.bind (impl_isTerm.f k f x.2.2 (cntB f)) fun r3 => bif !r3.1.1.1 then some (((false, ()), ()), ()) else g k)
      (by omega) (fun k a => rfl) (Ev.cst rfl) fun x m g hx hg => ?_
    have hx' := hs.2 x hx
    have hb : (blockB (cntB f) funcs (f.2.2.1.length : Int) x && m.all (blockB (cntB f) funcs (f.2.2.1.length : Int))) = (!(!x.1.all (phiB (cntB f))) && (!(!x.2.1.all (instB (cntB f) funcs)) && (termB (cntB f) (f.2.2.1.length : Int) x.2.2 && m.all (blockB (cntB f) funcs (f.2.2.1.length : Int))))) := by
      have e : blockB (cntB f) funcs (f.2.2.1.length : Int) x = (x.1.all (phiB (cntB f)) && x.2.1.all (instB (cntB f) funcs) && termB (cntB f) (f.2.2.1.length : Int) x.2.2) := rfl
      rw [e, Bool.not_not, Bool.not_not, Bool.and_assoc, Bool.and_assoc]
    rw [List.all_cons, hb]
    exact Ev.bind (implPhis hx'.1 c0 c1) (ev_and' (Ev.bind (implInsts hx'.2.1 c0 c1 h2 h3) (ev_and' (Ev.bind (Ev.all fun k => implTerm k x.2.2 hlen c0 c1) (ev_and hg)))))
  have := ev_and' (b := !f.1.all wOk) inner
  rw [Bool.not_not] at this
  exact this
theorem implFuncs {l : List tFuncD} (hs : Small (.list tFunc) l) {funcs : Int} (h2 : 0 ≤ funcs) (h3 : funcs ≤ 9223372036854775807) : Ev (fun k => slices_ContainsFunc_impl_Func_impl_Func.f k l funcs) (one (!l.all (funcB funcs))) := by
  have hl : l.length ≤ 1048576 := hs.1
  rw [← any_not]
  refine index_ev (z := tFuncZ) (L := fun k b a => slices_IndexFunc_impl_Func_impl_Func.l0 k l b a funcs) (q := fun k x => impl_ShapeOk_1.f k x funcs) (by omega) (fun k b a => rfl) fun x hx => ?_
  exact Ev.bind (implFunc (hs.2 x hx) h2 h3) (Ev.cst rfl)
theorem implShape {m : tModuleD} (hm : Small tModule m) : Ev (fun k => impl_ShapeOk.f k m) (one (shapeB m)) := by
  have hlen : m.1.length ≤ 1048576 := hm.1.1
  unfold impl_ShapeOk.f shapeB
  refine Ev.bind (Ev.all fun k => implIn k _ _ _) ?_
  cases inB 1 3 (m.1.length : Int) with
  | false => exact Ev.neg rfl (Ev.cst rfl)
  | true => exact Ev.pos rfl (Ev.bind (implFuncs hm.1 (by omega) (by omega)) (Ev.cst (by show some (one (!(!_))) = _; rw [Bool.not_not, Bool.true_and])))
end Go.Proofs.YtebgkcjpocfmmaaGreat.V
namespace Go.Proofs.YtebgkcjpocfmmaaGreat.V
open Go
set_option linter.unusedVariables false
set_option linter.unusedSimpArgs false
theorem Ev.dp {R : Type} {p : Prop} [Decidable p] {f g : Nat → Option R} {r : R} (h : p) (e : Ev f r) : Ev (fun k => bif decide p then f k else g k) r := Ev.pos (dpos h) e
theorem Ev.dn {R : Type} {p : Prop} [Decidable p] {f g : Nat → Option R} {r : R} (h : ¬ p) (e : Ev g r) : Ev (fun k => bif decide p then f k else g k) r := Ev.neg (dneg h) e
theorem Ev.dd {R : Type} {p q : Prop} [Decidable p] [Decidable q] {f g : Nat → Option R} {r : R} (h : p) (h' : q) (e : Ev f r) : Ev (fun k => bif decide p && decide q then f k else g k) r := Ev.pos (by rw [dpos h, dpos h']; rfl) e
theorem Ev.succ {R : Type} {g : Nat → Option R} {r : R} (h : Ev (fun k => g (k + 1)) r) : Ev g r := Ev.step h fun _ => rfl
/-- The places that are marked, from i on. -/
def idx : List Bool → Int → List Int
  | [], _ => []
  | x :: l, i => if x = true then i :: idx l (i + 1) else idx l (i + 1)
theorem idx_ge : ∀ (l : List Bool) (i n : Int), n ∈ idx l i → i ≤ n
  | [], i, n, h => by simp [idx] at h
  | x :: l, i, n, h => by
    simp only [idx] at h
    split at h
    · rcases List.mem_cons.1 h with rfl | h
      · omega
      · have := idx_ge l (i + 1) n h; omega
    · have := idx_ge l (i + 1) n h; omega
theorem mem_idx : ∀ (l : List Bool) (i : Int) (b : Nat), (i + b) ∈ idx l i ↔ l.getD b false = true
  | [], i, b => by simp [idx]
  | x :: l, i, 0 => by
    simp only [idx]
    have hn : ¬ (i ∈ idx l (i + 1)) := fun h => by have := idx_ge _ _ _ h; omega
    by_cases hx : x = true
    · simp [hx]
    · rw [if_neg hx]
      simp only [Int.natCast_zero, Int.add_zero, List.getD_cons_zero]
      exact ⟨fun h => absurd h hn, fun h => absurd h hx⟩
  | x :: l, i, b + 1 => by
    have ih := mem_idx l (i + 1) b
    rw [show i + 1 + (b : Int) = i + ((b + 1 : Nat) : Int) by push_cast; omega] at ih
    simp only [idx, List.getD_cons_succ]
    split
    · rw [List.mem_cons, ih]
      exact ⟨fun h => h.elim (fun h => by exfalso; push_cast at h; omega) id, .inr⟩
    · exact ih
theorem mem_idx0 (l : List Bool) (b : Int) (h : 0 ≤ b) : b ∈ idx l 0 ↔ l.getD b.toNat false = true := by
  have := mem_idx l 0 b.toNat
  rw [show (0 : Int) + (b.toNat : Int) = b by omega] at this
  exact this
theorem idx_length : ∀ (l : List Bool) (i : Int), (idx l i).length ≤ l.length
  | [], i => by simp [idx]
  | x :: l, i => by
    have := idx_length l (i + 1)
    simp only [idx]
    split <;> simp <;> omega
/-- A number put into a list of numbers that rise. -/
def putI (n : Int) : List Int → List Int
  | [] => [n]
  | x :: l => if x < n then x :: putI n l else n :: x :: l
theorem putI_ge (n : Int) : ∀ (l : List Int), (∀ x ∈ l, n ≤ x) → putI n l = n :: l
  | [], _ => rfl
  | x :: l, h => by simp only [putI]; rw [if_neg (by have := h x (by simp); omega)]
theorem idx_set : ∀ (l : List Bool) (i : Int) (b : Nat), b < l.length → l.getD b false = false → idx (l.set b true) i = putI (i + b) (idx l i)
  | [], i, b, h, _ => by simp at h
  | x :: l, i, 0, h, hx => by
    simp only [List.getD_cons_zero] at hx
    subst hx
    simp only [List.set_cons_zero, idx, if_true, Int.natCast_zero, Int.add_zero]
    rw [if_neg (by decide), putI_ge]
    intro y hy
    have := idx_ge _ _ _ hy; omega
  | x :: l, i, b + 1, h, hx => by
    have ih := idx_set l (i + 1) b (by simpa using h) (by simpa using hx)
    rw [show i + 1 + (b : Int) = i + ((b + 1 : Nat) : Int) by push_cast; omega] at ih
    simp only [List.set_cons_succ, idx, ih]
    split
    · simp only [putI]; rw [if_pos (by push_cast; omega)]
    · rfl
/-- Where an end leads. -/
def succsT (t : tTermD) : List Int := bif decide (t.1 = 2) then [t.2.2.1] else bif decide (t.1 = 3) then [t.2.2.1, t.2.2.2.1] else []
def succsOf (b : tBlockD) : List Int := succsT b.2.2
theorem succsT_len (t : tTermD) : (succsT t).length ≤ 2 := by
  unfold succsT
  cases decide (t.1 = 2) <;> cases decide (t.1 = 3) <;> simp
theorem succsOf_len (b : tBlockD) : (succsOf b).length ≤ 2 := succsT_len _
/-- All ends lead to blocks, of which there are at most ten. -/
def There (l : List tBlockD) : Prop := l.length ≤ 10 ∧ ∀ b ∈ l, ∀ s ∈ succsOf b, 0 ≤ s ∧ s < l.length
def bfs (l : List tBlockD) (w : Int) : Nat → List Int → List Bool → List Bool
  | 0, _, out => out
  | _ + 1, [], out => out
  | n + 1, b :: q, out => if b = w ∨ out.getD b.toNat false = true then bfs l w n q out else bfs l w n (q ++ succsOf (l.getD b.toNat tBlockZ)) (out.set b.toNat true)
theorem bfs_length (l : List tBlockD) (w : Int) : ∀ (n : Nat) (q : List Int) (out : List Bool), (bfs l w n q out).length = out.length
  | 0, _, _ => rfl
  | _ + 1, [], _ => rfl
  | n + 1, b :: q, out => by
    simp only [bfs]
    split
    · exact bfs_length l w n q out
    · rw [bfs_length l w n _ _]; simp
/-- How many are not marked. -/
def off (out : List Bool) : Nat := out.count false
theorem off_set : ∀ (out : List Bool) (b : Nat), b < out.length → out.getD b false = false → off (out.set b true) + 1 = off out
  | [], b, h, _ => by simp at h
  | x :: l, 0, h, hx => by
    simp only [List.getD_cons_zero] at hx
    subst hx
    simp [off]
  | x :: l, b + 1, h, hx => by
    have ih := off_set l b (by simpa using h) (by simpa using hx)
    unfold off at ih ⊢
    simp only [List.set_cons_succ, List.count_cons]
    omega
/-- What may stand in the queue. -/
def okq (l : List tBlockD) (q : List Int) : Prop := ∀ b ∈ q, 0 ≤ b ∧ b < (l.length : Int)
theorem okq_next {l : List tBlockD} {b : Int} {q : List Int} (h : There l) (hq : okq l (b :: q)) : okq l (q ++ succsOf (l.getD b.toNat tBlockZ)) := by
  obtain ⟨h0, h1⟩ := hq b (by simp)
  have hlt : b.toNat < l.length := by omega
  intro c hc
  rcases List.mem_append.1 hc with hc | hc
  · exact hq c (by simp [hc])
  · rw [getD_at l _ _ hlt] at hc
    exact h.2 _ (List.getElem_mem hlt) c hc
/-- The blocks that are reached without w. -/
def reachB (l : List tBlockD) (w : Int) : List Bool := bfs l w (3 * l.length + 1) [0] (List.replicate l.length false)
theorem reachB_length (l : List tBlockD) (w : Int) : (reachB l w).length = l.length := by unfold reachB; rw [bfs_length]; simp
theorem off_replicate (n : Nat) : off (List.replicate n false) = n := by unfold off; simp
theorem idx_replicate : ∀ (n : Nat) (i : Int), idx (List.replicate n false) i = []
  | 0, _ => rfl
  | n + 1, i => by simp only [List.replicate_succ, idx]; rw [if_neg (by decide)]; exact idx_replicate n (i + 1)
def domB (l : List tBlockD) (a b : Int) : Bool := (reachB l (-1)).getD b.toNat false && !((reachB l a).getD b.toNat false)
def smI (l : List Int) : Prop := l.length ≤ 1048576
theorem smI_small {l : List Int} (h : l.length ≤ 200) : smI l := Nat.le_trans h (by decide)
theorem has_ev (l : List Int) (n : Int) (h : smI l) : Ev (fun k => spec_l1Has.f k l n) (one (decide (n ∈ l))) := by
  have h' : l.length ≤ 1048576 := h
  refine each_ev (z := 0) (L := fun k a => spec_l1Has.l0 k l n a) (V := fun m => one (decide (n ∈ m))) (q := fun k x g => bif decide (x = n) then some (((true, ()), ()), ()) else g k) (by omega) (fun k a => rfl) (Ev.cst (by simp)) fun x m g hx hg => ?_
  by_cases c : x = n
  · exact Ev.dp c (Ev.cst (by simp [c]))
  · refine Ev.dn c (hg.rw ?_)
    congr 1
    simp [Ne.symm c]
theorem put_l (l : List Int) (n : Int) (h : smI l) (hn : n ∉ l) : ∀ (d i : Nat), i + d = l.length → Ev (fun k => spec_l1Put.l0 k l n i) (one (l.take i ++ putI n (l.drop i))) := by
  have h' : l.length ≤ 1048576 := h
  intro d
  induction d with
  | zero =>
    intro i hi
    obtain rfl : i = l.length := by omega
    refine Ev.step (g' := fun k => some (one (l ++ [n]))) (Ev.cst ?_) fun k => ?_
    · rw [List.drop_of_length_le (Nat.le_refl _), List.take_of_length_le (Nat.le_refl _)]; rfl
    · show spec_l1Put.l0_ k (spec_l1Put.l0 k) l n _ = _
      unfold spec_l1Put.l0_
      simp only [head_end, head_0, cond_false, cond_true, Bool.and_self, Int.toNat_natCast, List.nil_append, List.length_nil, List.take_length, List.drop_length, List.append_nil]
      rw [dpos (show (0 : Nat) ≤ 0 by omega), dpos (show (l.length : Int) ≤ (l.length : Int) by omega), dpos (show (0 + l.length) * 8 ≤ 140737488355328 by omega), dpos (show (l.length + [n].length) * 8 ≤ 140737488355328 by simp; omega), dpos (show ((l ++ [n]).length + 0) * 8 ≤ 140737488355328 by simp; omega)]
      rfl
  | succ d ih =>
    intro i hi
    have hlt : i < l.length := by omega
    have hm : (List.take i l).length = i := by rw [List.length_take]; omega
    by_cases c : l[i] < n
    · refine (Ev.step (ih (i + 1) (by omega)) fun k => ?_).rw ?_
      · show spec_l1Put.l0_ k (spec_l1Put.l0 k) l n _ = _
        unfold spec_l1Put.l0_
        simp only [head_in hlt, head_0, Bool.and_self, cond_true, get_in hlt, dpos c, wrap_nat (show i < 9223372036854775807 by omega)]
      · rw [List.drop_eq_getElem_cons hlt, List.take_succ_eq_append_getElem hlt]
        simp only [putI]
        rw [if_pos c, List.append_assoc]; rfl
    · have hne : ¬ l[i] = n := fun e => hn (e ▸ List.getElem_mem hlt)
      refine Ev.step (g' := fun k => some (one ((l.take i ++ [n]) ++ l.drop i))) (Ev.cst ?_) fun k => ?_
      · have e : putI n (l.drop i) = n :: l.drop i := by
          rw [List.drop_eq_getElem_cons hlt]
          simp only [putI]
          rw [if_neg c]
        rw [e, List.append_assoc]; rfl
      · show spec_l1Put.l0_ k (spec_l1Put.l0 k) l n _ = _
        unfold spec_l1Put.l0_
        simp only [head_in hlt, head_0, Bool.and_self, cond_true, cond_false, get_in hlt, dneg c, dneg hne]
        simp only [Int.toNat_natCast, List.nil_append, List.length_nil, hm]
        rw [dpos (show (0 : Nat) ≤ 0 by omega), dpos (show (i : Int) ≤ (l.length : Int) by omega), dpos (show (0 + i) * 8 ≤ 140737488355328 by omega), dpos (show (i + [n].length) * 8 ≤ 140737488355328 by simp; omega), dpos (show ((l.take i ++ [n]).length + (l.drop i).length) * 8 ≤ 140737488355328 by simp; omega)]
        rfl
theorem put_ev (l : List Int) (n : Int) (h : smI l) (hn : n ∉ l) : Ev (fun k => spec_l1Put.f k l n) (one (putI n l)) := by
  have := put_l l n h hn l.length 0 (by omega)
  rw [List.drop_zero, List.take_zero, List.nil_append] at this
  exact this
theorem implLeads (k : Nat) (t : tTermD) : impl_leadsTo.f k t = some (rowR (succsT t)) := by
  unfold impl_leadsTo.f succsT
  cases decide (t.1 = 2) <;> cases decide (t.1 = 3) <;> rfl
theorem specSuccs (k : Nat) (f : tFuncD) (x : Int) (h0 : 0 ≤ x) (h1 : x < (f.2.2.1.length : Int)) : spec_l3Succs.f k f x = some (rowR (succsOf (f.2.2.1.getD x.toNat tBlockZ))) := by
  unfold spec_l3Succs.f succsOf succsT
  rw [dpos h0, dpos h1]
  generalize f.2.2.1.getD x.toNat tBlockZ = b
  cases decide (b.2.2.1 = 2) <;> cases decide (b.2.2.1 = 3) <;> rfl
theorem okq_tail {l : List tBlockD} {b : Int} {q : List Int} (hq : okq l (b :: q)) : okq l q := fun c hc => hq c (by simp [hc])
theorem implReach_l (f : tFuncD) (w : Int) (ht : There f.2.2.1) : ∀ (n : Nat) (q : List Int) (out : List Bool), n ≤ 100 → okq f.2.2.1 q → out.length = f.2.2.1.length → q.length + 3 * off out ≤ n → Ev (fun k => impl_reach.l0 k w f out q) (rowR (bfs f.2.2.1 w n q out))
  | 0, [], out, _, _, _, _ => Ev.step (g' := fun _ => some (rowR out)) (Ev.cst rfl) fun k => rfl
  | 0, b :: q, out, _, _, _, hm => by simp at hm
  | n + 1, [], out, _, _, _, _ => Ev.step (g' := fun _ => some (rowR out)) (Ev.cst rfl) fun k => rfl
  | n + 1, b :: q, out, hn, hq, ho, hm => by
    obtain ⟨h0, h1⟩ := hq b (by simp)
    simp only [List.length_cons] at hm
    refine Ev.succ ?_
    show Ev (fun k => impl_reach.l0_ k (impl_reach.l0 k) w f out (b :: q)) _
    unfold impl_reach.l0_
    refine Ev.dp (show (0 : Int) < (((b :: q).length : Nat) : Int) by simp only [List.length_cons]; omega) (Ev.dd (show (0 : Nat) ≤ 0 by omega) (show (0 : Int) < (((b :: q).length : Nat) : Int) by simp only [List.length_cons]; omega) (Ev.dd (show (0 : Nat) ≤ 1 by omega) (show (1 : Int) ≤ (((b :: q).length : Nat) : Int) by simp only [List.length_cons]; omega) ?_))
    show Ev (fun k => bif decide (b = w) then impl_reach.l0 k w f out q else _) _
    by_cases hb : b = w
    · refine Ev.dp hb ((implReach_l f w ht n q out (by omega) (okq_tail hq) ho (by omega)).rw ?_)
      simp only [bfs]; rw [if_pos (Or.inl hb)]
    · refine Ev.dn hb (Ev.dd h0 (show b < ((out.length : Nat) : Int) by omega) ?_)
      by_cases hv : out.getD b.toNat false = true
      · refine Ev.pos hv ((implReach_l f w ht n q out (by omega) (okq_tail hq) ho (by omega)).rw ?_)
        simp only [bfs]; rw [if_pos (Or.inr hv)]
      · have hf : out.getD b.toNat false = false := by simpa using hv
        have hs := succsOf_len (f.2.2.1.getD b.toNat tBlockZ)
        have hd := off_set out b.toNat (by omega) hf
        refine Ev.neg hf (Ev.dd h0 (show b < ((out.length : Nat) : Int) by omega) (Ev.dd h0 h1 (Ev.bind (Ev.all fun k => implLeads k _) (Ev.dp (show (q.length + (succsOf (f.2.2.1.getD b.toNat tBlockZ)).length) * 8 ≤ 140737488355328 by omega) ?_))))
        refine (implReach_l f w ht n (q ++ succsOf (f.2.2.1.getD b.toNat tBlockZ)) (out.set b.toNat true) (by omega) (okq_next ht hq) (by simpa using ho) (by rw [List.length_append]; omega)).rw ?_
        simp only [bfs]; rw [if_neg (fun h => h.elim hb hv)]
theorem specReach_l (f : tFuncD) (w : Int) (ht : There f.2.2.1) : ∀ (n : Nat) (q : List Int) (out : List Bool), n ≤ 100 → okq f.2.2.1 q → out.length = f.2.2.1.length → q.length + 3 * off out ≤ n → Ev (fun k => spec_l3Reach.l0 k w (idx out 0) f q) (one (idx (bfs f.2.2.1 w n q out) 0))
  | 0, [], out, _, _, _, _ => Ev.step (g' := fun _ => some (one (idx out 0))) (Ev.cst rfl) fun k => rfl
  | 0, b :: q, out, _, _, _, hm => by simp at hm
  | n + 1, [], out, _, _, _, _ => Ev.step (g' := fun _ => some (one (idx out 0))) (Ev.cst rfl) fun k => rfl
  | n + 1, b :: q, out, hn, hq, ho, hm => by
    obtain ⟨h0, h1⟩ := hq b (by simp)
    simp only [List.length_cons] at hm
    have ht10 := ht.1
    have hi : smI (idx out 0) := smI_small (by have := idx_length out 0; omega)
    refine Ev.succ ?_
    show Ev (fun k => spec_l3Reach.l0_ k (spec_l3Reach.l0 k) w (idx out 0) f (b :: q)) _
    unfold spec_l3Reach.l0_
    refine Ev.dp (show (0 : Int) < (((b :: q).length : Nat) : Int) by simp only [List.length_cons]; omega) (Ev.dd (show (0 : Nat) ≤ 0 by omega) (show (0 : Int) < (((b :: q).length : Nat) : Int) by simp only [List.length_cons]; omega) (Ev.dd (show (0 : Nat) ≤ 1 by omega) (show (1 : Int) ≤ (((b :: q).length : Nat) : Int) by simp only [List.length_cons]; omega) (Ev.bind (Ev.all fun k => specCopy k (l := q) (by omega)) ?_)))
    show Ev (fun k => bif decide (b = w) then spec_l3Reach.l0 k w (idx out 0) f q else _) _
    by_cases hb : b = w
    · refine Ev.dp hb ((specReach_l f w ht n q out (by omega) (okq_tail hq) ho (by omega)).rw ?_)
      simp only [bfs]; rw [if_pos (Or.inl hb)]
    · refine Ev.dn hb (Ev.bind (has_ev _ b hi) ?_)
      by_cases hv : out.getD b.toNat false = true
      · refine Ev.dp ((mem_idx0 out b h0).2 hv) ((specReach_l f w ht n q out (by omega) (okq_tail hq) ho (by omega)).rw ?_)
        simp only [bfs]; rw [if_pos (Or.inr hv)]
      · have hf : out.getD b.toNat false = false := by simpa using hv
        have hs := succsOf_len (f.2.2.1.getD b.toNat tBlockZ)
        have hd := off_set out b.toNat (by omega) hf
        have hni : b ∉ idx out 0 := fun h => hv ((mem_idx0 out b h0).1 h)
        have hset : idx (out.set b.toNat true) 0 = putI b (idx out 0) := by
          have := idx_set out 0 b.toNat (by omega) hf
          rw [show (0 : Int) + (b.toNat : Int) = b by omega] at this
          exact this
        refine Ev.dn hni (Ev.bind (put_ev _ b hi hni) (Ev.bind (Ev.all fun k => specSuccs k f b h0 h1) (Ev.dp (show (q.length + (succsOf (f.2.2.1.getD b.toNat tBlockZ)).length) * 8 ≤ 140737488355328 by omega) ?_)))
        have := specReach_l f w ht n (q ++ succsOf (f.2.2.1.getD b.toNat tBlockZ)) (out.set b.toNat true) (by omega) (okq_next ht hq) (by simpa using ho) (by rw [List.length_append]; omega)
        rw [hset] at this
        refine this.rw ?_
        simp only [bfs]; rw [if_neg (fun h => h.elim hb hv)]
theorem okq_first {l : List tBlockD} (h : 0 < l.length) : okq l [0] := fun b hb => by
  obtain rfl : b = 0 := by simpa using hb
  omega
theorem implReach_ev (f : tFuncD) (w : Int) (ht : There f.2.2.1) (h : 0 < f.2.2.1.length) : Ev (fun k => impl_reach.f k f w) (rowR (reachB f.2.2.1 w)) := by
  have ht10 := ht.1
  unfold impl_reach.f
  refine Ev.pos (by rw [dpos rfl, dpos (show 0 ≤ (f.2.2.1.length : Int) by omega), dpos (show (f.2.2.1.length : Int) * 1 ≤ 281474976710656 by omega)]; rfl) ?_
  exact implReach_l f w ht (3 * f.2.2.1.length + 1) [0] _ (by omega) (okq_first h) (by simp) (by rw [Int.toNat_natCast, off_replicate]; simp; omega)
theorem specReach_ev (f : tFuncD) (w : Int) (ht : There f.2.2.1) (h : 0 < f.2.2.1.length) : Ev (fun k => spec_l3Reach.f k f w) (one (idx (reachB f.2.2.1 w) 0)) := by
  have ht10 := ht.1
  have hz := idx_replicate f.2.2.1.length 0
  unfold spec_l3Reach.f
  by_cases hw : w = 0
  · refine Ev.dp hw (Ev.cst ?_)
    subst hw
    unfold reachB
    rw [show 3 * f.2.2.1.length + 1 = (3 * f.2.2.1.length - 1 + 1) + 1 by omega]
    simp only [bfs]
    rw [if_pos (Or.inl trivial), hz]
  · refine Ev.dn hw ?_
    have := specReach_l f w ht (3 * f.2.2.1.length + 1) [0] (List.replicate f.2.2.1.length false) (by omega) (okq_first h) (by simp) (by rw [off_replicate]; simp; omega)
    rw [hz] at this
    exact this
theorem implDom {f : tFuncD} (ht : There f.2.2.1) (h : 0 < f.2.2.1.length) (a b : Int) (h0 : 0 ≤ b) (h1 : b < (f.2.2.1.length : Int)) : Ev (fun k => impl_dominates.f k f a b) (one (domB f.2.2.1 a b)) := by
  unfold impl_dominates.f domB
  have hl := reachB_length f.2.2.1 (-1)
  have hl' := reachB_length f.2.2.1 a
  refine Ev.bind (implReach_ev f (-1) ht h) (Ev.dd h0 (show b < ((reachB f.2.2.1 (-1)).length : Int) by omega) ?_)
  by_cases hv : (reachB f.2.2.1 (-1)).getD b.toNat false = true
  · rw [hv, Bool.true_and]
    exact Ev.pos rfl (Ev.bind (implReach_ev f a ht h) (Ev.dd h0 (show b < ((reachB f.2.2.1 a).length : Int) by omega) (Ev.cst rfl)))
  · rw [Bool.not_eq_true] at hv
    rw [hv, Bool.false_and]
    exact Ev.neg rfl (Ev.cst rfl)
theorem reach_few {l : List tBlockD} (ht : l.length ≤ 10) (w : Int) : smI (idx (reachB l w) 0) := smI_small (by have := idx_length (reachB l w) 0; rw [reachB_length] at this; omega)
theorem specDom {f : tFuncD} (ht : There f.2.2.1) (h : 0 < f.2.2.1.length) (a b : Int) (h0 : 0 ≤ b) : Ev (fun k => spec_l3Dom.f k f a b) (one (domB f.2.2.1 a b)) := by
  unfold spec_l3Dom.f domB
  refine Ev.bind (specReach_ev f (-1) ht h) (Ev.bind (has_ev _ b (reach_few ht.1 _)) ?_)
  by_cases hv : (reachB f.2.2.1 (-1)).getD b.toNat false = true
  · rw [hv, Bool.true_and]
    refine Ev.dp ((mem_idx0 _ b h0).2 hv) (Ev.bind (specReach_ev f a ht h) (Ev.bind (has_ev _ b (reach_few ht.1 _)) (Ev.cst ?_)))
    congr 2
    by_cases hv' : (reachB f.2.2.1 a).getD b.toNat false = true
    · rw [hv', dpos ((mem_idx0 _ b h0).2 hv')]
    · rw [dneg fun h => hv' ((mem_idx0 _ b h0).1 h)]
      rw [Bool.not_eq_true] at hv'
      rw [hv']
  · rw [dneg fun h => hv ((mem_idx0 _ b h0).1 h)]
    rw [Bool.not_eq_true] at hv
    rw [hv, Bool.false_and]
    exact Ev.neg rfl (Ev.cst rfl)
end Go.Proofs.YtebgkcjpocfmmaaGreat.V
