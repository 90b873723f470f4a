/- PROVED HERE: what the functions that the law FnExactFuncChecked reaches do in memory, each as a plain Lean function, and what these tell: part 3 of 6 of the proof of that law; no condition beyond those written out at each theorem. -/
import Derived.Test.YtebgkcjpocfmmaaGreatZFnExactFuncChecked1
namespace Go.Proofs.YtebgkcjpocfmmaaGreat.V
open Go
set_option linter.unusedVariables false
noncomputable section
/-! ### laws.toInst: function 208 -/
abbrev laws_toInst.R := (((Int × Int × Int × Int × Int × Int × Unit × Unit) × Unit) × ((List Int) × Unit))
def laws_toInst.f (k : Nat) (a0 : tInstD) : Option laws_toInst.R := Option.bind (laws_toInt64S.f k a0.2.2.2.2.2.2.1) fun r1 => some (((a0.1, a0.2.1, a0.2.2.1, a0.2.2.2.1, a0.2.2.2.2.1, a0.2.2.2.2.2.1, (), ()), ()), (r1.2.1, ()))
def laws_toInst.s (k : Nat) : FS := ⟨[⟨true, [.int .i64, .int .i64, .int .i64, .int .i64, .int .i64, .int .i64, .lst (.int .i64)]⟩], [], false, [⟨true, [.int .i64, .int .i64, .int .i64, .int .i64, .int .i64, .int .i64, .own 100]⟩], [(100, .row true (.int .i64))], [], fun x => laws_toInst.f k x.1.1⟩
def laws_toInst.E (k : Nat) : Ents := [(⟨108, []⟩, laws_toInt64S.s k)]
def laws_toInst.L : List (LS laws_toInst.R) := []
def laws_toInst.c : Code := Tryz.f208.body.getD .skip
theorem laws_toInst.eq (k : Nat) (x) : (laws_toInst.s k).pf x = execF tab (laws_toInst.E k) Tryz.f208 laws_toInst.c (laws_toInst.s k) laws_toInst.L x := by kernel_rfl
theorem laws_toInst.sound : ∀ k, Sound Tryz.prog 208 (laws_toInst.s k) := sound_of mixed tab_ok (f := 208) (fn := Tryz.f208) (c := laws_toInst.c) (by kernel_rfl) (by kernel_rfl) (by kernel_rfl) ⟨[⟨true, [.int .i64, .int .i64, .int .i64, .int .i64, .int .i64, .int .i64, .lst (.int .i64)]⟩], [], false, [⟨true, [.int .i64, .int .i64, .int .i64, .int .i64, .int .i64, .int .i64, .own 100]⟩], [(100, .row true (.int .i64))], []⟩ (by kernel_rfl) (by kernel_rfl) (fun k => (laws_toInst.s k).pf) laws_toInst.E (fun k => (EntsOK.cons (laws_toInt64S.sound k) EntsOK.nil)) (fun k => laws_toInst.L) (fun k => trivial) trivial (fun k => trivial) laws_toInst.eq
end
end Go.Proofs.YtebgkcjpocfmmaaGreat.V
namespace Go.Proofs.YtebgkcjpocfmmaaGreat.V
open Go
set_option linter.unusedVariables false
noncomputable section
/-! ### laws.toInstS: function 195 -/
abbrev laws_toInstS.R := (((Unit × Unit) × Unit) × ((List tInstD) × Unit))
def laws_toInstS.l0_ (k : Nat) (l0 : (List tInstD) → Int → (List tInstD) → Option laws_toInstS.R) (a0 : List tInstD) (a1 : Int) (a2 : List tInstD) : Option laws_toInstS.R := bif decide (a1 < ((List.length a0 : Nat) : Int)) then (bif (decide (0 ≤ a1)) && (decide (a1 < ((List.length a0 : Nat) : Int))) then (Option.bind (laws_toInst.f k (List.getD a0 (Int.toNat a1) tInstZ)) fun r1 => bif (decide (0 ≤ a1)) && (decide (a1 < ((List.length a2 : Nat) : Int))) then (l0 a0 (IntKind.wrap .i64 (a1 + 1)) (List.set a2 (Int.toNat a1) (r1.1.1.1, r1.1.1.2.1, r1.1.1.2.2.1, r1.1.1.2.2.2.1, r1.1.1.2.2.2.2.1, r1.1.1.2.2.2.2.2.1, r1.2.1, ()))) else none) else none) else (some ((((), ()), ()), (a2, ())))
def laws_toInstS.all : Nat → ((List tInstD) → Int → (List tInstD) → Option laws_toInstS.R) × Unit
  | 0 => (fun _ _ _ => none, ())
  | k + 1 => (laws_toInstS.l0_ k (laws_toInstS.all k).1, ())
def laws_toInstS.l0 (k : Nat) : (List tInstD) → Int → (List tInstD) → Option laws_toInstS.R := (laws_toInstS.all k).1
def laws_toInstS.f (k : Nat) (a0 : List tInstD) : Option laws_toInstS.R := bif (decide (((List.length a0 : Nat) : Int) = ((List.length a0 : Nat) : Int))) && (decide (0 ≤ ((List.length a0 : Nat) : Int))) && (decide (((List.length a0 : Nat) : Int) * 72 ≤ 281474976710656)) then (laws_toInstS.l0 k a0 0 (List.replicate (Int.toNat ((List.length a0 : Nat) : Int)) tInstZ)) else none
def laws_toInstS.s (k : Nat) : FS := ⟨[⟨false, [.lst tInst]⟩], [], false, [⟨false, [.own 100]⟩], [(100, .row true tInst)], [], fun x => laws_toInstS.f k x.1.1.1⟩
def laws_toInstS.E (k : Nat) : Ents := [(⟨208, []⟩, laws_toInst.s k)]
def laws_toInstS.L0 (l : (List tInstD) → Int → (List tInstD) → Option laws_toInstS.R) : LS laws_toInstS.R := ⟨[], [(0, ⟨false, [.lst tInst]⟩), (3, ⟨false, [.own 100000]⟩), (4, ⟨false, [.int .i64]⟩)], [(100000, .row true tInst)], fun x => l x.1.1.1 x.1.2.2.1.1 x.2.1⟩
def laws_toInstS.L (l0 : (List tInstD) → Int → (List tInstD) → Option laws_toInstS.R) : List (LS laws_toInstS.R) := [laws_toInstS.L0 l0]
def laws_toInstS.c : Code := Tryz.f195.body.getD .skip
theorem laws_toInstS.eq (k : Nat) (x) : (laws_toInstS.s k).pf x = execF tab (laws_toInstS.E k) Tryz.f195 laws_toInstS.c (laws_toInstS.s k) (laws_toInstS.L (laws_toInstS.l0 k)) x := by kernel_rfl
theorem laws_toInstS.r0 (l0 : (List tInstD) → Int → (List tInstD) → Option laws_toInstS.R) (k : Nat) (x) : laws_toInstS.l0_ k l0 x.1.1.1 x.1.2.2.1.1 x.2.1 = roundOf tab (laws_toInstS.E k) (laws_toInstS.L l0) laws_toInstS.c (fin tab Tryz.f195 (laws_toInstS.s k)) 0 (laws_toInstS.L0 l0) x := by kernel_rfl
theorem laws_toInstS.sound : ∀ k, Sound Tryz.prog 195 (laws_toInstS.s k) := sound_of mixed tab_ok (f := 195) (fn := Tryz.f195) (c := laws_toInstS.c) (by kernel_rfl) (by kernel_rfl) (by kernel_rfl) ⟨[⟨false, [.lst tInst]⟩], [], false, [⟨false, [.own 100]⟩], [(100, .row true tInst)], []⟩ (by kernel_rfl) (by kernel_rfl) (fun k => (laws_toInstS.s k).pf) laws_toInstS.E (fun k => (EntsOK.cons (laws_toInst.sound k) EntsOK.nil)) (fun k => laws_toInstS.L (laws_toInstS.l0 k)) (fun k => ⟨rfl, trivial⟩) ⟨fun _ => rfl, trivial⟩ (fun k => ⟨⟨(laws_toInstS.L0 (laws_toInstS.l0 (k + 1))).l, rfl, fun x => laws_toInstS.r0 (laws_toInstS.l0 k) k x⟩, trivial⟩) laws_toInstS.eq
end
end Go.Proofs.YtebgkcjpocfmmaaGreat.V
namespace Go.Proofs.YtebgkcjpocfmmaaGreat.V
open Go
set_option linter.unusedVariables false
noncomputable section
/-! ### laws.toTerm: function 196 -/
abbrev laws_toTerm.R := (((Int × Int × Int × Int × Unit) × Unit) × Unit)
def laws_toTerm.f (k : Nat) (a0 : tTermD) : Option laws_toTerm.R := some ((a0, ()), ())
def laws_toTerm.s (k : Nat) : FS := ⟨[⟨true, [.int .i64, .int .i64, .int .i64, .int .i64]⟩], [], false, [⟨true, [.int .i64, .int .i64, .int .i64, .int .i64]⟩], [], [], fun x => laws_toTerm.f k x.1.1⟩
def laws_toTerm.E (k : Nat) : Ents := []
def laws_toTerm.L : List (LS laws_toTerm.R) := []
def laws_toTerm.c : Code := Tryz.f196.body.getD .skip
theorem laws_toTerm.eq (k : Nat) (x) : (laws_toTerm.s k).pf x = execF tab (laws_toTerm.E k) Tryz.f196 laws_toTerm.c (laws_toTerm.s k) laws_toTerm.L x := by kernel_rfl
theorem laws_toTerm.sound : ∀ k, Sound Tryz.prog 196 (laws_toTerm.s k) := sound_of mixed tab_ok (f := 196) (fn := Tryz.f196) (c := laws_toTerm.c) (by kernel_rfl) (by kernel_rfl) (by kernel_rfl) ⟨[⟨true, [.int .i64, .int .i64, .int .i64, .int .i64]⟩], [], false, [⟨true, [.int .i64, .int .i64, .int .i64, .int .i64]⟩], [], []⟩ (by kernel_rfl) (by kernel_rfl) (fun k => (laws_toTerm.s k).pf) laws_toTerm.E (fun k => EntsOK.nil) (fun k => laws_toTerm.L) (fun k => trivial) trivial (fun k => trivial) laws_toTerm.eq
end
end Go.Proofs.YtebgkcjpocfmmaaGreat.V
namespace Go.Proofs.YtebgkcjpocfmmaaGreat.V
open Go
set_option linter.unusedVariables false
noncomputable section
/-! ### laws.toBlock: function 170 -/
abbrev laws_toBlock.R := (((Unit × Unit × Int × Int × Int × Int × Unit) × Unit) × ((List tPhiD) × (List tInstD) × Unit))
def laws_toBlock.f (k : Nat) (a0 : tBlockD) : Option laws_toBlock.R := Option.bind (laws_toPhiS.f k a0.1) fun r1 => Option.bind (laws_toInstS.f k a0.2.1) fun r2 => Option.bind (laws_toTerm.f k a0.2.2) fun r3 => some ((((), (), r3.1.1.1, r3.1.1.2.1, r3.1.1.2.2.1, r3.1.1.2.2.2.1, ()), ()), (r1.2.1, r2.2.1, ()))
def laws_toBlock.s (k : Nat) : FS := ⟨[⟨true, [.lst tPhi, .lst tInst, .int .i64, .int .i64, .int .i64, .int .i64]⟩], [], false, [⟨true, [.own 100, .own 101, .int .i64, .int .i64, .int .i64, .int .i64]⟩], [(100, .row true tPhi), (101, .row true tInst)], [], fun x => laws_toBlock.f k x.1.1⟩
def laws_toBlock.E (k : Nat) : Ents := [(⟨194, []⟩, laws_toPhiS.s k), (⟨195, []⟩, laws_toInstS.s k), (⟨196, []⟩, laws_toTerm.s k)]
def laws_toBlock.L : List (LS laws_toBlock.R) := []
def laws_toBlock.c : Code := Tryz.f170.body.getD .skip
theorem laws_toBlock.eq (k : Nat) (x) : (laws_toBlock.s k).pf x = execF tab (laws_toBlock.E k) Tryz.f170 laws_toBlock.c (laws_toBlock.s k) laws_toBlock.L x := by kernel_rfl
theorem laws_toBlock.sound : ∀ k, Sound Tryz.prog 170 (laws_toBlock.s k) := sound_of mixed tab_ok (f := 170) (fn := Tryz.f170) (c := laws_toBlock.c) (by kernel_rfl) (by kernel_rfl) (by kernel_rfl) ⟨[⟨true, [.lst tPhi, .lst tInst, .int .i64, .int .i64, .int .i64, .int .i64]⟩], [], false, [⟨true, [.own 100, .own 101, .int .i64, .int .i64, .int .i64, .int .i64]⟩], [(100, .row true tPhi), (101, .row true tInst)], []⟩ (by kernel_rfl) (by kernel_rfl) (fun k => (laws_toBlock.s k).pf) laws_toBlock.E (fun k => (EntsOK.cons (laws_toPhiS.sound k) (EntsOK.cons (laws_toInstS.sound k) (EntsOK.cons (laws_toTerm.sound k) EntsOK.nil)))) (fun k => laws_toBlock.L) (fun k => trivial) trivial (fun k => trivial) laws_toBlock.eq
end
end Go.Proofs.YtebgkcjpocfmmaaGreat.V
namespace Go.Proofs.YtebgkcjpocfmmaaGreat.V
open Go
set_option linter.unusedVariables false
noncomputable section
/-! ### laws.toBlockS: function 109 -/
abbrev laws_toBlockS.R := (((Unit × Unit) × Unit) × ((List tBlockD) × Unit))
def laws_toBlockS.l0_ (k : Nat) (l0 : (List tBlockD) → Int → (List tBlockD) → Option laws_toBlockS.R) (a0 : List tBlockD) (a1 : Int) (a2 : List tBlockD) : Option laws_toBlockS.R := bif decide (a1 < ((List.length a0 : Nat) : Int)) then (bif (decide (0 ≤ a1)) && (decide (a1 < ((List.length a0 : Nat) : Int))) then (Option.bind (laws_toBlock.f k (List.getD a0 (Int.toNat a1) tBlockZ)) fun r1 => bif (decide (0 ≤ a1)) && (decide (a1 < ((List.length a2 : Nat) : Int))) then (l0 a0 (IntKind.wrap .i64 (a1 + 1)) (List.set a2 (Int.toNat a1) (r1.2.1, r1.2.2.1, r1.1.1.2.2.1, r1.1.1.2.2.2.1, r1.1.1.2.2.2.2.1, r1.1.1.2.2.2.2.2.1, ()))) else none) else none) else (some ((((), ()), ()), (a2, ())))
def laws_toBlockS.all : Nat → ((List tBlockD) → Int → (List tBlockD) → Option laws_toBlockS.R) × Unit
  | 0 => (fun _ _ _ => none, ())
  | k + 1 => (laws_toBlockS.l0_ k (laws_toBlockS.all k).1, ())
def laws_toBlockS.l0 (k : Nat) : (List tBlockD) → Int → (List tBlockD) → Option laws_toBlockS.R := (laws_toBlockS.all k).1
def laws_toBlockS.f (k : Nat) (a0 : List tBlockD) : Option laws_toBlockS.R := bif (decide (((List.length a0 : Nat) : Int) = ((List.length a0 : Nat) : Int))) && (decide (0 ≤ ((List.length a0 : Nat) : Int))) && (decide (((List.length a0 : Nat) : Int) * 80 ≤ 281474976710656)) then (laws_toBlockS.l0 k a0 0 (List.replicate (Int.toNat ((List.length a0 : Nat) : Int)) tBlockZ)) else none
def laws_toBlockS.s (k : Nat) : FS := ⟨[⟨false, [.lst tBlock]⟩], [], false, [⟨false, [.own 100]⟩], [(100, .row true tBlock)], [], fun x => laws_toBlockS.f k x.1.1.1⟩
def laws_toBlockS.E (k : Nat) : Ents := [(⟨170, []⟩, laws_toBlock.s k)]
def laws_toBlockS.L0 (l : (List tBlockD) → Int → (List tBlockD) → Option laws_toBlockS.R) : LS laws_toBlockS.R := ⟨[], [(0, ⟨false, [.lst tBlock]⟩), (3, ⟨false, [.own 100000]⟩), (4, ⟨false, [.int .i64]⟩)], [(100000, .row true tBlock)], fun x => l x.1.1.1 x.1.2.2.1.1 x.2.1⟩
def laws_toBlockS.L (l0 : (List tBlockD) → Int → (List tBlockD) → Option laws_toBlockS.R) : List (LS laws_toBlockS.R) := [laws_toBlockS.L0 l0]
def laws_toBlockS.c : Code := Tryz.f109.body.getD .skip
theorem laws_toBlockS.eq (k : Nat) (x) : (laws_toBlockS.s k).pf x = execF tab (laws_toBlockS.E k) Tryz.f109 laws_toBlockS.c (laws_toBlockS.s k) (laws_toBlockS.L (laws_toBlockS.l0 k)) x := by kernel_rfl
theorem laws_toBlockS.r0 (l0 : (List tBlockD) → Int → (List tBlockD) → Option laws_toBlockS.R) (k : Nat) (x) : laws_toBlockS.l0_ k l0 x.1.1.1 x.1.2.2.1.1 x.2.1 = roundOf tab (laws_toBlockS.E k) (laws_toBlockS.L l0) laws_toBlockS.c (fin tab Tryz.f109 (laws_toBlockS.s k)) 0 (laws_toBlockS.L0 l0) x := by kernel_rfl
theorem laws_toBlockS.sound : ∀ k, Sound Tryz.prog 109 (laws_toBlockS.s k) := sound_of mixed tab_ok (f := 109) (fn := Tryz.f109) (c := laws_toBlockS.c) (by kernel_rfl) (by kernel_rfl) (by kernel_rfl) ⟨[⟨false, [.lst tBlock]⟩], [], false, [⟨false, [.own 100]⟩], [(100, .row true tBlock)], []⟩ (by kernel_rfl) (by kernel_rfl) (fun k => (laws_toBlockS.s k).pf) laws_toBlockS.E (fun k => (EntsOK.cons (laws_toBlock.sound k) EntsOK.nil)) (fun k => laws_toBlockS.L (laws_toBlockS.l0 k)) (fun k => ⟨rfl, trivial⟩) ⟨fun _ => rfl, trivial⟩ (fun k => ⟨⟨(laws_toBlockS.L0 (laws_toBlockS.l0 (k + 1))).l, rfl, fun x => laws_toBlockS.r0 (laws_toBlockS.l0 k) k x⟩, trivial⟩) laws_toBlockS.eq
end
end Go.Proofs.YtebgkcjpocfmmaaGreat.V
namespace Go.Proofs.YtebgkcjpocfmmaaGreat.V
open Go
set_option linter.unusedVariables false
noncomputable section
/-! ### laws.toFunc: function 57 -/
abbrev laws_toFunc.R := (((Unit × Int × Unit × Unit) × Unit) × ((List Int) × (List tBlockD) × Unit))
def laws_toFunc.f (k : Nat) (a0 : tFuncD) : Option laws_toFunc.R := Option.bind (laws_toInt64S.f k a0.1) fun r1 => Option.bind (laws_toBlockS.f k a0.2.2.1) fun r2 => some ((((), a0.2.1, (), ()), ()), (r1.2.1, r2.2.1, ()))
def laws_toFunc.s (k : Nat) : FS := ⟨[⟨true, [.lst (.int .i64), .int .i64, .lst tBlock]⟩], [], false, [⟨true, [.own 100, .int .i64, .own 101]⟩], [(100, .row true (.int .i64)), (101, .row true tBlock)], [], fun x => laws_toFunc.f k x.1.1⟩
def laws_toFunc.E (k : Nat) : Ents := [(⟨108, []⟩, laws_toInt64S.s k), (⟨109, []⟩, laws_toBlockS.s k)]
def laws_toFunc.L : List (LS laws_toFunc.R) := []
def laws_toFunc.c : Code := Tryz.f57.body.getD .skip
theorem laws_toFunc.eq (k : Nat) (x) : (laws_toFunc.s k).pf x = execF tab (laws_toFunc.E k) Tryz.f57 laws_toFunc.c (laws_toFunc.s k) laws_toFunc.L x := by kernel_rfl
theorem laws_toFunc.sound : ∀ k, Sound Tryz.prog 57 (laws_toFunc.s k) := sound_of mixed tab_ok (f := 57) (fn := Tryz.f57) (c := laws_toFunc.c) (by kernel_rfl) (by kernel_rfl) (by kernel_rfl) ⟨[⟨true, [.lst (.int .i64), .int .i64, .lst tBlock]⟩], [], false, [⟨true, [.own 100, .int .i64, .own 101]⟩], [(100, .row true (.int .i64)), (101, .row true tBlock)], []⟩ (by kernel_rfl) (by kernel_rfl) (fun k => (laws_toFunc.s k).pf) laws_toFunc.E (fun k => (EntsOK.cons (laws_toInt64S.sound k) (EntsOK.cons (laws_toBlockS.sound k) EntsOK.nil))) (fun k => laws_toFunc.L) (fun k => trivial) trivial (fun k => trivial) laws_toFunc.eq
end
end Go.Proofs.YtebgkcjpocfmmaaGreat.V
namespace Go.Proofs.YtebgkcjpocfmmaaGreat.V
open Go
set_option linter.unusedVariables false
noncomputable section
/-! ### laws.toFuncS: function 28 -/
abbrev laws_toFuncS.R := (((Unit × Unit) × Unit) × ((List tFuncD) × Unit))
def laws_toFuncS.l0_ (k : Nat) (l0 : (List tFuncD) → Int → (List tFuncD) → Option laws_toFuncS.R) (a0 : List tFuncD) (a1 : Int) (a2 : List tFuncD) : Option laws_toFuncS.R := bif decide (a1 < ((List.length a0 : Nat) : Int)) then (bif (decide (0 ≤ a1)) && (decide (a1 < ((List.length a0 : Nat) : Int))) then (Option.bind (laws_toFunc.f k (List.getD a0 (Int.toNat a1) tFuncZ)) fun r1 => bif (decide (0 ≤ a1)) && (decide (a1 < ((List.length a2 : Nat) : Int))) then (l0 a0 (IntKind.wrap .i64 (a1 + 1)) (List.set a2 (Int.toNat a1) (r1.2.1, r1.1.1.2.1, r1.2.2.1, ()))) else none) else none) else (some ((((), ()), ()), (a2, ())))
def laws_toFuncS.all : Nat → ((List tFuncD) → Int → (List tFuncD) → Option laws_toFuncS.R) × Unit
  | 0 => (fun _ _ _ => none, ())
  | k + 1 => (laws_toFuncS.l0_ k (laws_toFuncS.all k).1, ())
def laws_toFuncS.l0 (k : Nat) : (List tFuncD) → Int → (List tFuncD) → Option laws_toFuncS.R := (laws_toFuncS.all k).1
def laws_toFuncS.f (k : Nat) (a0 : List tFuncD) : Option laws_toFuncS.R := bif (decide (((List.length a0 : Nat) : Int) = ((List.length a0 : Nat) : Int))) && (decide (0 ≤ ((List.length a0 : Nat) : Int))) && (decide (((List.length a0 : Nat) : Int) * 56 ≤ 281474976710656)) then (laws_toFuncS.l0 k a0 0 (List.replicate (Int.toNat ((List.length a0 : Nat) : Int)) tFuncZ)) else none
def laws_toFuncS.s (k : Nat) : FS := ⟨[⟨false, [.lst tFunc]⟩], [], false, [⟨false, [.own 100]⟩], [(100, .row true tFunc)], [], fun x => laws_toFuncS.f k x.1.1.1⟩
def laws_toFuncS.E (k : Nat) : Ents := [(⟨57, []⟩, laws_toFunc.s k)]
def laws_toFuncS.L0 (l : (List tFuncD) → Int → (List tFuncD) → Option laws_toFuncS.R) : LS laws_toFuncS.R := ⟨[], [(0, ⟨false, [.lst tFunc]⟩), (3, ⟨false, [.own 100000]⟩), (4, ⟨false, [.int .i64]⟩)], [(100000, .row true tFunc)], fun x => l x.1.1.1 x.1.2.2.1.1 x.2.1⟩
def laws_toFuncS.L (l0 : (List tFuncD) → Int → (List tFuncD) → Option laws_toFuncS.R) : List (LS laws_toFuncS.R) := [laws_toFuncS.L0 l0]
def laws_toFuncS.c : Code := Tryz.f28.body.getD .skip
theorem laws_toFuncS.eq (k : Nat) (x) : (laws_toFuncS.s k).pf x = execF tab (laws_toFuncS.E k) Tryz.f28 laws_toFuncS.c (laws_toFuncS.s k) (laws_toFuncS.L (laws_toFuncS.l0 k)) x := by kernel_rfl
theorem laws_toFuncS.r0 (l0 : (List tFuncD) → Int → (List tFuncD) → Option laws_toFuncS.R) (k : Nat) (x) : laws_toFuncS.l0_ k l0 x.1.1.1 x.1.2.2.1.1 x.2.1 = roundOf tab (laws_toFuncS.E k) (laws_toFuncS.L l0) laws_toFuncS.c (fin tab Tryz.f28 (laws_toFuncS.s k)) 0 (laws_toFuncS.L0 l0) x := by kernel_rfl
theorem laws_toFuncS.sound : ∀ k, Sound Tryz.prog 28 (laws_toFuncS.s k) := sound_of mixed tab_ok (f := 28) (fn := Tryz.f28) (c := laws_toFuncS.c) (by kernel_rfl) (by kernel_rfl) (by kernel_rfl) ⟨[⟨false, [.lst tFunc]⟩], [], false, [⟨false, [.own 100]⟩], [(100, .row true tFunc)], []⟩ (by kernel_rfl) (by kernel_rfl) (fun k => (laws_toFuncS.s k).pf) laws_toFuncS.E (fun k => (EntsOK.cons (laws_toFunc.sound k) EntsOK.nil)) (fun k => laws_toFuncS.L (laws_toFuncS.l0 k)) (fun k => ⟨rfl, trivial⟩) ⟨fun _ => rfl, trivial⟩ (fun k => ⟨⟨(laws_toFuncS.L0 (laws_toFuncS.l0 (k + 1))).l, rfl, fun x => laws_toFuncS.r0 (laws_toFuncS.l0 k) k x⟩, trivial⟩) laws_toFuncS.eq
end
end Go.Proofs.YtebgkcjpocfmmaaGreat.V
namespace Go.Proofs.YtebgkcjpocfmmaaGreat.V
open Go
set_option linter.unusedVariables false
noncomputable section
/-! ### laws.toModule: function 10 -/
abbrev laws_toModule.R := (((Unit × Unit) × Unit) × ((List tFuncD) × Unit))
def laws_toModule.f (k : Nat) (a0 : tModuleD) : Option laws_toModule.R := Option.bind (laws_toFuncS.f k a0.1) fun r1 => some ((((), ()), ()), (r1.2.1, ()))
def laws_toModule.s (k : Nat) : FS := ⟨[⟨true, [.lst tFunc]⟩], [], false, [⟨true, [.own 100]⟩], [(100, .row true tFunc)], [], fun x => laws_toModule.f k x.1.1⟩
def laws_toModule.E (k : Nat) : Ents := [(⟨28, []⟩, laws_toFuncS.s k)]
def laws_toModule.L : List (LS laws_toModule.R) := []
def laws_toModule.c : Code := Tryz.f10.body.getD .skip
theorem laws_toModule.eq (k : Nat) (x) : (laws_toModule.s k).pf x = execF tab (laws_toModule.E k) Tryz.f10 laws_toModule.c (laws_toModule.s k) laws_toModule.L x := by kernel_rfl
theorem laws_toModule.sound : ∀ k, Sound Tryz.prog 10 (laws_toModule.s k) := sound_of mixed tab_ok (f := 10) (fn := Tryz.f10) (c := laws_toModule.c) (by kernel_rfl) (by kernel_rfl) (by kernel_rfl) ⟨[⟨true, [.lst tFunc]⟩], [], false, [⟨true, [.own 100]⟩], [(100, .row true tFunc)], []⟩ (by kernel_rfl) (by kernel_rfl) (fun k => (laws_toModule.s k).pf) laws_toModule.E (fun k => (EntsOK.cons (laws_toFuncS.sound k) EntsOK.nil)) (fun k => laws_toModule.L) (fun k => trivial) trivial (fun k => trivial) laws_toModule.eq
end
end Go.Proofs.YtebgkcjpocfmmaaGreat.V
namespace Go.Proofs.YtebgkcjpocfmmaaGreat.V
open Go
set_option linter.unusedVariables false
noncomputable section
/-! ### laws.eqInt64S: function 117 -/
abbrev laws_eqInt64S.R := (((Bool × Unit) × Unit) × Unit)
def laws_eqInt64S.l0_ (k : Nat) (l0 : (List Int) → (List Int) → Int → Option laws_eqInt64S.R) (a0 : List Int) (a1 : List Int) (a2 : Int) : Option laws_eqInt64S.R := bif decide (a2 < ((List.length a0 : Nat) : Int)) then (bif (decide (0 ≤ a2)) && (decide (a2 < ((List.length a0 : Nat) : Int))) then (bif (decide (0 ≤ a2)) && (decide (a2 < ((List.length a1 : Nat) : Int))) then (bif !decide (List.getD a0 (Int.toNat a2) 0 = List.getD a1 (Int.toNat a2) 0) then (some (((false, ()), ()), ())) else (l0 a0 a1 (IntKind.wrap .i64 (a2 + 1)))) else none) else none) else (some (((true, ()), ()), ()))
def laws_eqInt64S.all : Nat → ((List Int) → (List Int) → Int → Option laws_eqInt64S.R) × Unit
  | 0 => (fun _ _ _ => none, ())
  | k + 1 => (laws_eqInt64S.l0_ k (laws_eqInt64S.all k).1, ())
def laws_eqInt64S.l0 (k : Nat) : (List Int) → (List Int) → Int → Option laws_eqInt64S.R := (laws_eqInt64S.all k).1
def laws_eqInt64S.f (k : Nat) (a0 : List Int) (a1 : List Int) : Option laws_eqInt64S.R := bif !decide (((List.length a0 : Nat) : Int) = ((List.length a1 : Nat) : Int)) then (some (((false, ()), ()), ())) else (laws_eqInt64S.l0 k a0 a1 0)
def laws_eqInt64S.s (k : Nat) : FS := ⟨[⟨false, [.lst (.int .i64)]⟩, ⟨false, [.lst (.int .i64)]⟩], [], false, [⟨false, [.bool]⟩], [], [], fun x => laws_eqInt64S.f k x.1.1.1 x.1.2.1.1⟩
def laws_eqInt64S.E (k : Nat) : Ents := []
def laws_eqInt64S.L0 (l : (List Int) → (List Int) → Int → Option laws_eqInt64S.R) : LS laws_eqInt64S.R := ⟨[], [(0, ⟨false, [.lst (.int .i64)]⟩), (1, ⟨false, [.lst (.int .i64)]⟩), (5, ⟨false, [.int .i64]⟩)], [], fun x => l x.1.1.1 x.1.2.1.1 x.1.2.2.1.1⟩
def laws_eqInt64S.L (l0 : (List Int) → (List Int) → Int → Option laws_eqInt64S.R) : List (LS laws_eqInt64S.R) := [laws_eqInt64S.L0 l0]
def laws_eqInt64S.c : Code := Tryz.f117.body.getD .skip
theorem laws_eqInt64S.eq (k : Nat) (x) : (laws_eqInt64S.s k).pf x = execF tab (laws_eqInt64S.E k) Tryz.f117 laws_eqInt64S.c (laws_eqInt64S.s k) (laws_eqInt64S.L (laws_eqInt64S.l0 k)) x := by kernel_rfl
theorem laws_eqInt64S.r0 (l0 : (List Int) → (List Int) → Int → Option laws_eqInt64S.R) (k : Nat) (x) : laws_eqInt64S.l0_ k l0 x.1.1.1 x.1.2.1.1 x.1.2.2.1.1 = roundOf tab (laws_eqInt64S.E k) (laws_eqInt64S.L l0) laws_eqInt64S.c (fin tab Tryz.f117 (laws_eqInt64S.s k)) 0 (laws_eqInt64S.L0 l0) x := by kernel_rfl
theorem laws_eqInt64S.sound : ∀ k, Sound Tryz.prog 117 (laws_eqInt64S.s k) := sound_of mixed tab_ok (f := 117) (fn := Tryz.f117) (c := laws_eqInt64S.c) (by kernel_rfl) (by kernel_rfl) (by kernel_rfl) ⟨[⟨false, [.lst (.int .i64)]⟩, ⟨false, [.lst (.int .i64)]⟩], [], false, [⟨false, [.bool]⟩], [], []⟩ (by kernel_rfl) (by kernel_rfl) (fun k => (laws_eqInt64S.s k).pf) laws_eqInt64S.E (fun k => EntsOK.nil) (fun k => laws_eqInt64S.L (laws_eqInt64S.l0 k)) (fun k => ⟨rfl, trivial⟩) ⟨fun _ => rfl, trivial⟩ (fun k => ⟨⟨(laws_eqInt64S.L0 (laws_eqInt64S.l0 (k + 1))).l, rfl, fun x => laws_eqInt64S.r0 (laws_eqInt64S.l0 k) k x⟩, trivial⟩) laws_eqInt64S.eq
end
end Go.Proofs.YtebgkcjpocfmmaaGreat.V
namespace Go.Proofs.YtebgkcjpocfmmaaGreat.V
open Go
set_option linter.unusedVariables false
noncomputable section
/-! ### laws.eqPhi: function 209 -/
abbrev laws_eqPhi.R := (((Bool × Unit) × Unit) × Unit)
def laws_eqPhi.f (k : Nat) (a0 : tPhiD) (a1 : tPhiD) : Option laws_eqPhi.R := bif !decide (a0.1 = a1.1) then (some (((false, ()), ()), ())) else (Option.bind (laws_eqInt64S.f k a0.2.1 a1.2.1) fun r1 => bif !r1.1.1.1 then (some (((false, ()), ()), ())) else (some (((true, ()), ()), ())))
def laws_eqPhi.s (k : Nat) : FS := ⟨[⟨true, [.int .i64, .lst (.int .i64)]⟩, ⟨true, [.int .i64, .lst (.int .i64)]⟩], [], false, [⟨false, [.bool]⟩], [], [], fun x => laws_eqPhi.f k x.1.1 x.1.2.1⟩
def laws_eqPhi.E (k : Nat) : Ents := [(⟨117, []⟩, laws_eqInt64S.s k)]
def laws_eqPhi.L : List (LS laws_eqPhi.R) := []
def laws_eqPhi.c : Code := Tryz.f209.body.getD .skip
theorem laws_eqPhi.eq (k : Nat) (x) : (laws_eqPhi.s k).pf x = execF tab (laws_eqPhi.E k) Tryz.f209 laws_eqPhi.c (laws_eqPhi.s k) laws_eqPhi.L x := by kernel_rfl
theorem laws_eqPhi.sound : ∀ k, Sound Tryz.prog 209 (laws_eqPhi.s k) := sound_of mixed tab_ok (f := 209) (fn := Tryz.f209) (c := laws_eqPhi.c) (by kernel_rfl) (by kernel_rfl) (by kernel_rfl) ⟨[⟨true, [.int .i64, .lst (.int .i64)]⟩, ⟨true, [.int .i64, .lst (.int .i64)]⟩], [], false, [⟨false, [.bool]⟩], [], []⟩ (by kernel_rfl) (by kernel_rfl) (fun k => (laws_eqPhi.s k).pf) laws_eqPhi.E (fun k => (EntsOK.cons (laws_eqInt64S.sound k) EntsOK.nil)) (fun k => laws_eqPhi.L) (fun k => trivial) trivial (fun k => trivial) laws_eqPhi.eq
end
end Go.Proofs.YtebgkcjpocfmmaaGreat.V
namespace Go.Proofs.YtebgkcjpocfmmaaGreat.V
open Go
set_option linter.unusedVariables false
noncomputable section
/-! ### laws.eqPhiS: function 197 -/
abbrev laws_eqPhiS.R := (((Bool × Unit) × Unit) × Unit)
def laws_eqPhiS.l0_ (k : Nat) (l0 : (List tPhiD) → (List tPhiD) → Int → Option laws_eqPhiS.R) (a0 : List tPhiD) (a1 : List tPhiD) (a2 : Int) : Option laws_eqPhiS.R := bif decide (a2 < ((List.length a0 : Nat) : Int)) then (bif (decide (0 ≤ a2)) && (decide (a2 < ((List.length a0 : Nat) : Int))) then (bif (decide (0 ≤ a2)) && (decide (a2 < ((List.length a1 : Nat) : Int))) then (Option.bind (laws_eqPhi.f k (List.getD a0 (Int.toNat a2) tPhiZ) (List.getD a1 (Int.toNat a2) tPhiZ)) fun r1 => bif !r1.1.1.1 then (some (((false, ()), ()), ())) else (l0 a0 a1 (IntKind.wrap .i64 (a2 + 1)))) else none) else none) else (some (((true, ()), ()), ()))
def laws_eqPhiS.all : Nat → ((List tPhiD) → (List tPhiD) → Int → Option laws_eqPhiS.R) × Unit
  | 0 => (fun _ _ _ => none, ())
  | k + 1 => (laws_eqPhiS.l0_ k (laws_eqPhiS.all k).1, ())
def laws_eqPhiS.l0 (k : Nat) : (List tPhiD) → (List tPhiD) → Int → Option laws_eqPhiS.R := (laws_eqPhiS.all k).1
def laws_eqPhiS.f (k : Nat) (a0 : List tPhiD) (a1 : List tPhiD) : Option laws_eqPhiS.R := bif !decide (((List.length a0 : Nat) : Int) = ((List.length a1 : Nat) : Int)) then (some (((false, ()), ()), ())) else (laws_eqPhiS.l0 k a0 a1 0)
def laws_eqPhiS.s (k : Nat) : FS := ⟨[⟨false, [.lst tPhi]⟩, ⟨false, [.lst tPhi]⟩], [], false, [⟨false, [.bool]⟩], [], [], fun x => laws_eqPhiS.f k x.1.1.1 x.1.2.1.1⟩
def laws_eqPhiS.E (k : Nat) : Ents := [(⟨209, []⟩, laws_eqPhi.s k)]
def laws_eqPhiS.L0 (l : (List tPhiD) → (List tPhiD) → Int → Option laws_eqPhiS.R) : LS laws_eqPhiS.R := ⟨[], [(0, ⟨false, [.lst tPhi]⟩), (1, ⟨false, [.lst tPhi]⟩), (5, ⟨false, [.int .i64]⟩)], [], fun x => l x.1.1.1 x.1.2.1.1 x.1.2.2.1.1⟩
def laws_eqPhiS.L (l0 : (List tPhiD) → (List tPhiD) → Int → Option laws_eqPhiS.R) : List (LS laws_eqPhiS.R) := [laws_eqPhiS.L0 l0]
def laws_eqPhiS.c : Code := Tryz.f197.body.getD .skip
theorem laws_eqPhiS.eq (k : Nat) (x) : (laws_eqPhiS.s k).pf x = execF tab (laws_eqPhiS.E k) Tryz.f197 laws_eqPhiS.c (laws_eqPhiS.s k) (laws_eqPhiS.L (laws_eqPhiS.l0 k)) x := by kernel_rfl
theorem laws_eqPhiS.r0 (l0 : (List tPhiD) → (List tPhiD) → Int → Option laws_eqPhiS.R) (k : Nat) (x) : laws_eqPhiS.l0_ k l0 x.1.1.1 x.1.2.1.1 x.1.2.2.1.1 = roundOf tab (laws_eqPhiS.E k) (laws_eqPhiS.L l0) laws_eqPhiS.c (fin tab Tryz.f197 (laws_eqPhiS.s k)) 0 (laws_eqPhiS.L0 l0) x := by kernel_rfl
theorem laws_eqPhiS.sound : ∀ k, Sound Tryz.prog 197 (laws_eqPhiS.s k) := sound_of mixed tab_ok (f := 197) (fn := Tryz.f197) (c := laws_eqPhiS.c) (by kernel_rfl) (by kernel_rfl) (by kernel_rfl) ⟨[⟨false, [.lst tPhi]⟩, ⟨false, [.lst tPhi]⟩], [], false, [⟨false, [.bool]⟩], [], []⟩ (by kernel_rfl) (by kernel_rfl) (fun k => (laws_eqPhiS.s k).pf) laws_eqPhiS.E (fun k => (EntsOK.cons (laws_eqPhi.sound k) EntsOK.nil)) (fun k => laws_eqPhiS.L (laws_eqPhiS.l0 k)) (fun k => ⟨rfl, trivial⟩) ⟨fun _ => rfl, trivial⟩ (fun k => ⟨⟨(laws_eqPhiS.L0 (laws_eqPhiS.l0 (k + 1))).l, rfl, fun x => laws_eqPhiS.r0 (laws_eqPhiS.l0 k) k x⟩, trivial⟩) laws_eqPhiS.eq
end
end Go.Proofs.YtebgkcjpocfmmaaGreat.V
namespace Go.Proofs.YtebgkcjpocfmmaaGreat.V
open Go
set_option linter.unusedVariables false
noncomputable section
/-! ### laws.eqInst: function 210 -/
abbrev laws_eqInst.R := (((Bool × Unit) × Unit) × Unit)
def laws_eqInst.f (k : Nat) (a0 : tInstD) (a1 : tInstD) : Option laws_eqInst.R := bif !decide (a0.1 = a1.1) then (some (((false, ()), ()), ())) else (bif !decide (a0.2.1 = a1.2.1) then (some (((false, ()), ()), ())) else (bif !decide (a0.2.2.1 = a1.2.2.1) then (some (((false, ()), ()), ())) else (bif !decide (a0.2.2.2.1 = a1.2.2.2.1) then (some (((false, ()), ()), ())) else (bif !decide (a0.2.2.2.2.1 = a1.2.2.2.2.1) then (some (((false, ()), ()), ())) else (bif !decide (a0.2.2.2.2.2.1 = a1.2.2.2.2.2.1) then (some (((false, ()), ()), ())) else (Option.bind (laws_eqInt64S.f k a0.2.2.2.2.2.2.1 a1.2.2.2.2.2.2.1) fun r1 => bif !r1.1.1.1 then (some (((false, ()), ()), ())) else (some (((true, ()), ()), ()))))))))
def laws_eqInst.s (k : Nat) : FS := ⟨[⟨true, [.int .i64, .int .i64, .int .i64, .int .i64, .int .i64, .int .i64, .lst (.int .i64)]⟩, ⟨true, [.int .i64, .int .i64, .int .i64, .int .i64, .int .i64, .int .i64, .lst (.int .i64)]⟩], [], false, [⟨false, [.bool]⟩], [], [], fun x => laws_eqInst.f k x.1.1 x.1.2.1⟩
def laws_eqInst.E (k : Nat) : Ents := [(⟨117, []⟩, laws_eqInt64S.s k)]
def laws_eqInst.L : List (LS laws_eqInst.R) := []
def laws_eqInst.c : Code := Tryz.f210.body.getD .skip
theorem laws_eqInst.eq (k : Nat) (x) : (laws_eqInst.s k).pf x = execF tab (laws_eqInst.E k) Tryz.f210 laws_eqInst.c (laws_eqInst.s k) laws_eqInst.L x := by kernel_rfl
theorem laws_eqInst.sound : ∀ k, Sound Tryz.prog 210 (laws_eqInst.s k) := sound_of mixed tab_ok (f := 210) (fn := Tryz.f210) (c := laws_eqInst.c) (by kernel_rfl) (by kernel_rfl) (by kernel_rfl) ⟨[⟨true, [.int .i64, .int .i64, .int .i64, .int .i64, .int .i64, .int .i64, .lst (.int .i64)]⟩, ⟨true, [.int .i64, .int .i64, .int .i64, .int .i64, .int .i64, .int .i64, .lst (.int .i64)]⟩], [], false, [⟨false, [.bool]⟩], [], []⟩ (by kernel_rfl) (by kernel_rfl) (fun k => (laws_eqInst.s k).pf) laws_eqInst.E (fun k => (EntsOK.cons (laws_eqInt64S.sound k) EntsOK.nil)) (fun k => laws_eqInst.L) (fun k => trivial) trivial (fun k => trivial) laws_eqInst.eq
end
end Go.Proofs.YtebgkcjpocfmmaaGreat.V
namespace Go.Proofs.YtebgkcjpocfmmaaGreat.V
open Go
set_option linter.unusedVariables false
noncomputable section
/-! ### laws.eqInstS: function 198 -/
abbrev laws_eqInstS.R := (((Bool × Unit) × Unit) × Unit)
def laws_eqInstS.l0_ (k : Nat) (l0 : (List tInstD) → (List tInstD) → Int → Option laws_eqInstS.R) (a0 : List tInstD) (a1 : List tInstD) (a2 : Int) : Option laws_eqInstS.R := bif decide (a2 < ((List.length a0 : Nat) : Int)) then (bif (decide (0 ≤ a2)) && (decide (a2 < ((List.length a0 : Nat) : Int))) then (bif (decide (0 ≤ a2)) && (decide (a2 < ((List.length a1 : Nat) : Int))) then (Option.bind (laws_eqInst.f k (List.getD a0 (Int.toNat a2) tInstZ) (List.getD a1 (Int.toNat a2) tInstZ)) fun r1 => bif !r1.1.1.1 then (some (((false, ()), ()), ())) else (l0 a0 a1 (IntKind.wrap .i64 (a2 + 1)))) else none) else none) else (some (((true, ()), ()), ()))
def laws_eqInstS.all : Nat → ((List tInstD) → (List tInstD) → Int → Option laws_eqInstS.R) × Unit
  | 0 => (fun _ _ _ => none, ())
  | k + 1 => (laws_eqInstS.l0_ k (laws_eqInstS.all k).1, ())
def laws_eqInstS.l0 (k : Nat) : (List tInstD) → (List tInstD) → Int → Option laws_eqInstS.R := (laws_eqInstS.all k).1
def laws_eqInstS.f (k : Nat) (a0 : List tInstD) (a1 : List tInstD) : Option laws_eqInstS.R := bif !decide (((List.length a0 : Nat) : Int) = ((List.length a1 : Nat) : Int)) then (some (((false, ()), ()), ())) else (laws_eqInstS.l0 k a0 a1 0)
def laws_eqInstS.s (k : Nat) : FS := ⟨[⟨false, [.lst tInst]⟩, ⟨false, [.lst tInst]⟩], [], false, [⟨false, [.bool]⟩], [], [], fun x => laws_eqInstS.f k x.1.1.1 x.1.2.1.1⟩
def laws_eqInstS.E (k : Nat) : Ents := [(⟨210, []⟩, laws_eqInst.s k)]
def laws_eqInstS.L0 (l : (List tInstD) → (List tInstD) → Int → Option laws_eqInstS.R) : LS laws_eqInstS.R := ⟨[], [(0, ⟨false, [.lst tInst]⟩), (1, ⟨false, [.lst tInst]⟩), (5, ⟨false, [.int .i64]⟩)], [], fun x => l x.1.1.1 x.1.2.1.1 x.1.2.2.1.1⟩
def laws_eqInstS.L (l0 : (List tInstD) → (List tInstD) → Int → Option laws_eqInstS.R) : List (LS laws_eqInstS.R) := [laws_eqInstS.L0 l0]
def laws_eqInstS.c : Code := Tryz.f198.body.getD .skip
theorem laws_eqInstS.eq (k : Nat) (x) : (laws_eqInstS.s k).pf x = execF tab (laws_eqInstS.E k) Tryz.f198 laws_eqInstS.c (laws_eqInstS.s k) (laws_eqInstS.L (laws_eqInstS.l0 k)) x := by kernel_rfl
theorem laws_eqInstS.r0 (l0 : (List tInstD) → (List tInstD) → Int → Option laws_eqInstS.R) (k : Nat) (x) : laws_eqInstS.l0_ k l0 x.1.1.1 x.1.2.1.1 x.1.2.2.1.1 = roundOf tab (laws_eqInstS.E k) (laws_eqInstS.L l0) laws_eqInstS.c (fin tab Tryz.f198 (laws_eqInstS.s k)) 0 (laws_eqInstS.L0 l0) x := by kernel_rfl
theorem laws_eqInstS.sound : ∀ k, Sound Tryz.prog 198 (laws_eqInstS.s k) := sound_of mixed tab_ok (f := 198) (fn := Tryz.f198) (c := laws_eqInstS.c) (by kernel_rfl) (by kernel_rfl) (by kernel_rfl) ⟨[⟨false, [.lst tInst]⟩, ⟨false, [.lst tInst]⟩], [], false, [⟨false, [.bool]⟩], [], []⟩ (by kernel_rfl) (by kernel_rfl) (fun k => (laws_eqInstS.s k).pf) laws_eqInstS.E (fun k => (EntsOK.cons (laws_eqInst.sound k) EntsOK.nil)) (fun k => laws_eqInstS.L (laws_eqInstS.l0 k)) (fun k => ⟨rfl, trivial⟩) ⟨fun _ => rfl, trivial⟩ (fun k => ⟨⟨(laws_eqInstS.L0 (laws_eqInstS.l0 (k + 1))).l, rfl, fun x => laws_eqInstS.r0 (laws_eqInstS.l0 k) k x⟩, trivial⟩) laws_eqInstS.eq
end
end Go.Proofs.YtebgkcjpocfmmaaGreat.V
namespace Go.Proofs.YtebgkcjpocfmmaaGreat.V
open Go
set_option linter.unusedVariables false
noncomputable section
/-! ### laws.eqTerm: function 199 -/
abbrev laws_eqTerm.R := (((Bool × Unit) × Unit) × Unit)
def laws_eqTerm.f (k : Nat) (a0 : tTermD) (a1 : tTermD) : Option laws_eqTerm.R := bif !decide (a0.1 = a1.1) then (some (((false, ()), ()), ())) else (bif !decide (a0.2.1 = a1.2.1) then (some (((false, ()), ()), ())) else (bif !decide (a0.2.2.1 = a1.2.2.1) then (some (((false, ()), ()), ())) else (bif !decide (a0.2.2.2.1 = a1.2.2.2.1) then (some (((false, ()), ()), ())) else (some (((true, ()), ()), ())))))
def laws_eqTerm.s (k : Nat) : FS := ⟨[⟨true, [.int .i64, .int .i64, .int .i64, .int .i64]⟩, ⟨true, [.int .i64, .int .i64, .int .i64, .int .i64]⟩], [], false, [⟨false, [.bool]⟩], [], [], fun x => laws_eqTerm.f k x.1.1 x.1.2.1⟩
def laws_eqTerm.E (k : Nat) : Ents := []
def laws_eqTerm.L : List (LS laws_eqTerm.R) := []
def laws_eqTerm.c : Code := Tryz.f199.body.getD .skip
theorem laws_eqTerm.eq (k : Nat) (x) : (laws_eqTerm.s k).pf x = execF tab (laws_eqTerm.E k) Tryz.f199 laws_eqTerm.c (laws_eqTerm.s k) laws_eqTerm.L x := by kernel_rfl
theorem laws_eqTerm.sound : ∀ k, Sound Tryz.prog 199 (laws_eqTerm.s k) := sound_of mixed tab_ok (f := 199) (fn := Tryz.f199) (c := laws_eqTerm.c) (by kernel_rfl) (by kernel_rfl) (by kernel_rfl) ⟨[⟨true, [.int .i64, .int .i64, .int .i64, .int .i64]⟩, ⟨true, [.int .i64, .int .i64, .int .i64, .int .i64]⟩], [], false, [⟨false, [.bool]⟩], [], []⟩ (by kernel_rfl) (by kernel_rfl) (fun k => (laws_eqTerm.s k).pf) laws_eqTerm.E (fun k => EntsOK.nil) (fun k => laws_eqTerm.L) (fun k => trivial) trivial (fun k => trivial) laws_eqTerm.eq
end
end Go.Proofs.YtebgkcjpocfmmaaGreat.V
namespace Go.Proofs.YtebgkcjpocfmmaaGreat.V
open Go
set_option linter.unusedVariables false
noncomputable section
/-! ### laws.eqBlock: function 172 -/
abbrev laws_eqBlock.R := (((Bool × Unit) × Unit) × Unit)
def laws_eqBlock.f (k : Nat) (a0 : tBlockD) (a1 : tBlockD) : Option laws_eqBlock.R := Option.bind (laws_eqPhiS.f k a0.1 a1.1) fun r1 => bif !r1.1.1.1 then (some (((false, ()), ()), ())) else (Option.bind (laws_eqInstS.f k a0.2.1 a1.2.1) fun r2 => bif !r2.1.1.1 then (some (((false, ()), ()), ())) else (Option.bind (laws_eqTerm.f k a0.2.2 a1.2.2) fun r3 => bif !r3.1.1.1 then (some (((false, ()), ()), ())) else (some (((true, ()), ()), ()))))
def laws_eqBlock.s (k : Nat) : FS := ⟨[⟨true, [.lst tPhi, .lst tInst, .int .i64, .int .i64, .int .i64, .int .i64]⟩, ⟨true, [.lst tPhi, .lst tInst, .int .i64, .int .i64, .int .i64, .int .i64]⟩], [], false, [⟨false, [.bool]⟩], [], [], fun x => laws_eqBlock.f k x.1.1 x.1.2.1⟩
def laws_eqBlock.E (k : Nat) : Ents := [(⟨197, []⟩, laws_eqPhiS.s k), (⟨198, []⟩, laws_eqInstS.s k), (⟨199, []⟩, laws_eqTerm.s k)]
def laws_eqBlock.L : List (LS laws_eqBlock.R) := []
def laws_eqBlock.c : Code := Tryz.f172.body.getD .skip
theorem laws_eqBlock.eq (k : Nat) (x) : (laws_eqBlock.s k).pf x = execF tab (laws_eqBlock.E k) Tryz.f172 laws_eqBlock.c (laws_eqBlock.s k) laws_eqBlock.L x := by kernel_rfl
theorem laws_eqBlock.sound : ∀ k, Sound Tryz.prog 172 (laws_eqBlock.s k) := sound_of mixed tab_ok (f := 172) (fn := Tryz.f172) (c := laws_eqBlock.c) (by kernel_rfl) (by kernel_rfl) (by kernel_rfl) ⟨[⟨true, [.lst tPhi, .lst tInst, .int .i64, .int .i64, .int .i64, .int .i64]⟩, ⟨true, [.lst tPhi, .lst tInst, .int .i64, .int .i64, .int .i64, .int .i64]⟩], [], false, [⟨false, [.bool]⟩], [], []⟩ (by kernel_rfl) (by kernel_rfl) (fun k => (laws_eqBlock.s k).pf) laws_eqBlock.E (fun k => (EntsOK.cons (laws_eqPhiS.sound k) (EntsOK.cons (laws_eqInstS.sound k) (EntsOK.cons (laws_eqTerm.sound k) EntsOK.nil)))) (fun k => laws_eqBlock.L) (fun k => trivial) trivial (fun k => trivial) laws_eqBlock.eq
end
end Go.Proofs.YtebgkcjpocfmmaaGreat.V
namespace Go.Proofs.YtebgkcjpocfmmaaGreat.V
open Go
set_option linter.unusedVariables false
noncomputable section
/-! ### laws.eqBlockS: function 118 -/
abbrev laws_eqBlockS.R := (((Bool × Unit) × Unit) × Unit)
def laws_eqBlockS.l0_ (k : Nat) (l0 : (List tBlockD) → (List tBlockD) → Int → Option laws_eqBlockS.R) (a0 : List tBlockD) (a1 : List tBlockD) (a2 : Int) : Option laws_eqBlockS.R := bif decide (a2 < ((List.length a0 : Nat) : Int)) then (bif (decide (0 ≤ a2)) && (decide (a2 < ((List.length a0 : Nat) : Int))) then (bif (decide (0 ≤ a2)) && (decide (a2 < ((List.length a1 : Nat) : Int))) then (Option.bind (laws_eqBlock.f k (List.getD a0 (Int.toNat a2) tBlockZ) (List.getD a1 (Int.toNat a2) tBlockZ)) fun r1 => bif !r1.1.1.1 then (some (((false, ()), ()), ())) else (l0 a0 a1 (IntKind.wrap .i64 (a2 + 1)))) else none) else none) else (some (((true, ()), ()), ()))
def laws_eqBlockS.all : Nat → ((List tBlockD) → (List tBlockD) → Int → Option laws_eqBlockS.R) × Unit
  | 0 => (fun _ _ _ => none, ())
  | k + 1 => (laws_eqBlockS.l0_ k (laws_eqBlockS.all k).1, ())
def laws_eqBlockS.l0 (k : Nat) : (List tBlockD) → (List tBlockD) → Int → Option laws_eqBlockS.R := (laws_eqBlockS.all k).1
def laws_eqBlockS.f (k : Nat) (a0 : List tBlockD) (a1 : List tBlockD) : Option laws_eqBlockS.R := bif !decide (((List.length a0 : Nat) : Int) = ((List.length a1 : Nat) : Int)) then (some (((false, ()), ()), ())) else (laws_eqBlockS.l0 k a0 a1 0)
def laws_eqBlockS.s (k : Nat) : FS := ⟨[⟨false, [.lst tBlock]⟩, ⟨false, [.lst tBlock]⟩], [], false, [⟨false, [.bool]⟩], [], [], fun x => laws_eqBlockS.f k x.1.1.1 x.1.2.1.1⟩
def laws_eqBlockS.E (k : Nat) : Ents := [(⟨172, []⟩, laws_eqBlock.s k)]
def laws_eqBlockS.L0 (l : (List tBlockD) → (List tBlockD) → Int → Option laws_eqBlockS.R) : LS laws_eqBlockS.R := ⟨[], [(0, ⟨false, [.lst tBlock]⟩), (1, ⟨false, [.lst tBlock]⟩), (5, ⟨false, [.int .i64]⟩)], [], fun x => l x.1.1.1 x.1.2.1.1 x.1.2.2.1.1⟩
def laws_eqBlockS.L (l0 : (List tBlockD) → (List tBlockD) → Int → Option laws_eqBlockS.R) : List (LS laws_eqBlockS.R) := [laws_eqBlockS.L0 l0]
def laws_eqBlockS.c : Code := Tryz.f118.body.getD .skip
theorem laws_eqBlockS.eq (k : Nat) (x) : (laws_eqBlockS.s k).pf x = execF tab (laws_eqBlockS.E k) Tryz.f118 laws_eqBlockS.c (laws_eqBlockS.s k) (laws_eqBlockS.L (laws_eqBlockS.l0 k)) x := by kernel_rfl
theorem laws_eqBlockS.r0 (l0 : (List tBlockD) → (List tBlockD) → Int → Option laws_eqBlockS.R) (k : Nat) (x) : laws_eqBlockS.l0_ k l0 x.1.1.1 x.1.2.1.1 x.1.2.2.1.1 = roundOf tab (laws_eqBlockS.E k) (laws_eqBlockS.L l0) laws_eqBlockS.c (fin tab Tryz.f118 (laws_eqBlockS.s k)) 0 (laws_eqBlockS.L0 l0) x := by kernel_rfl
theorem laws_eqBlockS.sound : ∀ k, Sound Tryz.prog 118 (laws_eqBlockS.s k) := sound_of mixed tab_ok (f := 118) (fn := Tryz.f118) (c := laws_eqBlockS.c) (by kernel_rfl) (by kernel_rfl) (by kernel_rfl) ⟨[⟨false, [.lst tBlock]⟩, ⟨false, [.lst tBlock]⟩], [], false, [⟨false, [.bool]⟩], [], []⟩ (by kernel_rfl) (by kernel_rfl) (fun k => (laws_eqBlockS.s k).pf) laws_eqBlockS.E (fun k => (EntsOK.cons (laws_eqBlock.sound k) EntsOK.nil)) (fun k => laws_eqBlockS.L (laws_eqBlockS.l0 k)) (fun k => ⟨rfl, trivial⟩) ⟨fun _ => rfl, trivial⟩ (fun k => ⟨⟨(laws_eqBlockS.L0 (laws_eqBlockS.l0 (k + 1))).l, rfl, fun x => laws_eqBlockS.r0 (laws_eqBlockS.l0 k) k x⟩, trivial⟩) laws_eqBlockS.eq
end
end Go.Proofs.YtebgkcjpocfmmaaGreat.V
namespace Go.Proofs.YtebgkcjpocfmmaaGreat.V
open Go
set_option linter.unusedVariables false
noncomputable section
/-! ### laws.eqFunc: function 63 -/
abbrev laws_eqFunc.R := (((Bool × Unit) × Unit) × Unit)
def laws_eqFunc.f (k : Nat) (a0 : tFuncD) (a1 : tFuncD) : Option laws_eqFunc.R := Option.bind (laws_eqInt64S.f k a0.1 a1.1) fun r1 => bif !r1.1.1.1 then (some (((false, ()), ()), ())) else (bif !decide (a0.2.1 = a1.2.1) then (some (((false, ()), ()), ())) else (Option.bind (laws_eqBlockS.f k a0.2.2.1 a1.2.2.1) fun r2 => bif !r2.1.1.1 then (some (((false, ()), ()), ())) else (some (((true, ()), ()), ()))))
def laws_eqFunc.s (k : Nat) : FS := ⟨[⟨true, [.lst (.int .i64), .int .i64, .lst tBlock]⟩, ⟨true, [.lst (.int .i64), .int .i64, .lst tBlock]⟩], [], false, [⟨false, [.bool]⟩], [], [], fun x => laws_eqFunc.f k x.1.1 x.1.2.1⟩
def laws_eqFunc.E (k : Nat) : Ents := [(⟨117, []⟩, laws_eqInt64S.s k), (⟨118, []⟩, laws_eqBlockS.s k)]
def laws_eqFunc.L : List (LS laws_eqFunc.R) := []
def laws_eqFunc.c : Code := Tryz.f63.body.getD .skip
theorem laws_eqFunc.eq (k : Nat) (x) : (laws_eqFunc.s k).pf x = execF tab (laws_eqFunc.E k) Tryz.f63 laws_eqFunc.c (laws_eqFunc.s k) laws_eqFunc.L x := by kernel_rfl
theorem laws_eqFunc.sound : ∀ k, Sound Tryz.prog 63 (laws_eqFunc.s k) := sound_of mixed tab_ok (f := 63) (fn := Tryz.f63) (c := laws_eqFunc.c) (by kernel_rfl) (by kernel_rfl) (by kernel_rfl) ⟨[⟨true, [.lst (.int .i64), .int .i64, .lst tBlock]⟩, ⟨true, [.lst (.int .i64), .int .i64, .lst tBlock]⟩], [], false, [⟨false, [.bool]⟩], [], []⟩ (by kernel_rfl) (by kernel_rfl) (fun k => (laws_eqFunc.s k).pf) laws_eqFunc.E (fun k => (EntsOK.cons (laws_eqInt64S.sound k) (EntsOK.cons (laws_eqBlockS.sound k) EntsOK.nil))) (fun k => laws_eqFunc.L) (fun k => trivial) trivial (fun k => trivial) laws_eqFunc.eq
end
end Go.Proofs.YtebgkcjpocfmmaaGreat.V
namespace Go.Proofs.YtebgkcjpocfmmaaGreat.V
open Go
set_option linter.unusedVariables false
noncomputable section
/-! ### laws.eqFuncS: function 31 -/
abbrev laws_eqFuncS.R := (((Bool × Unit) × Unit) × Unit)
def laws_eqFuncS.l0_ (k : Nat) (l0 : (List tFuncD) → (List tFuncD) → Int → Option laws_eqFuncS.R) (a0 : List tFuncD) (a1 : List tFuncD) (a2 : Int) : Option laws_eqFuncS.R := bif decide (a2 < ((List.length a0 : Nat) : Int)) then (bif (decide (0 ≤ a2)) && (decide (a2 < ((List.length a0 : Nat) : Int))) then (bif (decide (0 ≤ a2)) && (decide (a2 < ((List.length a1 : Nat) : Int))) then (Option.bind (laws_eqFunc.f k (List.getD a0 (Int.toNat a2) tFuncZ) (List.getD a1 (Int.toNat a2) tFuncZ)) fun r1 => bif !r1.1.1.1 then (some (((false, ()), ()), ())) else (l0 a0 a1 (IntKind.wrap .i64 (a2 + 1)))) else none) else none) else (some (((true, ()), ()), ()))
def laws_eqFuncS.all : Nat → ((List tFuncD) → (List tFuncD) → Int → Option laws_eqFuncS.R) × Unit
  | 0 => (fun _ _ _ => none, ())
  | k + 1 => (laws_eqFuncS.l0_ k (laws_eqFuncS.all k).1, ())
def laws_eqFuncS.l0 (k : Nat) : (List tFuncD) → (List tFuncD) → Int → Option laws_eqFuncS.R := (laws_eqFuncS.all k).1
def laws_eqFuncS.f (k : Nat) (a0 : List tFuncD) (a1 : List tFuncD) : Option laws_eqFuncS.R := bif !decide (((List.length a0 : Nat) : Int) = ((List.length a1 : Nat) : Int)) then (some (((false, ()), ()), ())) else (laws_eqFuncS.l0 k a0 a1 0)
def laws_eqFuncS.s (k : Nat) : FS := ⟨[⟨false, [.lst tFunc]⟩, ⟨false, [.lst tFunc]⟩], [], false, [⟨false, [.bool]⟩], [], [], fun x => laws_eqFuncS.f k x.1.1.1 x.1.2.1.1⟩
def laws_eqFuncS.E (k : Nat) : Ents := [(⟨63, []⟩, laws_eqFunc.s k)]
def laws_eqFuncS.L0 (l : (List tFuncD) → (List tFuncD) → Int → Option laws_eqFuncS.R) : LS laws_eqFuncS.R := ⟨[], [(0, ⟨false, [.lst tFunc]⟩), (1, ⟨false, [.lst tFunc]⟩), (5, ⟨false, [.int .i64]⟩)], [], fun x => l x.1.1.1 x.1.2.1.1 x.1.2.2.1.1⟩
def laws_eqFuncS.L (l0 : (List tFuncD) → (List tFuncD) → Int → Option laws_eqFuncS.R) : List (LS laws_eqFuncS.R) := [laws_eqFuncS.L0 l0]
def laws_eqFuncS.c : Code := Tryz.f31.body.getD .skip
theorem laws_eqFuncS.eq (k : Nat) (x) : (laws_eqFuncS.s k).pf x = execF tab (laws_eqFuncS.E k) Tryz.f31 laws_eqFuncS.c (laws_eqFuncS.s k) (laws_eqFuncS.L (laws_eqFuncS.l0 k)) x := by kernel_rfl
theorem laws_eqFuncS.r0 (l0 : (List tFuncD) → (List tFuncD) → Int → Option laws_eqFuncS.R) (k : Nat) (x) : laws_eqFuncS.l0_ k l0 x.1.1.1 x.1.2.1.1 x.1.2.2.1.1 = roundOf tab (laws_eqFuncS.E k) (laws_eqFuncS.L l0) laws_eqFuncS.c (fin tab Tryz.f31 (laws_eqFuncS.s k)) 0 (laws_eqFuncS.L0 l0) x := by kernel_rfl
theorem laws_eqFuncS.sound : ∀ k, Sound Tryz.prog 31 (laws_eqFuncS.s k) := sound_of mixed tab_ok (f := 31) (fn := Tryz.f31) (c := laws_eqFuncS.c) (by kernel_rfl) (by kernel_rfl) (by kernel_rfl) ⟨[⟨false, [.lst tFunc]⟩, ⟨false, [.lst tFunc]⟩], [], false, [⟨false, [.bool]⟩], [], []⟩ (by kernel_rfl) (by kernel_rfl) (fun k => (laws_eqFuncS.s k).pf) laws_eqFuncS.E (fun k => (EntsOK.cons (laws_eqFunc.sound k) EntsOK.nil)) (fun k => laws_eqFuncS.L (laws_eqFuncS.l0 k)) (fun k => ⟨rfl, trivial⟩) ⟨fun _ => rfl, trivial⟩ (fun k => ⟨⟨(laws_eqFuncS.L0 (laws_eqFuncS.l0 (k + 1))).l, rfl, fun x => laws_eqFuncS.r0 (laws_eqFuncS.l0 k) k x⟩, trivial⟩) laws_eqFuncS.eq
end
end Go.Proofs.YtebgkcjpocfmmaaGreat.V
namespace Go.Proofs.YtebgkcjpocfmmaaGreat.V
open Go
set_option linter.unusedVariables false
noncomputable section
/-! ### laws.eqModule: function 12 -/
abbrev laws_eqModule.R := (((Bool × Unit) × Unit) × Unit)
def laws_eqModule.f (k : Nat) (a0 : tModuleD) (a1 : tModuleD) : Option laws_eqModule.R := Option.bind (laws_eqFuncS.f k a0.1 a1.1) fun r1 => bif !r1.1.1.1 then (some (((false, ()), ()), ())) else (some (((true, ()), ()), ()))
def laws_eqModule.s (k : Nat) : FS := ⟨[⟨true, [.lst tFunc]⟩, ⟨true, [.lst tFunc]⟩], [], false, [⟨false, [.bool]⟩], [], [], fun x => laws_eqModule.f k x.1.1 x.1.2.1⟩
def laws_eqModule.E (k : Nat) : Ents := [(⟨31, []⟩, laws_eqFuncS.s k)]
def laws_eqModule.L : List (LS laws_eqModule.R) := []
def laws_eqModule.c : Code := Tryz.f12.body.getD .skip
theorem laws_eqModule.eq (k : Nat) (x) : (laws_eqModule.s k).pf x = execF tab (laws_eqModule.E k) Tryz.f12 laws_eqModule.c (laws_eqModule.s k) laws_eqModule.L x := by kernel_rfl
theorem laws_eqModule.sound : ∀ k, Sound Tryz.prog 12 (laws_eqModule.s k) := sound_of mixed tab_ok (f := 12) (fn := Tryz.f12) (c := laws_eqModule.c) (by kernel_rfl) (by kernel_rfl) (by kernel_rfl) ⟨[⟨true, [.lst tFunc]⟩, ⟨true, [.lst tFunc]⟩], [], false, [⟨false, [.bool]⟩], [], []⟩ (by kernel_rfl) (by kernel_rfl) (fun k => (laws_eqModule.s k).pf) laws_eqModule.E (fun k => (EntsOK.cons (laws_eqFuncS.sound k) EntsOK.nil)) (fun k => laws_eqModule.L) (fun k => trivial) trivial (fun k => trivial) laws_eqModule.eq
end
end Go.Proofs.YtebgkcjpocfmmaaGreat.V
namespace Go.Proofs.YtebgkcjpocfmmaaGreat.V
open Go
set_option linter.unusedVariables false
noncomputable section
/-! ### spec.l1In: function 38 -/
abbrev spec_l1In.R := (((Bool × Unit) × Unit) × Unit)
def spec_l1In.f (k : Nat) (a0 : Int) (a1 : Int) (a2 : Int) : Option spec_l1In.R := bif decide (a1 ≤ a0) then (some (((decide (a0 ≤ a2), ()), ()), ())) else (some (((false, ()), ()), ()))
def spec_l1In.s (k : Nat) : FS := ⟨[⟨false, [.int .i64]⟩, ⟨false, [.int .i64]⟩, ⟨false, [.int .i64]⟩], [], false, [⟨false, [.bool]⟩], [], [], fun x => spec_l1In.f k x.1.1.1 x.1.2.1.1 x.1.2.2.1.1⟩
def spec_l1In.E (k : Nat) : Ents := []
def spec_l1In.L : List (LS spec_l1In.R) := []
def spec_l1In.c : Code := Tryz.f38.body.getD .skip
theorem spec_l1In.eq (k : Nat) (x) : (spec_l1In.s k).pf x = execF tab (spec_l1In.E k) Tryz.f38 spec_l1In.c (spec_l1In.s k) spec_l1In.L x := by kernel_rfl
theorem spec_l1In.sound : ∀ k, Sound Tryz.prog 38 (spec_l1In.s k) := sound_of mixed tab_ok (f := 38) (fn := Tryz.f38) (c := spec_l1In.c) (by kernel_rfl) (by kernel_rfl) (by kernel_rfl) ⟨[⟨false, [.int .i64]⟩, ⟨false, [.int .i64]⟩, ⟨false, [.int .i64]⟩], [], false, [⟨false, [.bool]⟩], [], []⟩ (by kernel_rfl) (by kernel_rfl) (fun k => (spec_l1In.s k).pf) spec_l1In.E (fun k => EntsOK.nil) (fun k => spec_l1In.L) (fun k => trivial) trivial (fun k => trivial) spec_l1In.eq
end
end Go.Proofs.YtebgkcjpocfmmaaGreat.V
namespace Go.Proofs.YtebgkcjpocfmmaaGreat.V
open Go
set_option linter.unusedVariables false
noncomputable section
/-! ### spec.CountOf: function 25 -/
abbrev spec_CountOf.R := (((Int × Unit) × Unit) × Unit)
def spec_CountOf.l0_ (k : Nat) (l0 : Int → Int → tFuncD → Option spec_CountOf.R) (a0 : Int) (a1 : Int) (a2 : tFuncD) : Option spec_CountOf.R := bif decide (a1 < ((List.length a2.2.2.1 : Nat) : Int)) then (bif (decide (0 ≤ a1)) && (decide (a1 < ((List.length a2.2.2.1 : Nat) : Int))) then (bif (decide (0 ≤ a1)) && (decide (a1 < ((List.length a2.2.2.1 : Nat) : Int))) then (l0 (IntKind.wrap .i64 (a0 + (IntKind.wrap .i64 (((List.length ((List.getD a2.2.2.1 (Int.toNat a1) tBlockZ).1) : Nat) : Int) + ((List.length ((List.getD a2.2.2.1 (Int.toNat a1) tBlockZ).2.1) : Nat) : Int))))) (IntKind.wrap .i64 (a1 + 1)) a2) else none) else none) else (some (((a0, ()), ()), ()))
def spec_CountOf.all : Nat → (Int → Int → tFuncD → Option spec_CountOf.R) × Unit
  | 0 => (fun _ _ _ => none, ())
  | k + 1 => (spec_CountOf.l0_ k (spec_CountOf.all k).1, ())
def spec_CountOf.l0 (k : Nat) : Int → Int → tFuncD → Option spec_CountOf.R := (spec_CountOf.all k).1
def spec_CountOf.f (k : Nat) (a0 : tFuncD) : Option spec_CountOf.R := spec_CountOf.l0 k ((List.length a0.1 : Nat) : Int) 0 a0
def spec_CountOf.s (k : Nat) : FS := ⟨[⟨true, [.lst (.int .i64), .int .i64, .lst tBlock]⟩], [], false, [⟨false, [.int .i64]⟩], [], [], fun x => spec_CountOf.f k x.1.1⟩
def spec_CountOf.E (k : Nat) : Ents := []
def spec_CountOf.L0 (l : Int → Int → tFuncD → Option spec_CountOf.R) : LS spec_CountOf.R := ⟨[], [(1, ⟨false, [.ptr 100000 0]⟩), (3, ⟨false, [.int .i64]⟩), (4, ⟨false, [.int .i64]⟩)], [(100000, .box [.lst (.int .i64), .int .i64, .lst tBlock])], fun x => l x.1.2.1.1 x.1.2.2.1.1 x.2.1⟩
def spec_CountOf.L (l0 : Int → Int → tFuncD → Option spec_CountOf.R) : List (LS spec_CountOf.R) := [spec_CountOf.L0 l0]
def spec_CountOf.c : Code := Tryz.f25.body.getD .skip
theorem spec_CountOf.eq (k : Nat) (x) : (spec_CountOf.s k).pf x = execF tab (spec_CountOf.E k) Tryz.f25 spec_CountOf.c (spec_CountOf.s k) (spec_CountOf.L (spec_CountOf.l0 k)) x := by kernel_rfl
theorem spec_CountOf.r0 (l0 : Int → Int → tFuncD → Option spec_CountOf.R) (k : Nat) (x) : spec_CountOf.l0_ k l0 x.1.2.1.1 x.1.2.2.1.1 x.2.1 = roundOf tab (spec_CountOf.E k) (spec_CountOf.L l0) spec_CountOf.c (fin tab Tryz.f25 (spec_CountOf.s k)) 0 (spec_CountOf.L0 l0) x := by kernel_rfl
theorem spec_CountOf.sound : ∀ k, Sound Tryz.prog 25 (spec_CountOf.s k) := sound_of mixed tab_ok (f := 25) (fn := Tryz.f25) (c := spec_CountOf.c) (by kernel_rfl) (by kernel_rfl) (by kernel_rfl) ⟨[⟨true, [.lst (.int .i64), .int .i64, .lst tBlock]⟩], [], false, [⟨false, [.int .i64]⟩], [], []⟩ (by kernel_rfl) (by kernel_rfl) (fun k => (spec_CountOf.s k).pf) spec_CountOf.E (fun k => EntsOK.nil) (fun k => spec_CountOf.L (spec_CountOf.l0 k)) (fun k => ⟨rfl, trivial⟩) ⟨fun _ => rfl, trivial⟩ (fun k => ⟨⟨(spec_CountOf.L0 (spec_CountOf.l0 (k + 1))).l, rfl, fun x => spec_CountOf.r0 (spec_CountOf.l0 k) k x⟩, trivial⟩) spec_CountOf.eq
end
end Go.Proofs.YtebgkcjpocfmmaaGreat.V
namespace Go.Proofs.YtebgkcjpocfmmaaGreat.V
open Go
set_option linter.unusedVariables false
noncomputable section
/-! ### spec.WidthOk: function 140 -/
abbrev spec_WidthOk.R := (((Bool × Unit) × Unit) × Unit)
def spec_WidthOk.f (k : Nat) (a0 : Int) : Option spec_WidthOk.R := bif decide (a0 = 1) then (some (((true, ()), ()), ())) else (bif decide (a0 = 8) then (some (((true, ()), ()), ())) else (bif decide (a0 = 16) then (some (((true, ()), ()), ())) else (some (((decide (a0 = 32), ()), ()), ()))))
def spec_WidthOk.s (k : Nat) : FS := ⟨[⟨false, [.int .i64]⟩], [], false, [⟨false, [.bool]⟩], [], [], fun x => spec_WidthOk.f k x.1.1.1⟩
def spec_WidthOk.E (k : Nat) : Ents := []
def spec_WidthOk.L : List (LS spec_WidthOk.R) := []
def spec_WidthOk.c : Code := Tryz.f140.body.getD .skip
theorem spec_WidthOk.eq (k : Nat) (x) : (spec_WidthOk.s k).pf x = execF tab (spec_WidthOk.E k) Tryz.f140 spec_WidthOk.c (spec_WidthOk.s k) spec_WidthOk.L x := by kernel_rfl
theorem spec_WidthOk.sound : ∀ k, Sound Tryz.prog 140 (spec_WidthOk.s k) := sound_of mixed tab_ok (f := 140) (fn := Tryz.f140) (c := spec_WidthOk.c) (by kernel_rfl) (by kernel_rfl) (by kernel_rfl) ⟨[⟨false, [.int .i64]⟩], [], false, [⟨false, [.bool]⟩], [], []⟩ (by kernel_rfl) (by kernel_rfl) (fun k => (spec_WidthOk.s k).pf) spec_WidthOk.E (fun k => EntsOK.nil) (fun k => spec_WidthOk.L) (fun k => trivial) trivial (fun k => trivial) spec_WidthOk.eq
end
end Go.Proofs.YtebgkcjpocfmmaaGreat.V
namespace Go.Proofs.YtebgkcjpocfmmaaGreat.V
open Go
set_option linter.unusedVariables false
noncomputable section
/-! ### spec.l1Copy: function 51 -/
abbrev spec_l1Copy.R := (((Unit × Unit) × Unit) × ((List Int) × Unit))
def spec_l1Copy.f (k : Nat) (a0 : List Int) : Option spec_l1Copy.R := bif decide ((List.length ([] : List Int) + List.length a0) * 8 ≤ 140737488355328) then (some ((((), ()), ()), (([] : List Int) ++ a0, ()))) else none
def spec_l1Copy.s (k : Nat) : FS := ⟨[⟨false, [.lst (.int .i64)]⟩], [], false, [⟨false, [.own 100]⟩], [(100, .row true (.int .i64))], [], fun x => spec_l1Copy.f k x.1.1.1⟩
def spec_l1Copy.E (k : Nat) : Ents := []
def spec_l1Copy.L : List (LS spec_l1Copy.R) := []
def spec_l1Copy.c : Code := Tryz.f51.body.getD .skip
theorem spec_l1Copy.eq (k : Nat) (x) : (spec_l1Copy.s k).pf x = execF tab (spec_l1Copy.E k) Tryz.f51 spec_l1Copy.c (spec_l1Copy.s k) spec_l1Copy.L x := by kernel_rfl
theorem spec_l1Copy.sound : ∀ k, Sound Tryz.prog 51 (spec_l1Copy.s k) := sound_of mixed tab_ok (f := 51) (fn := Tryz.f51) (c := spec_l1Copy.c) (by kernel_rfl) (by kernel_rfl) (by kernel_rfl) ⟨[⟨false, [.lst (.int .i64)]⟩], [], false, [⟨false, [.own 100]⟩], [(100, .row true (.int .i64))], []⟩ (by kernel_rfl) (by kernel_rfl) (fun k => (spec_l1Copy.s k).pf) spec_l1Copy.E (fun k => EntsOK.nil) (fun k => spec_l1Copy.L) (fun k => trivial) trivial (fun k => trivial) spec_l1Copy.eq
end
end Go.Proofs.YtebgkcjpocfmmaaGreat.V
namespace Go.Proofs.YtebgkcjpocfmmaaGreat.V
open Go
set_option linter.unusedVariables false
noncomputable section
/-! ### spec.l2Operands: function 54 -/
abbrev spec_l2Operands.R := (((Unit × Unit) × Unit) × ((List Int) × Unit))
def spec_l2Operands.f (k : Nat) (a0 : tInstD) : Option spec_l2Operands.R := Option.bind (spec_l1In.f k a0.1 1 17) fun r1 => bif r1.1.1.1 then (bif r1.1.1.1 then (some ((((), ()), ()), ([a0.2.2.1, a0.2.2.2.1], ()))) else (Option.bind (spec_l1In.f k a0.1 18 20) fun r2 => bif r2.1.1.1 then (bif r2.1.1.1 then (some ((((), ()), ()), ([a0.2.2.1], ()))) else (bif decide (a0.1 = 22) then (some ((((), ()), ()), ([a0.2.2.1, a0.2.2.2.1, a0.2.2.2.2.1], ()))) else (bif decide (a0.1 = 26) then (Option.bind (spec_l1Copy.f k a0.2.2.2.2.2.2.1) fun r3 => some ((((), ()), ()), (r3.2.1, ()))) else (some ((((), ()), ()), (([] : List Int), ())))))) else (bif decide (a0.1 = 23) then (bif decide (a0.1 = 23) then (some ((((), ()), ()), ([a0.2.2.1], ()))) else (bif decide (a0.1 = 22) then (some ((((), ()), ()), ([a0.2.2.1, a0.2.2.2.1, a0.2.2.2.2.1], ()))) else (bif decide (a0.1 = 26) then (Option.bind (spec_l1Copy.f k a0.2.2.2.2.2.2.1) fun r4 => some ((((), ()), ()), (r4.2.1, ()))) else (some ((((), ()), ()), (([] : List Int), ())))))) else (bif decide (a0.1 = 25) then (bif decide (a0.1 = 25) then (some ((((), ()), ()), ([a0.2.2.1], ()))) else (bif decide (a0.1 = 22) then (some ((((), ()), ()), ([a0.2.2.1, a0.2.2.2.1, a0.2.2.2.2.1], ()))) else (bif decide (a0.1 = 26) then (Option.bind (spec_l1Copy.f k a0.2.2.2.2.2.2.1) fun r5 => some ((((), ()), ()), (r5.2.1, ()))) else (some ((((), ()), ()), (([] : List Int), ())))))) else (bif decide (a0.1 = 27) then (some ((((), ()), ()), ([a0.2.2.1], ()))) else (bif decide (a0.1 = 22) then (some ((((), ()), ()), ([a0.2.2.1, a0.2.2.2.1, a0.2.2.2.2.1], ()))) else (bif decide (a0.1 = 26) then (Option.bind (spec_l1Copy.f k a0.2.2.2.2.2.2.1) fun r6 => some ((((), ()), ()), (r6.2.1, ()))) else (some ((((), ()), ()), (([] : List Int), ())))))))))) else (bif decide (a0.1 = 24) then (some ((((), ()), ()), ([a0.2.2.1, a0.2.2.2.1], ()))) else (Option.bind (spec_l1In.f k a0.1 18 20) fun r7 => bif r7.1.1.1 then (bif r7.1.1.1 then (some ((((), ()), ()), ([a0.2.2.1], ()))) else (bif decide (a0.1 = 22) then (some ((((), ()), ()), ([a0.2.2.1, a0.2.2.2.1, a0.2.2.2.2.1], ()))) else (bif decide (a0.1 = 26) then (Option.bind (spec_l1Copy.f k a0.2.2.2.2.2.2.1) fun r8 => some ((((), ()), ()), (r8.2.1, ()))) else (some ((((), ()), ()), (([] : List Int), ())))))) else (bif decide (a0.1 = 23) then (bif decide (a0.1 = 23) then (some ((((), ()), ()), ([a0.2.2.1], ()))) else (bif decide (a0.1 = 22) then (some ((((), ()), ()), ([a0.2.2.1, a0.2.2.2.1, a0.2.2.2.2.1], ()))) else (bif decide (a0.1 = 26) then (Option.bind (spec_l1Copy.f k a0.2.2.2.2.2.2.1) fun r9 => some ((((), ()), ()), (r9.2.1, ()))) else (some ((((), ()), ()), (([] : List Int), ())))))) else (bif decide (a0.1 = 25) then (bif decide (a0.1 = 25) then (some ((((), ()), ()), ([a0.2.2.1], ()))) else (bif decide (a0.1 = 22) then (some ((((), ()), ()), ([a0.2.2.1, a0.2.2.2.1, a0.2.2.2.2.1], ()))) else (bif decide (a0.1 = 26) then (Option.bind (spec_l1Copy.f k a0.2.2.2.2.2.2.1) fun r10 => some ((((), ()), ()), (r10.2.1, ()))) else (some ((((), ()), ()), (([] : List Int), ())))))) else (bif decide (a0.1 = 27) then (some ((((), ()), ()), ([a0.2.2.1], ()))) else (bif decide (a0.1 = 22) then (some ((((), ()), ()), ([a0.2.2.1, a0.2.2.2.1, a0.2.2.2.2.1], ()))) else (bif decide (a0.1 = 26) then (Option.bind (spec_l1Copy.f k a0.2.2.2.2.2.2.1) fun r11 => some ((((), ()), ()), (r11.2.1, ()))) else (some ((((), ()), ()), (([] : List Int), ()))))))))))
def spec_l2Operands.s (k : Nat) : FS := ⟨[⟨true, [.int .i64, .int .i64, .int .i64, .int .i64, .int .i64, .int .i64, .lst (.int .i64)]⟩], [], false, [⟨false, [.own 100]⟩], [(100, .row true (.int .i64))], [], fun x => spec_l2Operands.f k x.1.1⟩
def spec_l2Operands.E (k : Nat) : Ents := [(⟨38, []⟩, spec_l1In.s k), (⟨51, []⟩, spec_l1Copy.s k)]
def spec_l2Operands.L : List (LS spec_l2Operands.R) := []
def spec_l2Operands.c : Code := Tryz.f54.body.getD .skip
theorem spec_l2Operands.eq (k : Nat) (x) : (spec_l2Operands.s k).pf x = execF tab (spec_l2Operands.E k) Tryz.f54 spec_l2Operands.c (spec_l2Operands.s k) spec_l2Operands.L x := by kernel_rfl
theorem spec_l2Operands.sound : ∀ k, Sound Tryz.prog 54 (spec_l2Operands.s k) := sound_of mixed tab_ok (f := 54) (fn := Tryz.f54) (c := spec_l2Operands.c) (by kernel_rfl) (by kernel_rfl) (by kernel_rfl) ⟨[⟨true, [.int .i64, .int .i64, .int .i64, .int .i64, .int .i64, .int .i64, .lst (.int .i64)]⟩], [], false, [⟨false, [.own 100]⟩], [(100, .row true (.int .i64))], []⟩ (by kernel_rfl) (by kernel_rfl) (fun k => (spec_l2Operands.s k).pf) spec_l2Operands.E (fun k => (EntsOK.cons (spec_l1In.sound k) (EntsOK.cons (spec_l1Copy.sound k) EntsOK.nil))) (fun k => spec_l2Operands.L) (fun k => trivial) trivial (fun k => trivial) spec_l2Operands.eq
end
end Go.Proofs.YtebgkcjpocfmmaaGreat.V
namespace Go.Proofs.YtebgkcjpocfmmaaGreat.V
open Go
set_option linter.unusedVariables false
noncomputable section
/-! ### spec.l1Top: function 177 -/
abbrev spec_l1Top.R := (((Int × Unit) × Unit) × Unit)
def spec_l1Top.f (k : Nat) (a0 : Int) : Option spec_l1Top.R := bif decide (0 ≤ IntKind.wrap .u64 a0) then (some (((V.shl .i64 1 (IntKind.wrap .u64 a0), ()), ()), ())) else none
def spec_l1Top.s (k : Nat) : FS := ⟨[⟨false, [.int .i64]⟩], [], false, [⟨false, [.int .i64]⟩], [], [], fun x => spec_l1Top.f k x.1.1.1⟩
def spec_l1Top.E (k : Nat) : Ents := []
def spec_l1Top.L : List (LS spec_l1Top.R) := []
def spec_l1Top.c : Code := Tryz.f177.body.getD .skip
theorem spec_l1Top.eq (k : Nat) (x) : (spec_l1Top.s k).pf x = execF tab (spec_l1Top.E k) Tryz.f177 spec_l1Top.c (spec_l1Top.s k) spec_l1Top.L x := by kernel_rfl
theorem spec_l1Top.sound : ∀ k, Sound Tryz.prog 177 (spec_l1Top.s k) := sound_of mixed tab_ok (f := 177) (fn := Tryz.f177) (c := spec_l1Top.c) (by kernel_rfl) (by kernel_rfl) (by kernel_rfl) ⟨[⟨false, [.int .i64]⟩], [], false, [⟨false, [.int .i64]⟩], [], []⟩ (by kernel_rfl) (by kernel_rfl) (fun k => (spec_l1Top.s k).pf) spec_l1Top.E (fun k => EntsOK.nil) (fun k => spec_l1Top.L) (fun k => trivial) trivial (fun k => trivial) spec_l1Top.eq
end
end Go.Proofs.YtebgkcjpocfmmaaGreat.V
namespace Go.Proofs.YtebgkcjpocfmmaaGreat.V
open Go
set_option linter.unusedVariables false
noncomputable section
/-! ### spec.l1Value: function 131 -/
abbrev spec_l1Value.R := (((Bool × Unit) × Unit) × Unit)
def spec_l1Value.f (k : Nat) (a0 : Int) (a1 : Int) : Option spec_l1Value.R := Option.bind (spec_WidthOk.f k a0) fun r1 => bif r1.1.1.1 then (Option.bind (spec_l1Top.f k a0) fun r2 => Option.bind (spec_l1In.f k a1 0 (IntKind.wrap .i64 (r2.1.1.1 - 1))) fun r3 => some (((r3.1.1.1, ()), ()), ())) else (some (((false, ()), ()), ()))
def spec_l1Value.s (k : Nat) : FS := ⟨[⟨false, [.int .i64]⟩, ⟨false, [.int .i64]⟩], [], false, [⟨false, [.bool]⟩], [], [], fun x => spec_l1Value.f k x.1.1.1 x.1.2.1.1⟩
def spec_l1Value.E (k : Nat) : Ents := [(⟨140, []⟩, spec_WidthOk.s k), (⟨177, []⟩, spec_l1Top.s k), (⟨38, []⟩, spec_l1In.s k)]
def spec_l1Value.L : List (LS spec_l1Value.R) := []
def spec_l1Value.c : Code := Tryz.f131.body.getD .skip
theorem spec_l1Value.eq (k : Nat) (x) : (spec_l1Value.s k).pf x = execF tab (spec_l1Value.E k) Tryz.f131 spec_l1Value.c (spec_l1Value.s k) spec_l1Value.L x := by kernel_rfl
theorem spec_l1Value.sound : ∀ k, Sound Tryz.prog 131 (spec_l1Value.s k) := sound_of mixed tab_ok (f := 131) (fn := Tryz.f131) (c := spec_l1Value.c) (by kernel_rfl) (by kernel_rfl) (by kernel_rfl) ⟨[⟨false, [.int .i64]⟩, ⟨false, [.int .i64]⟩], [], false, [⟨false, [.bool]⟩], [], []⟩ (by kernel_rfl) (by kernel_rfl) (fun k => (spec_l1Value.s k).pf) spec_l1Value.E (fun k => (EntsOK.cons (spec_WidthOk.sound k) (EntsOK.cons (spec_l1Top.sound k) (EntsOK.cons (spec_l1In.sound k) EntsOK.nil)))) (fun k => spec_l1Value.L) (fun k => trivial) trivial (fun k => trivial) spec_l1Value.eq
end
end Go.Proofs.YtebgkcjpocfmmaaGreat.V
namespace Go.Proofs.YtebgkcjpocfmmaaGreat.V
open Go
set_option linter.unusedVariables false
noncomputable section
/-! ### spec.l2Inst: function 141 -/
abbrev spec_l2Inst.R := (((Bool × Unit) × Unit) × Unit)
def spec_l2Inst.l0_ (k : Nat) (l0 : Int → Int → Int → tInstD → (List Int) → Option spec_l2Inst.R) (a0 : Int) (a1 : Int) (a2 : Int) (a3 : tInstD) (a4 : List Int) : Option spec_l2Inst.R := bif decide (a2 < ((List.length a4 : Nat) : Int)) then (bif (decide (0 ≤ a2)) && (decide (a2 < ((List.length a4 : Nat) : Int))) then (Option.bind (spec_l1In.f k (List.getD a4 (Int.toNat a2) 0) 0 (IntKind.wrap .i64 (a0 - 1))) fun r1 => bif !r1.1.1.1 then (some (((false, ()), ()), ())) else (l0 a0 a1 (IntKind.wrap .i64 (a2 + 1)) a3 a4)) else none) else (bif decide (a3.1 = 24) then (bif !(true == (decide (a3.2.1 = 0))) then (some (((false, ()), ()), ())) else (bif decide (4 < ((List.length a3.2.2.2.2.2.2.1 : Nat) : Int)) then (some (((false, ()), ()), ())) else (bif decide (a3.1 = 26) then (bif decide (0 < 1) then (bif !decide (a3.2.2.1 = 0) then (some (((false, ()), ()), ())) else (bif decide (0 < 2) then (bif !decide (a3.2.2.2.1 = 0) then (some (((false, ()), ()), ())) else (bif decide (0 < 3) then (bif !decide (a3.2.2.2.2.1 = 0) then (some (((false, ()), ()), ())) else (bif decide (a3.1 = 21) then (Option.bind (spec_l1Value.f k a3.2.1 a3.2.2.2.2.2.1) fun r2 => some (((r2.1.1.1, ()), ()), ())) else (bif decide (a3.1 = 26) then (Option.bind (spec_l1In.f k a3.2.2.2.2.2.1 0 (IntKind.wrap .i64 (a1 - 1))) fun r3 => some (((r3.1.1.1, ()), ()), ())) else (bif decide (a3.1 = 23) then (bif decide (a3.2.1 = 8) then (some (((decide (a3.2.2.2.2.2.1 = 0), ()), ()), ())) else (some (((false, ()), ()), ()))) else (some (((decide (a3.2.2.2.2.2.1 = 0), ()), ()), ())))))) else (bif decide (a3.1 = 21) then (Option.bind (spec_l1Value.f k a3.2.1 a3.2.2.2.2.2.1) fun r4 => some (((r4.1.1.1, ()), ()), ())) else (bif decide (a3.1 = 26) then (Option.bind (spec_l1In.f k a3.2.2.2.2.2.1 0 (IntKind.wrap .i64 (a1 - 1))) fun r5 => some (((r5.1.1.1, ()), ()), ())) else (bif decide (a3.1 = 23) then (bif decide (a3.2.1 = 8) then (some (((decide (a3.2.2.2.2.2.1 = 0), ()), ()), ())) else (some (((false, ()), ()), ()))) else (some (((decide (a3.2.2.2.2.2.1 = 0), ()), ()), ()))))))) else (bif decide (0 < 3) then (bif !decide (a3.2.2.2.2.1 = 0) then (some (((false, ()), ()), ())) else (bif decide (a3.1 = 21) then (Option.bind (spec_l1Value.f k a3.2.1 a3.2.2.2.2.2.1) fun r6 => some (((r6.1.1.1, ()), ()), ())) else (bif decide (a3.1 = 26) then (Option.bind (spec_l1In.f k a3.2.2.2.2.2.1 0 (IntKind.wrap .i64 (a1 - 1))) fun r7 => some (((r7.1.1.1, ()), ()), ())) else (bif decide (a3.1 = 23) then (bif decide (a3.2.1 = 8) then (some (((decide (a3.2.2.2.2.2.1 = 0), ()), ()), ())) else (some (((false, ()), ()), ()))) else (some (((decide (a3.2.2.2.2.2.1 = 0), ()), ()), ())))))) else (bif decide (a3.1 = 21) then (Option.bind (spec_l1Value.f k a3.2.1 a3.2.2.2.2.2.1) fun r8 => some (((r8.1.1.1, ()), ()), ())) else (bif decide (a3.1 = 26) then (Option.bind (spec_l1In.f k a3.2.2.2.2.2.1 0 (IntKind.wrap .i64 (a1 - 1))) fun r9 => some (((r9.1.1.1, ()), ()), ())) else (bif decide (a3.1 = 23) then (bif decide (a3.2.1 = 8) then (some (((decide (a3.2.2.2.2.2.1 = 0), ()), ()), ())) else (some (((false, ()), ()), ()))) else (some (((decide (a3.2.2.2.2.2.1 = 0), ()), ()), ())))))))) else (bif decide (0 < 2) then (bif !decide (a3.2.2.2.1 = 0) then (some (((false, ()), ()), ())) else (bif decide (0 < 3) then (bif !decide (a3.2.2.2.2.1 = 0) then (some (((false, ()), ()), ())) else (bif decide (a3.1 = 21) then (Option.bind (spec_l1Value.f k a3.2.1 a3.2.2.2.2.2.1) fun r10 => some (((r10.1.1.1, ()), ()), ())) else (bif decide (a3.1 = 26) then (Option.bind (spec_l1In.f k a3.2.2.2.2.2.1 0 (IntKind.wrap .i64 (a1 - 1))) fun r11 => some (((r11.1.1.1, ()), ()), ())) else (bif decide (a3.1 = 23) then (bif decide (a3.2.1 = 8) then (some (((decide (a3.2.2.2.2.2.1 = 0), ()), ()), ())) else (some (((false, ()), ()), ()))) else (some (((decide (a3.2.2.2.2.2.1 = 0), ()), ()), ())))))) else (bif decide (a3.1 = 21) then (Option.bind (spec_l1Value.f k a3.2.1 a3.2.2.2.2.2.1) fun r12 => some (((r12.1.1.1, ()), ()), ())) else (bif decide (a3.1 = 26) then (Option.bind (spec_l1In.f k a3.2.2.2.2.2.1 0 (IntKind.wrap .i64 (a1 - 1))) fun r13 => some (((r13.1.1.1, ()), ()), ())) else (bif decide (a3.1 = 23) then (bif decide (a3.2.1 = 8) then (some (((decide (a3.2.2.2.2.2.1 = 0), ()), ()), ())) else (some (((false, ()), ()), ()))) else (some (((decide (a3.2.2.2.2.2.1 = 0), ()), ()), ()))))))) else (bif decide (0 < 3) then (bif !decide (a3.2.2.2.2.1 = 0) then (some (((false, ()), ()), ())) else (bif decide (a3.1 = 21) then (Option.bind (spec_l1Value.f k a3.2.1 a3.2.2.2.2.2.1) fun r14 => some (((r14.1.1.1, ()), ()), ())) else (bif decide (a3.1 = 26) then (Option.bind (spec_l1In.f k a3.2.2.2.2.2.1 0 (IntKind.wrap .i64 (a1 - 1))) fun r15 => some (((r15.1.1.1, ()), ()), ())) else (bif decide (a3.1 = 23) then (bif decide (a3.2.1 = 8) then (some (((decide (a3.2.2.2.2.2.1 = 0), ()), ()), ())) else (some (((false, ()), ()), ()))) else (some (((decide (a3.2.2.2.2.2.1 = 0), ()), ()), ())))))) else (bif decide (a3.1 = 21) then (Option.bind (spec_l1Value.f k a3.2.1 a3.2.2.2.2.2.1) fun r16 => some (((r16.1.1.1, ()), ()), ())) else (bif decide (a3.1 = 26) then (Option.bind (spec_l1In.f k a3.2.2.2.2.2.1 0 (IntKind.wrap .i64 (a1 - 1))) fun r17 => some (((r17.1.1.1, ()), ()), ())) else (bif decide (a3.1 = 23) then (bif decide (a3.2.1 = 8) then (some (((decide (a3.2.2.2.2.2.1 = 0), ()), ()), ())) else (some (((false, ()), ()), ()))) else (some (((decide (a3.2.2.2.2.2.1 = 0), ()), ()), ())))))))) else (bif decide (((List.length a4 : Nat) : Int) < 1) then (bif !decide (a3.2.2.1 = 0) then (some (((false, ()), ()), ())) else (bif decide (((List.length a4 : Nat) : Int) < 2) then (bif !decide (a3.2.2.2.1 = 0) then (some (((false, ()), ()), ())) else (bif decide (((List.length a4 : Nat) : Int) < 3) then (bif !decide (a3.2.2.2.2.1 = 0) then (some (((false, ()), ()), ())) else (bif decide (a3.1 = 21) then (Option.bind (spec_l1Value.f k a3.2.1 a3.2.2.2.2.2.1) fun r18 => some (((r18.1.1.1, ()), ()), ())) else (bif decide (a3.1 = 26) then (Option.bind (spec_l1In.f k a3.2.2.2.2.2.1 0 (IntKind.wrap .i64 (a1 - 1))) fun r19 => some (((r19.1.1.1, ()), ()), ())) else (bif decide (a3.1 = 23) then (bif decide (a3.2.1 = 8) then (some (((decide (a3.2.2.2.2.2.1 = 0), ()), ()), ())) else (some (((false, ()), ()), ()))) else (some (((decide (a3.2.2.2.2.2.1 = 0), ()), ()), ())))))) else (bif decide (a3.1 = 21) then (Option.bind (spec_l1Value.f k a3.2.1 a3.2.2.2.2.2.1) fun r20 => some (((r20.1.1.1, ()), ()), ())) else (bif decide (a3.1 = 26) then (Option.bind (spec_l1In.f k a3.2.2.2.2.2.1 0 (IntKind.wrap .i64 (a1 - 1))) fun r21 => some (((r21.1.1.1, ()), ()), ())) else (bif decide (a3.1 = 23) then (bif decide (a3.2.1 = 8) then (some (((decide (a3.2.2.2.2.2.1 = 0), ()), ()), ())) else (some (((false, ()), ()), ()))) else (some (((decide (a3.2.2.2.2.2.1 = 0), ()), ()), ()))))))) else (bif decide (((List.length a4 : Nat) : Int) < 3) then (bif !decide (a3.2.2.2.2.1 = 0) then (some (((false, ()), ()), ())) else (bif decide (a3.1 = 21) then (Option.bind (spec_l1Value.f k a3.2.1 a3.2.2.2.2.2.1) fun r22 => some (((r22.1.1.1, ()), ()), ())) else (bif decide (a3.1 = 26) then (Option.bind (spec_l1In.f k a3.2.2.2.2.2.1 0 (IntKind.wrap .i64 (a1 - 1))) fun r23 => some (((r23.1.1.1, ()), ()), ())) else (bif decide (a3.1 = 23) then (bif decide (a3.2.1 = 8) then (some (((decide (a3.2.2.2.2.2.1 = 0), ()), ()), ())) else (some (((false, ()), ()), ()))) else (some (((decide (a3.2.2.2.2.2.1 = 0), ()), ()), ())))))) else (bif decide (a3.1 = 21) then (Option.bind (spec_l1Value.f k a3.2.1 a3.2.2.2.2.2.1) fun r24 => some (((r24.1.1.1, ()), ()), ())) else (bif decide (a3.1 = 26) then (Option.bind (spec_l1In.f k a3.2.2.2.2.2.1 0 (IntKind.wrap .i64 (a1 - 1))) fun r25 => some (((r25.1.1.1, ()), ()), ())) else (bif decide (a3.1 = 23) then (bif decide (a3.2.1 = 8) then (some (((decide (a3.2.2.2.2.2.1 = 0), ()), ()), ())) else (some (((false, ()), ()), ()))) else (some (((decide (a3.2.2.2.2.2.1 = 0), ()), ()), ())))))))) else (bif decide (((List.length a4 : Nat) : Int) < 2) then (bif !decide (a3.2.2.2.1 = 0) then (some (((false, ()), ()), ())) else (bif decide (((List.length a4 : Nat) : Int) < 3) then (bif !decide (a3.2.2.2.2.1 = 0) then (some (((false, ()), ()), ())) else (bif decide (a3.1 = 21) then (Option.bind (spec_l1Value.f k a3.2.1 a3.2.2.2.2.2.1) fun r26 => some (((r26.1.1.1, ()), ()), ())) else (bif decide (a3.1 = 26) then (Option.bind (spec_l1In.f k a3.2.2.2.2.2.1 0 (IntKind.wrap .i64 (a1 - 1))) fun r27 => some (((r27.1.1.1, ()), ()), ())) else (bif decide (a3.1 = 23) then (bif decide (a3.2.1 = 8) then (some (((decide (a3.2.2.2.2.2.1 = 0), ()), ()), ())) else (some (((false, ()), ()), ()))) else (some (((decide (a3.2.2.2.2.2.1 = 0), ()), ()), ())))))) else (bif decide (a3.1 = 21) then (Option.bind (spec_l1Value.f k a3.2.1 a3.2.2.2.2.2.1) fun r28 => some (((r28.1.1.1, ()), ()), ())) else (bif decide (a3.1 = 26) then (Option.bind (spec_l1In.f k a3.2.2.2.2.2.1 0 (IntKind.wrap .i64 (a1 - 1))) fun r29 => some (((r29.1.1.1, ()), ()), ())) else (bif decide (a3.1 = 23) then (bif decide (a3.2.1 = 8) then (some (((decide (a3.2.2.2.2.2.1 = 0), ()), ()), ())) else (some (((false, ()), ()), ()))) else (some (((decide (a3.2.2.2.2.2.1 = 0), ()), ()), ()))))))) else (bif decide (((List.length a4 : Nat) : Int) < 3) then (bif !decide (a3.2.2.2.2.1 = 0) then (some (((false, ()), ()), ())) else (bif decide (a3.1 = 21) then (Option.bind (spec_l1Value.f k a3.2.1 a3.2.2.2.2.2.1) fun r30 => some (((r30.1.1.1, ()), ()), ())) else (bif decide (a3.1 = 26) then (Option.bind (spec_l1In.f k a3.2.2.2.2.2.1 0 (IntKind.wrap .i64 (a1 - 1))) fun r31 => some (((r31.1.1.1, ()), ()), ())) else (bif decide (a3.1 = 23) then (bif decide (a3.2.1 = 8) then (some (((decide (a3.2.2.2.2.2.1 = 0), ()), ()), ())) else (some (((false, ()), ()), ()))) else (some (((decide (a3.2.2.2.2.2.1 = 0), ()), ()), ())))))) else (bif decide (a3.1 = 21) then (Option.bind (spec_l1Value.f k a3.2.1 a3.2.2.2.2.2.1) fun r32 => some (((r32.1.1.1, ()), ()), ())) else (bif decide (a3.1 = 26) then (Option.bind (spec_l1In.f k a3.2.2.2.2.2.1 0 (IntKind.wrap .i64 (a1 - 1))) fun r33 => some (((r33.1.1.1, ()), ()), ())) else (bif decide (a3.1 = 23) then (bif decide (a3.2.1 = 8) then (some (((decide (a3.2.2.2.2.2.1 = 0), ()), ()), ())) else (some (((false, ()), ()), ()))) else (some (((decide (a3.2.2.2.2.2.1 = 0), ()), ()), ()))))))))))) else (bif !((decide (a3.1 = 25)) == (decide (a3.2.1 = 0))) then (some (((false, ()), ()), ())) else (bif !(decide (a3.1 = 25)) then (Option.bind (spec_WidthOk.f k a3.2.1) fun r34 => bif !r34.1.1.1 then (some (((false, ()), ()), ())) else (bif decide (4 < ((List.length a3.2.2.2.2.2.2.1 : Nat) : Int)) then (some (((false, ()), ()), ())) else (bif decide (a3.1 = 26) then (bif decide (0 < 1) then (bif !decide (a3.2.2.1 = 0) then (some (((false, ()), ()), ())) else (bif decide (0 < 2) then (bif !decide (a3.2.2.2.1 = 0) then (some (((false, ()), ()), ())) else (bif decide (0 < 3) then (bif !decide (a3.2.2.2.2.1 = 0) then (some (((false, ()), ()), ())) else (bif decide (a3.1 = 21) then (Option.bind (spec_l1Value.f k a3.2.1 a3.2.2.2.2.2.1) fun r35 => some (((r35.1.1.1, ()), ()), ())) else (bif decide (a3.1 = 26) then (Option.bind (spec_l1In.f k a3.2.2.2.2.2.1 0 (IntKind.wrap .i64 (a1 - 1))) fun r36 => some (((r36.1.1.1, ()), ()), ())) else (bif decide (a3.1 = 23) then (bif decide (a3.2.1 = 8) then (some (((decide (a3.2.2.2.2.2.1 = 0), ()), ()), ())) else (some (((false, ()), ()), ()))) else (some (((decide (a3.2.2.2.2.2.1 = 0), ()), ()), ())))))) else (bif decide (a3.1 = 21) then (Option.bind (spec_l1Value.f k a3.2.1 a3.2.2.2.2.2.1) fun r37 => some (((r37.1.1.1, ()), ()), ())) else (bif decide (a3.1 = 26) then (Option.bind (spec_l1In.f k a3.2.2.2.2.2.1 0 (IntKind.wrap .i64 (a1 - 1))) fun r38 => some (((r38.1.1.1, ()), ()), ())) else (bif decide (a3.1 = 23) then (bif decide (a3.2.1 = 8) then (some (((decide (a3.2.2.2.2.2.1 = 0), ()), ()), ())) else (some (((false, ()), ()), ()))) else (some (((decide (a3.2.2.2.2.2.1 = 0), ()), ()), ()))))))) else (bif decide (0 < 3) then (bif !decide (a3.2.2.2.2.1 = 0) then (some (((false, ()), ()), ())) else (bif decide (a3.1 = 21) then (Option.bind (spec_l1Value.f k a3.2.1 a3.2.2.2.2.2.1) fun r39 => some (((r39.1.1.1, ()), ()), ())) else (bif decide (a3.1 = 26) then (Option.bind (spec_l1In.f k a3.2.2.2.2.2.1 0 (IntKind.wrap .i64 (a1 - 1))) fun r40 => some (((r40.1.1.1, ()), ()), ())) else (bif decide (a3.1 = 23) then (bif decide (a3.2.1 = 8) then (some (((decide (a3.2.2.2.2.2.1 = 0), ()), ()), ())) else (some (((false, ()), ()), ()))) else (some (((decide (a3.2.2.2.2.2.1 = 0), ()), ()), ())))))) else (bif decide (a3.1 = 21) then (Option.bind (spec_l1Value.f k a3.2.1 a3.2.2.2.2.2.1) fun r41 => some (((r41.1.1.1, ()), ()), ())) else (bif decide (a3.1 = 26) then (Option.bind (spec_l1In.f k a3.2.2.2.2.2.1 0 (IntKind.wrap .i64 (a1 - 1))) fun r42 => some (((r42.1.1.1, ()), ()), ())) else (bif decide (a3.1 = 23) then (bif decide (a3.2.1 = 8) then (some (((decide (a3.2.2.2.2.2.1 = 0), ()), ()), ())) else (some (((false, ()), ()), ()))) else (some (((decide (a3.2.2.2.2.2.1 = 0), ()), ()), ())))))))) else (bif decide (0 < 2) then (bif !decide (a3.2.2.2.1 = 0) then (some (((false, ()), ()), ())) else (bif decide (0 < 3) then (bif !decide (a3.2.2.2.2.1 = 0) then (some (((false, ()), ()), ())) else (bif decide (a3.1 = 21) then (Option.bind (spec_l1Value.f k a3.2.1 a3.2.2.2.2.2.1) fun r43 => some (((r43.1.1.1, ()), ()), ())) else (bif decide (a3.1 = 26) then (Option.bind (spec_l1In.f k a3.2.2.2.2.2.1 0 (IntKind.wrap .i64 (a1 - 1))) fun r44 => some (((r44.1.1.1, ()), ()), ())) else (bif decide (a3.1 = 23) then (bif decide (a3.2.1 = 8) then (some (((decide (a3.2.2.2.2.2.1 = 0), ()), ()), ())) else (some (((false, ()), ()), ()))) else (some (((decide (a3.2.2.2.2.2.1 = 0), ()), ()), ())))))) else (bif decide (a3.1 = 21) then (Option.bind (spec_l1Value.f k a3.2.1 a3.2.2.2.2.2.1) fun r45 => some (((r45.1.1.1, ()), ()), ())) else (bif decide (a3.1 = 26) then (Option.bind (spec_l1In.f k a3.2.2.2.2.2.1 0 (IntKind.wrap .i64 (a1 - 1))) fun r46 => some (((r46.1.1.1, ()), ()), ())) else (bif decide (a3.1 = 23) then (bif decide (a3.2.1 = 8) then (some (((decide (a3.2.2.2.2.2.1 = 0), ()), ()), ())) else (some (((false, ()), ()), ()))) else (some (((decide (a3.2.2.2.2.2.1 = 0), ()), ()), ()))))))) else (bif decide (0 < 3) then (bif !decide (a3.2.2.2.2.1 = 0) then (some (((false, ()), ()), ())) else (bif decide (a3.1 = 21) then (Option.bind (spec_l1Value.f k a3.2.1 a3.2.2.2.2.2.1) fun r47 => some (((r47.1.1.1, ()), ()), ())) else (bif decide (a3.1 = 26) then (Option.bind (spec_l1In.f k a3.2.2.2.2.2.1 0 (IntKind.wrap .i64 (a1 - 1))) fun r48 => some (((r48.1.1.1, ()), ()), ())) else (bif decide (a3.1 = 23) then (bif decide (a3.2.1 = 8) then (some (((decide (a3.2.2.2.2.2.1 = 0), ()), ()), ())) else (some (((false, ()), ()), ()))) else (some (((decide (a3.2.2.2.2.2.1 = 0), ()), ()), ())))))) else (bif decide (a3.1 = 21) then (Option.bind (spec_l1Value.f k a3.2.1 a3.2.2.2.2.2.1) fun r49 => some (((r49.1.1.1, ()), ()), ())) else (bif decide (a3.1 = 26) then (Option.bind (spec_l1In.f k a3.2.2.2.2.2.1 0 (IntKind.wrap .i64 (a1 - 1))) fun r50 => some (((r50.1.1.1, ()), ()), ())) else (bif decide (a3.1 = 23) then (bif decide (a3.2.1 = 8) then (some (((decide (a3.2.2.2.2.2.1 = 0), ()), ()), ())) else (some (((false, ()), ()), ()))) else (some (((decide (a3.2.2.2.2.2.1 = 0), ()), ()), ())))))))) else (bif decide (((List.length a4 : Nat) : Int) < 1) then (bif !decide (a3.2.2.1 = 0) then (some (((false, ()), ()), ())) else (bif decide (((List.length a4 : Nat) : Int) < 2) then (bif !decide (a3.2.2.2.1 = 0) then (some (((false, ()), ()), ())) else (bif decide (((List.length a4 : Nat) : Int) < 3) then (bif !decide (a3.2.2.2.2.1 = 0) then (some (((false, ()), ()), ())) else (bif decide (a3.1 = 21) then (Option.bind (spec_l1Value.f k a3.2.1 a3.2.2.2.2.2.1) fun r51 => some (((r51.1.1.1, ()), ()), ())) else (bif decide (a3.1 = 26) then (Option.bind (spec_l1In.f k a3.2.2.2.2.2.1 0 (IntKind.wrap .i64 (a1 - 1))) fun r52 => some (((r52.1.1.1, ()), ()), ())) else (bif decide (a3.1 = 23) then (bif decide (a3.2.1 = 8) then (some (((decide (a3.2.2.2.2.2.1 = 0), ()), ()), ())) else (some (((false, ()), ()), ()))) else (some (((decide (a3.2.2.2.2.2.1 = 0), ()), ()), ())))))) else (bif decide (a3.1 = 21) then (Option.bind (spec_l1Value.f k a3.2.1 a3.2.2.2.2.2.1) fun r53 => some (((r53.1.1.1, ()), ()), ())) else (bif decide (a3.1 = 26) then (Option.bind (spec_l1In.f k a3.2.2.2.2.2.1 0 (IntKind.wrap .i64 (a1 - 1))) fun r54 => some (((r54.1.1.1, ()), ()), ())) else (bif decide (a3.1 = 23) then (bif decide (a3.2.1 = 8) then (some (((decide (a3.2.2.2.2.2.1 = 0), ()), ()), ())) else (some (((false, ()), ()), ()))) else (some (((decide (a3.2.2.2.2.2.1 = 0), ()), ()), ()))))))) else (bif decide (((List.length a4 : Nat) : Int) < 3) then (bif !decide (a3.2.2.2.2.1 = 0) then (some (((false, ()), ()), ())) else (bif decide (a3.1 = 21) then (Option.bind (spec_l1Value.f k a3.2.1 a3.2.2.2.2.2.1) fun r55 => some (((r55.1.1.1, ()), ()), ())) else (bif decide (a3.1 = 26) then (Option.bind (spec_l1In.f k a3.2.2.2.2.2.1 0 (IntKind.wrap .i64 (a1 - 1))) fun r56 => some (((r56.1.1.1, ()), ()), ())) else (bif decide (a3.1 = 23) then (bif decide (a3.2.1 = 8) then (some (((decide (a3.2.2.2.2.2.1 = 0), ()), ()), ())) else (some (((false, ()), ()), ()))) else (some (((decide (a3.2.2.2.2.2.1 = 0), ()), ()), ())))))) else (bif decide (a3.1 = 21) then (Option.bind (spec_l1Value.f k a3.2.1 a3.2.2.2.2.2.1) fun r57 => some (((r57.1.1.1, ()), ()), ())) else (bif decide (a3.1 = 26) then (Option.bind (spec_l1In.f k a3.2.2.2.2.2.1 0 (IntKind.wrap .i64 (a1 - 1))) fun r58 => some (((r58.1.1.1, ()), ()), ())) else (bif decide (a3.1 = 23) then (bif decide (a3.2.1 = 8) then (some (((decide (a3.2.2.2.2.2.1 = 0), ()), ()), ())) else (some (((false, ()), ()), ()))) else (some (((decide (a3.2.2.2.2.2.1 = 0), ()), ()), ())))))))) else (bif decide (((List.length a4 : Nat) : Int) < 2) then (bif !decide (a3.2.2.2.1 = 0) then (some (((false, ()), ()), ())) else (bif decide (((List.length a4 : Nat) : Int) < 3) then (bif !decide (a3.2.2.2.2.1 = 0) then (some (((false, ()), ()), ())) else (bif decide (a3.1 = 21) then (Option.bind (spec_l1Value.f k a3.2.1 a3.2.2.2.2.2.1) fun r59 => some (((r59.1.1.1, ()), ()), ())) else (bif decide (a3.1 = 26) then (Option.bind (spec_l1In.f k a3.2.2.2.2.2.1 0 (IntKind.wrap .i64 (a1 - 1))) fun r60 => some (((r60.1.1.1, ()), ()), ())) else (bif decide (a3.1 = 23) then (bif decide (a3.2.1 = 8) then (some (((decide (a3.2.2.2.2.2.1 = 0), ()), ()), ())) else (some (((false, ()), ()), ()))) else (some (((decide (a3.2.2.2.2.2.1 = 0), ()), ()), ())))))) else (bif decide (a3.1 = 21) then (Option.bind (spec_l1Value.f k a3.2.1 a3.2.2.2.2.2.1) fun r61 => some (((r61.1.1.1, ()), ()), ())) else (bif decide (a3.1 = 26) then (Option.bind (spec_l1In.f k a3.2.2.2.2.2.1 0 (IntKind.wrap .i64 (a1 - 1))) fun r62 => some (((r62.1.1.1, ()), ()), ())) else (bif decide (a3.1 = 23) then (bif decide (a3.2.1 = 8) then (some (((decide (a3.2.2.2.2.2.1 = 0), ()), ()), ())) else (some (((false, ()), ()), ()))) else (some (((decide (a3.2.2.2.2.2.1 = 0), ()), ()), ()))))))) else (bif decide (((List.length a4 : Nat) : Int) < 3) then (bif !decide (a3.2.2.2.2.1 = 0) then (some (((false, ()), ()), ())) else (bif decide (a3.1 = 21) then (Option.bind (spec_l1Value.f k a3.2.1 a3.2.2.2.2.2.1) fun r63 => some (((r63.1.1.1, ()), ()), ())) else (bif decide (a3.1 = 26) then (Option.bind (spec_l1In.f k a3.2.2.2.2.2.1 0 (IntKind.wrap .i64 (a1 - 1))) fun r64 => some (((r64.1.1.1, ()), ()), ())) else (bif decide (a3.1 = 23) then (bif decide (a3.2.1 = 8) then (some (((decide (a3.2.2.2.2.2.1 = 0), ()), ()), ())) else (some (((false, ()), ()), ()))) else (some (((decide (a3.2.2.2.2.2.1 = 0), ()), ()), ())))))) else (bif decide (a3.1 = 21) then (Option.bind (spec_l1Value.f k a3.2.1 a3.2.2.2.2.2.1) fun r65 => some (((r65.1.1.1, ()), ()), ())) else (bif decide (a3.1 = 26) then (Option.bind (spec_l1In.f k a3.2.2.2.2.2.1 0 (IntKind.wrap .i64 (a1 - 1))) fun r66 => some (((r66.1.1.1, ()), ()), ())) else (bif decide (a3.1 = 23) then (bif decide (a3.2.1 = 8) then (some (((decide (a3.2.2.2.2.2.1 = 0), ()), ()), ())) else (some (((false, ()), ()), ()))) else (some (((decide (a3.2.2.2.2.2.1 = 0), ()), ()), ()))))))))))) else (bif decide (4 < ((List.length a3.2.2.2.2.2.2.1 : Nat) : Int)) then (some (((false, ()), ()), ())) else (bif decide (a3.1 = 26) then (bif decide (0 < 1) then (bif !decide (a3.2.2.1 = 0) then (some (((false, ()), ()), ())) else (bif decide (0 < 2) then (bif !decide (a3.2.2.2.1 = 0) then (some (((false, ()), ()), ())) else (bif decide (0 < 3) then (bif !decide (a3.2.2.2.2.1 = 0) then (some (((false, ()), ()), ())) else (bif decide (a3.1 = 21) then (Option.bind (spec_l1Value.f k a3.2.1 a3.2.2.2.2.2.1) fun r67 => some (((r67.1.1.1, ()), ()), ())) else (bif decide (a3.1 = 26) then (Option.bind (spec_l1In.f k a3.2.2.2.2.2.1 0 (IntKind.wrap .i64 (a1 - 1))) fun r68 => some (((r68.1.1.1, ()), ()), ())) else (bif decide (a3.1 = 23) then (bif decide (a3.2.1 = 8) then (some (((decide (a3.2.2.2.2.2.1 = 0), ()), ()), ())) else (some (((false, ()), ()), ()))) else (some (((decide (a3.2.2.2.2.2.1 = 0), ()), ()), ())))))) else (bif decide (a3.1 = 21) then (Option.bind (spec_l1Value.f k a3.2.1 a3.2.2.2.2.2.1) fun r69 => some (((r69.1.1.1, ()), ()), ())) else (bif decide (a3.1 = 26) then (Option.bind (spec_l1In.f k a3.2.2.2.2.2.1 0 (IntKind.wrap .i64 (a1 - 1))) fun r70 => some (((r70.1.1.1, ()), ()), ())) else (bif decide (a3.1 = 23) then (bif decide (a3.2.1 = 8) then (some (((decide (a3.2.2.2.2.2.1 = 0), ()), ()), ())) else (some (((false, ()), ()), ()))) else (some (((decide (a3.2.2.2.2.2.1 = 0), ()), ()), ()))))))) else (bif decide (0 < 3) then (bif !decide (a3.2.2.2.2.1 = 0) then (some (((false, ()), ()), ())) else (bif decide (a3.1 = 21) then (Option.bind (spec_l1Value.f k a3.2.1 a3.2.2.2.2.2.1) fun r71 => some (((r71.1.1.1, ()), ()), ())) else (bif decide (a3.1 = 26) then (Option.bind (spec_l1In.f k a3.2.2.2.2.2.1 0 (IntKind.wrap .i64 (a1 - 1))) fun r72 => some (((r72.1.1.1, ()), ()), ())) else (bif decide (a3.1 = 23) then (bif decide (a3.2.1 = 8) then (some (((decide (a3.2.2.2.2.2.1 = 0), ()), ()), ())) else (some (((false, ()), ()), ()))) else (some (((decide (a3.2.2.2.2.2.1 = 0), ()), ()), ())))))) else (bif decide (a3.1 = 21) then (Option.bind (spec_l1Value.f k a3.2.1 a3.2.2.2.2.2.1) fun r73 => some (((r73.1.1.1, ()), ()), ())) else (bif decide (a3.1 = 26) then (Option.bind (spec_l1In.f k a3.2.2.2.2.2.1 0 (IntKind.wrap .i64 (a1 - 1))) fun r74 => some (((r74.1.1.1, ()), ()), ())) else (bif decide (a3.1 = 23) then (bif decide (a3.2.1 = 8) then (some (((decide (a3.2.2.2.2.2.1 = 0), ()), ()), ())) else (some (((false, ()), ()), ()))) else (some (((decide (a3.2.2.2.2.2.1 = 0), ()), ()), ())))))))) else (bif decide (0 < 2) then (bif !decide (a3.2.2.2.1 = 0) then (some (((false, ()), ()), ())) else (bif decide (0 < 3) then (bif !decide (a3.2.2.2.2.1 = 0) then (some (((false, ()), ()), ())) else (bif decide (a3.1 = 21) then (Option.bind (spec_l1Value.f k a3.2.1 a3.2.2.2.2.2.1) fun r75 => some (((r75.1.1.1, ()), ()), ())) else (bif decide (a3.1 = 26) then (Option.bind (spec_l1In.f k a3.2.2.2.2.2.1 0 (IntKind.wrap .i64 (a1 - 1))) fun r76 => some (((r76.1.1.1, ()), ()), ())) else (bif decide (a3.1 = 23) then (bif decide (a3.2.1 = 8) then (some (((decide (a3.2.2.2.2.2.1 = 0), ()), ()), ())) else (some (((false, ()), ()), ()))) else (some (((decide (a3.2.2.2.2.2.1 = 0), ()), ()), ())))))) else (bif decide (a3.1 = 21) then (Option.bind (spec_l1Value.f k a3.2.1 a3.2.2.2.2.2.1) fun r77 => some (((r77.1.1.1, ()), ()), ())) else (bif decide (a3.1 = 26) then (Option.bind (spec_l1In.f k a3.2.2.2.2.2.1 0 (IntKind.wrap .i64 (a1 - 1))) fun r78 => some (((r78.1.1.1, ()), ()), ())) else (bif decide (a3.1 = 23) then (bif decide (a3.2.1 = 8) then (some (((decide (a3.2.2.2.2.2.1 = 0), ()), ()), ())) else (some (((false, ()), ()), ()))) else (some (((decide (a3.2.2.2.2.2.1 = 0), ()), ()), ()))))))) else (bif decide (0 < 3) then (bif !decide (a3.2.2.2.2.1 = 0) then (some (((false, ()), ()), ())) else (bif decide (a3.1 = 21) then (Option.bind (spec_l1Value.f k a3.2.1 a3.2.2.2.2.2.1) fun r79 => some (((r79.1.1.1, ()), ()), ())) else (bif decide (a3.1 = 26) then (Option.bind (spec_l1In.f k a3.2.2.2.2.2.1 0 (IntKind.wrap .i64 (a1 - 1))) fun r80 => some (((r80.1.1.1, ()), ()), ())) else (bif decide (a3.1 = 23) then (bif decide (a3.2.1 = 8) then (some (((decide (a3.2.2.2.2.2.1 = 0), ()), ()), ())) else (some (((false, ()), ()), ()))) else (some (((decide (a3.2.2.2.2.2.1 = 0), ()), ()), ())))))) else (bif decide (a3.1 = 21) then (Option.bind (spec_l1Value.f k a3.2.1 a3.2.2.2.2.2.1) fun r81 => some (((r81.1.1.1, ()), ()), ())) else (bif decide (a3.1 = 26) then (Option.bind (spec_l1In.f k a3.2.2.2.2.2.1 0 (IntKind.wrap .i64 (a1 - 1))) fun r82 => some (((r82.1.1.1, ()), ()), ())) else (bif decide (a3.1 = 23) then (bif decide (a3.2.1 = 8) then (some (((decide (a3.2.2.2.2.2.1 = 0), ()), ()), ())) else (some (((false, ()), ()), ()))) else (some (((decide (a3.2.2.2.2.2.1 = 0), ()), ()), ())))))))) else (bif decide (((List.length a4 : Nat) : Int) < 1) then (bif !decide (a3.2.2.1 = 0) then (some (((false, ()), ()), ())) else (bif decide (((List.length a4 : Nat) : Int) < 2) then (bif !decide (a3.2.2.2.1 = 0) then (some (((false, ()), ()), ())) else (bif decide (((List.length a4 : Nat) : Int) < 3) then (bif !decide (a3.2.2.2.2.1 = 0) then (some (((false, ()), ()), ())) else (bif decide (a3.1 = 21) then (Option.bind (spec_l1Value.f k a3.2.1 a3.2.2.2.2.2.1) fun r83 => some (((r83.1.1.1, ()), ()), ())) else (bif decide (a3.1 = 26) then (Option.bind (spec_l1In.f k a3.2.2.2.2.2.1 0 (IntKind.wrap .i64 (a1 - 1))) fun r84 => some (((r84.1.1.1, ()), ()), ())) else (bif decide (a3.1 = 23) then (bif decide (a3.2.1 = 8) then (some (((decide (a3.2.2.2.2.2.1 = 0), ()), ()), ())) else (some (((false, ()), ()), ()))) else (some (((decide (a3.2.2.2.2.2.1 = 0), ()), ()), ())))))) else (bif decide (a3.1 = 21) then (Option.bind (spec_l1Value.f k a3.2.1 a3.2.2.2.2.2.1) fun r85 => some (((r85.1.1.1, ()), ()), ())) else (bif decide (a3.1 = 26) then (Option.bind (spec_l1In.f k a3.2.2.2.2.2.1 0 (IntKind.wrap .i64 (a1 - 1))) fun r86 => some (((r86.1.1.1, ()), ()), ())) else (bif decide (a3.1 = 23) then (bif decide (a3.2.1 = 8) then (some (((decide (a3.2.2.2.2.2.1 = 0), ()), ()), ())) else (some (((false, ()), ()), ()))) else (some (((decide (a3.2.2.2.2.2.1 = 0), ()), ()), ()))))))) else (bif decide (((List.length a4 : Nat) : Int) < 3) then (bif !decide (a3.2.2.2.2.1 = 0) then (some (((false, ()), ()), ())) else (bif decide (a3.1 = 21) then (Option.bind (spec_l1Value.f k a3.2.1 a3.2.2.2.2.2.1) fun r87 => some (((r87.1.1.1, ()), ()), ())) else (bif decide (a3.1 = 26) then (Option.bind (spec_l1In.f k a3.2.2.2.2.2.1 0 (IntKind.wrap .i64 (a1 - 1))) fun r88 => some (((r88.1.1.1, ()), ()), ())) else (bif decide (a3.1 = 23) then (bif decide (a3.2.1 = 8) then (some (((decide (a3.2.2.2.2.2.1 = 0), ()), ()), ())) else (some (((false, ()), ()), ()))) else (some (((decide (a3.2.2.2.2.2.1 = 0), ()), ()), ())))))) else (bif decide (a3.1 = 21) then (Option.bind (spec_l1Value.f k a3.2.1 a3.2.2.2.2.2.1) fun r89 => some (((r89.1.1.1, ()), ()), ())) else (bif decide (a3.1 = 26) then (Option.bind (spec_l1In.f k a3.2.2.2.2.2.1 0 (IntKind.wrap .i64 (a1 - 1))) fun r90 => some (((r90.1.1.1, ()), ()), ())) else (bif decide (a3.1 = 23) then (bif decide (a3.2.1 = 8) then (some (((decide (a3.2.2.2.2.2.1 = 0), ()), ()), ())) else (some (((false, ()), ()), ()))) else (some (((decide (a3.2.2.2.2.2.1 = 0), ()), ()), ())))))))) else (bif decide (((List.length a4 : Nat) : Int) < 2) then (bif !decide (a3.2.2.2.1 = 0) then (some (((false, ()), ()), ())) else (bif decide (((List.length a4 : Nat) : Int) < 3) then (bif !decide (a3.2.2.2.2.1 = 0) then (some (((false, ()), ()), ())) else (bif decide (a3.1 = 21) then (Option.bind (spec_l1Value.f k a3.2.1 a3.2.2.2.2.2.1) fun r91 => some (((r91.1.1.1, ()), ()), ())) else (bif decide (a3.1 = 26) then (Option.bind (spec_l1In.f k a3.2.2.2.2.2.1 0 (IntKind.wrap .i64 (a1 - 1))) fun r92 => some (((r92.1.1.1, ()), ()), ())) else (bif decide (a3.1 = 23) then (bif decide (a3.2.1 = 8) then (some (((decide (a3.2.2.2.2.2.1 = 0), ()), ()), ())) else (some (((false, ()), ()), ()))) else (some (((decide (a3.2.2.2.2.2.1 = 0), ()), ()), ())))))) else (bif decide (a3.1 = 21) then (Option.bind (spec_l1Value.f k a3.2.1 a3.2.2.2.2.2.1) fun r93 => some (((r93.1.1.1, ()), ()), ())) else (bif decide (a3.1 = 26) then (Option.bind (spec_l1In.f k a3.2.2.2.2.2.1 0 (IntKind.wrap .i64 (a1 - 1))) fun r94 => some (((r94.1.1.1, ()), ()), ())) else (bif decide (a3.1 = 23) then (bif decide (a3.2.1 = 8) then (some (((decide (a3.2.2.2.2.2.1 = 0), ()), ()), ())) else (some (((false, ()), ()), ()))) else (some (((decide (a3.2.2.2.2.2.1 = 0), ()), ()), ()))))))) else (bif decide (((List.length a4 : Nat) : Int) < 3) then (bif !decide (a3.2.2.2.2.1 = 0) then (some (((false, ()), ()), ())) else (bif decide (a3.1 = 21) then (Option.bind (spec_l1Value.f k a3.2.1 a3.2.2.2.2.2.1) fun r95 => some (((r95.1.1.1, ()), ()), ())) else (bif decide (a3.1 = 26) then (Option.bind (spec_l1In.f k a3.2.2.2.2.2.1 0 (IntKind.wrap .i64 (a1 - 1))) fun r96 => some (((r96.1.1.1, ()), ()), ())) else (bif decide (a3.1 = 23) then (bif decide (a3.2.1 = 8) then (some (((decide (a3.2.2.2.2.2.1 = 0), ()), ()), ())) else (some (((false, ()), ()), ()))) else (some (((decide (a3.2.2.2.2.2.1 = 0), ()), ()), ())))))) else (bif decide (a3.1 = 21) then (Option.bind (spec_l1Value.f k a3.2.1 a3.2.2.2.2.2.1) fun r97 => some (((r97.1.1.1, ()), ()), ())) else (bif decide (a3.1 = 26) then (Option.bind (spec_l1In.f k a3.2.2.2.2.2.1 0 (IntKind.wrap .i64 (a1 - 1))) fun r98 => some (((r98.1.1.1, ()), ()), ())) else (bif decide (a3.1 = 23) then (bif decide (a3.2.1 = 8) then (some (((decide (a3.2.2.2.2.2.1 = 0), ()), ()), ())) else (some (((false, ()), ()), ()))) else (some (((decide (a3.2.2.2.2.2.1 = 0), ()), ()), ())))))))))))))
def spec_l2Inst.all : Nat → (Int → Int → Int → tInstD → (List Int) → Option spec_l2Inst.R) × Unit
  | 0 => (fun _ _ _ _ _ => none, ())
  | k + 1 => (spec_l2Inst.l0_ k (spec_l2Inst.all k).1, ())
def spec_l2Inst.l0 (k : Nat) : Int → Int → Int → tInstD → (List Int) → Option spec_l2Inst.R := (spec_l2Inst.all k).1
def spec_l2Inst.f (k : Nat) (a0 : tInstD) (a1 : Int) (a2 : Int) : Option spec_l2Inst.R := Option.bind (spec_l1In.f k a0.1 1 27) fun r1 => bif !r1.1.1.1 then (some (((false, ()), ()), ())) else (bif !decide (a0.1 = 26) then (bif decide (0 < ((List.length a0.2.2.2.2.2.2.1 : Nat) : Int)) then (some (((false, ()), ()), ())) else (Option.bind (spec_l2Operands.f k a0) fun r2 => spec_l2Inst.l0 k a1 a2 0 a0 r2.2.1)) else (Option.bind (spec_l2Operands.f k a0) fun r3 => spec_l2Inst.l0 k a1 a2 0 a0 r3.2.1))
def spec_l2Inst.s (k : Nat) : FS := ⟨[⟨true, [.int .i64, .int .i64, .int .i64, .int .i64, .int .i64, .int .i64, .lst (.int .i64)]⟩, ⟨false, [.int .i64]⟩, ⟨false, [.int .i64]⟩], [], false, [⟨false, [.bool]⟩], [], [], fun x => spec_l2Inst.f k x.1.1 x.1.2.1.1 x.1.2.2.1.1⟩
def spec_l2Inst.E (k : Nat) : Ents := [(⟨38, []⟩, spec_l1In.s k), (⟨54, []⟩, spec_l2Operands.s k), (⟨131, []⟩, spec_l1Value.s k), (⟨140, []⟩, spec_WidthOk.s k)]
def spec_l2Inst.L0 (l : Int → Int → Int → tInstD → (List Int) → Option spec_l2Inst.R) : LS spec_l2Inst.R := ⟨[], [(1, ⟨false, [.int .i64]⟩), (2, ⟨false, [.int .i64]⟩), (3, ⟨false, [.ptr 100000 0]⟩), (7, ⟨false, [.own 100001]⟩), (8, ⟨false, [.int .i64]⟩)], [(100000, .box [.int .i64, .int .i64, .int .i64, .int .i64, .int .i64, .int .i64, .lst (.int .i64)]), (100001, .row true (.int .i64))], fun x => l x.1.1.1 x.1.2.1.1 x.1.2.2.2.2.1.1 x.2.1 x.2.2.1⟩
def spec_l2Inst.L (l0 : Int → Int → Int → tInstD → (List Int) → Option spec_l2Inst.R) : List (LS spec_l2Inst.R) := [spec_l2Inst.L0 l0]
def spec_l2Inst.c : Code := Tryz.f141.body.getD .skip
theorem spec_l2Inst.eq (k : Nat) (x) : (spec_l2Inst.s k).pf x = execF tab (spec_l2Inst.E k) Tryz.f141 spec_l2Inst.c (spec_l2Inst.s k) (spec_l2Inst.L (spec_l2Inst.l0 k)) x := by kernel_rfl
theorem spec_l2Inst.r0 (l0 : Int → Int → Int → tInstD → (List Int) → Option spec_l2Inst.R) (k : Nat) (x) : spec_l2Inst.l0_ k l0 x.1.1.1 x.1.2.1.1 x.1.2.2.2.2.1.1 x.2.1 x.2.2.1 = roundOf tab (spec_l2Inst.E k) (spec_l2Inst.L l0) spec_l2Inst.c (fin tab Tryz.f141 (spec_l2Inst.s k)) 0 (spec_l2Inst.L0 l0) x := by kernel_rfl
theorem spec_l2Inst.sound : ∀ k, Sound Tryz.prog 141 (spec_l2Inst.s k) := sound_of mixed tab_ok (f := 141) (fn := Tryz.f141) (c := spec_l2Inst.c) (by kernel_rfl) (by kernel_rfl) (by kernel_rfl) ⟨[⟨true, [.int .i64, .int .i64, .int .i64, .int .i64, .int .i64, .int .i64, .lst (.int .i64)]⟩, ⟨false, [.int .i64]⟩, ⟨false, [.int .i64]⟩], [], false, [⟨false, [.bool]⟩], [], []⟩ (by kernel_rfl) (by kernel_rfl) (fun k => (spec_l2Inst.s k).pf) spec_l2Inst.E (fun k => (EntsOK.cons (spec_l1In.sound k) (EntsOK.cons (spec_l2Operands.sound k) (EntsOK.cons (spec_l1Value.sound k) (EntsOK.cons (spec_WidthOk.sound k) EntsOK.nil))))) (fun k => spec_l2Inst.L (spec_l2Inst.l0 k)) (fun k => ⟨rfl, trivial⟩) ⟨fun _ => rfl, trivial⟩ (fun k => ⟨⟨(spec_l2Inst.L0 (spec_l2Inst.l0 (k + 1))).l, rfl, fun x => spec_l2Inst.r0 (spec_l2Inst.l0 k) k x⟩, trivial⟩) spec_l2Inst.eq
end
end Go.Proofs.YtebgkcjpocfmmaaGreat.V
namespace Go.Proofs.YtebgkcjpocfmmaaGreat.V
open Go
set_option linter.unusedVariables false
noncomputable section
/-! ### spec.l2Term: function 142 -/
abbrev spec_l2Term.R := (((Bool × Unit) × Unit) × Unit)
def spec_l2Term.f (k : Nat) (a0 : tTermD) (a1 : Int) (a2 : Int) : Option spec_l2Term.R := bif decide (a0.1 = 1) then (Option.bind (spec_l1In.f k a0.2.1 0 (IntKind.wrap .i64 (a1 - 1))) fun r1 => bif r1.1.1.1 then (bif decide (a0.2.2.1 = 0) then (some (((decide (a0.2.2.2.1 = 0), ()), ()), ())) else (some (((false, ()), ()), ()))) else (some (((false, ()), ()), ()))) else (bif decide (a0.1 = 2) then (bif decide (a0.2.1 = 0) then (Option.bind (spec_l1In.f k a0.2.2.1 0 (IntKind.wrap .i64 (a2 - 1))) fun r2 => bif r2.1.1.1 then (some (((decide (a0.2.2.2.1 = 0), ()), ()), ())) else (some (((false, ()), ()), ()))) else (some (((false, ()), ()), ()))) else (bif decide (a0.1 = 3) then (Option.bind (spec_l1In.f k a0.2.1 0 (IntKind.wrap .i64 (a1 - 1))) fun r3 => bif r3.1.1.1 then (Option.bind (spec_l1In.f k a0.2.2.1 0 (IntKind.wrap .i64 (a2 - 1))) fun r4 => bif r4.1.1.1 then (Option.bind (spec_l1In.f k a0.2.2.2.1 0 (IntKind.wrap .i64 (a2 - 1))) fun r5 => bif r5.1.1.1 then (some (((!decide (a0.2.2.1 = a0.2.2.2.1), ()), ()), ())) else (some (((false, ()), ()), ()))) else (some (((false, ()), ()), ()))) else (some (((false, ()), ()), ()))) else (bif decide (a0.1 = 4) then (bif decide (a0.2.1 = 0) then (bif decide (a0.2.2.1 = 0) then (some (((decide (a0.2.2.2.1 = 0), ()), ()), ())) else (some (((false, ()), ()), ()))) else (some (((false, ()), ()), ()))) else (some (((false, ()), ()), ())))))
def spec_l2Term.s (k : Nat) : FS := ⟨[⟨true, [.int .i64, .int .i64, .int .i64, .int .i64]⟩, ⟨false, [.int .i64]⟩, ⟨false, [.int .i64]⟩], [], false, [⟨false, [.bool]⟩], [], [], fun x => spec_l2Term.f k x.1.1 x.1.2.1.1 x.1.2.2.1.1⟩
def spec_l2Term.E (k : Nat) : Ents := [(⟨38, []⟩, spec_l1In.s k)]
def spec_l2Term.L : List (LS spec_l2Term.R) := []
def spec_l2Term.c : Code := Tryz.f142.body.getD .skip
theorem spec_l2Term.eq (k : Nat) (x) : (spec_l2Term.s k).pf x = execF tab (spec_l2Term.E k) Tryz.f142 spec_l2Term.c (spec_l2Term.s k) spec_l2Term.L x := by kernel_rfl
theorem spec_l2Term.sound : ∀ k, Sound Tryz.prog 142 (spec_l2Term.s k) := sound_of mixed tab_ok (f := 142) (fn := Tryz.f142) (c := spec_l2Term.c) (by kernel_rfl) (by kernel_rfl) (by kernel_rfl) ⟨[⟨true, [.int .i64, .int .i64, .int .i64, .int .i64]⟩, ⟨false, [.int .i64]⟩, ⟨false, [.int .i64]⟩], [], false, [⟨false, [.bool]⟩], [], []⟩ (by kernel_rfl) (by kernel_rfl) (fun k => (spec_l2Term.s k).pf) spec_l2Term.E (fun k => (EntsOK.cons (spec_l1In.sound k) EntsOK.nil)) (fun k => spec_l2Term.L) (fun k => trivial) trivial (fun k => trivial) spec_l2Term.eq
end
end Go.Proofs.YtebgkcjpocfmmaaGreat.V
namespace Go.Proofs.YtebgkcjpocfmmaaGreat.V
open Go
set_option linter.unusedVariables false
noncomputable section
/-! ### spec.l2Func: function 79 -/
abbrev spec_l2Func.R := (((Bool × Unit) × Unit) × Unit)
def spec_l2Func.l0_ (k : Nat) (l0 : Int → Int → Int → Int → tFuncD → Option spec_l2Func.R) (l1 : Int → Int → Int → Int → tFuncD → Option spec_l2Func.R) (l2 : Int → Int → Int → Int → Int → tFuncD → tBlockD → Option spec_l2Func.R) (l3 : Int → Int → Int → Int → Int → Int → tFuncD → tBlockD → Option spec_l2Func.R) (l4 : Int → Int → Int → Int → Int → tFuncD → tBlockD → Option spec_l2Func.R) (a0 : Int) (a1 : Int) (a2 : Int) (a3 : Int) (a4 : tFuncD) : Option spec_l2Func.R := bif decide (a3 < ((List.length a4.1 : Nat) : Int)) then (bif (decide (0 ≤ a3)) && (decide (a3 < ((List.length a4.1 : Nat) : Int))) then (Option.bind (spec_WidthOk.f k (List.getD a4.1 (Int.toNat a3) 0)) fun r1 => bif !r1.1.1.1 then (some (((false, ()), ()), ())) else (l0 a0 a1 a2 (IntKind.wrap .i64 (a3 + 1)) a4)) else none) else (l1 a0 a1 a2 0 a4)
def spec_l2Func.l1_ (k : Nat) (l0 : Int → Int → Int → Int → tFuncD → Option spec_l2Func.R) (l1 : Int → Int → Int → Int → tFuncD → Option spec_l2Func.R) (l2 : Int → Int → Int → Int → Int → tFuncD → tBlockD → Option spec_l2Func.R) (l3 : Int → Int → Int → Int → Int → Int → tFuncD → tBlockD → Option spec_l2Func.R) (l4 : Int → Int → Int → Int → Int → tFuncD → tBlockD → Option spec_l2Func.R) (a0 : Int) (a1 : Int) (a2 : Int) (a3 : Int) (a4 : tFuncD) : Option spec_l2Func.R := bif decide (a3 < ((List.length a4.2.2.1 : Nat) : Int)) then (bif (decide (0 ≤ a3)) && (decide (a3 < ((List.length a4.2.2.1 : Nat) : Int))) then (l2 a0 a1 a2 a3 0 a4 (List.getD a4.2.2.1 (Int.toNat a3) tBlockZ)) else none) else (some (((true, ()), ()), ()))
def spec_l2Func.l2_ (k : Nat) (l0 : Int → Int → Int → Int → tFuncD → Option spec_l2Func.R) (l1 : Int → Int → Int → Int → tFuncD → Option spec_l2Func.R) (l2 : Int → Int → Int → Int → Int → tFuncD → tBlockD → Option spec_l2Func.R) (l3 : Int → Int → Int → Int → Int → Int → tFuncD → tBlockD → Option spec_l2Func.R) (l4 : Int → Int → Int → Int → Int → tFuncD → tBlockD → Option spec_l2Func.R) (a0 : Int) (a1 : Int) (a2 : Int) (a3 : Int) (a4 : Int) (a5 : tFuncD) (a6 : tBlockD) : Option spec_l2Func.R := bif decide (a4 < ((List.length a6.1 : Nat) : Int)) then (bif (decide (0 ≤ a4)) && (decide (a4 < ((List.length a6.1 : Nat) : Int))) then (Option.bind (spec_WidthOk.f k ((List.getD a6.1 (Int.toNat a4) tPhiZ).1)) fun r1 => bif !r1.1.1.1 then (some (((false, ()), ()), ())) else (bif (decide (0 ≤ a4)) && (decide (a4 < ((List.length a6.1 : Nat) : Int))) then (bif decide (10 < ((List.length ((List.getD a6.1 (Int.toNat a4) tPhiZ).2.1) : Nat) : Int)) then (some (((false, ()), ()), ())) else (l3 a0 a1 a2 a3 a4 0 a5 a6)) else none)) else none) else (l4 a0 a1 a2 a3 0 a5 a6)
def spec_l2Func.l3_ (k : Nat) (l0 : Int → Int → Int → Int → tFuncD → Option spec_l2Func.R) (l1 : Int → Int → Int → Int → tFuncD → Option spec_l2Func.R) (l2 : Int → Int → Int → Int → Int → tFuncD → tBlockD → Option spec_l2Func.R) (l3 : Int → Int → Int → Int → Int → Int → tFuncD → tBlockD → Option spec_l2Func.R) (l4 : Int → Int → Int → Int → Int → tFuncD → tBlockD → Option spec_l2Func.R) (a0 : Int) (a1 : Int) (a2 : Int) (a3 : Int) (a4 : Int) (a5 : Int) (a6 : tFuncD) (a7 : tBlockD) : Option spec_l2Func.R := bif (decide (0 ≤ a4)) && (decide (a4 < ((List.length a7.1 : Nat) : Int))) then (bif decide (a5 < ((List.length ((List.getD a7.1 (Int.toNat a4) tPhiZ).2.1) : Nat) : Int)) then (bif (decide (0 ≤ a4)) && (decide (a4 < ((List.length a7.1 : Nat) : Int))) then (bif (decide (0 ≤ a5)) && (decide (a5 < ((List.length ((List.getD a7.1 (Int.toNat a4) tPhiZ).2.1) : Nat) : Int))) then (Option.bind (spec_l1In.f k (List.getD ((List.getD a7.1 (Int.toNat a4) tPhiZ).2.1) (Int.toNat a5) 0) 0 (IntKind.wrap .i64 (a1 - 1))) fun r1 => bif !r1.1.1.1 then (some (((false, ()), ()), ())) else (l3 a0 a1 a2 a3 a4 (IntKind.wrap .i64 (a5 + 1)) a6 a7)) else none) else none) else (l2 a0 a1 a2 a3 (IntKind.wrap .i64 (a4 + 1)) a6 a7)) else none
def spec_l2Func.l4_ (k : Nat) (l0 : Int → Int → Int → Int → tFuncD → Option spec_l2Func.R) (l1 : Int → Int → Int → Int → tFuncD → Option spec_l2Func.R) (l2 : Int → Int → Int → Int → Int → tFuncD → tBlockD → Option spec_l2Func.R) (l3 : Int → Int → Int → Int → Int → Int → tFuncD → tBlockD → Option spec_l2Func.R) (l4 : Int → Int → Int → Int → Int → tFuncD → tBlockD → Option spec_l2Func.R) (a0 : Int) (a1 : Int) (a2 : Int) (a3 : Int) (a4 : Int) (a5 : tFuncD) (a6 : tBlockD) : Option spec_l2Func.R := bif decide (a4 < ((List.length a6.2.1 : Nat) : Int)) then (bif (decide (0 ≤ a4)) && (decide (a4 < ((List.length a6.2.1 : Nat) : Int))) then (Option.bind (spec_l2Inst.f k (List.getD a6.2.1 (Int.toNat a4) tInstZ) a1 a0) fun r1 => bif !r1.1.1.1 then (some (((false, ()), ()), ())) else (l4 a0 a1 a2 a3 (IntKind.wrap .i64 (a4 + 1)) a5 a6)) else none) else (Option.bind (spec_l2Term.f k a6.2.2 a1 a2) fun r2 => bif !r2.1.1.1 then (some (((false, ()), ()), ())) else (l1 a0 a1 a2 (IntKind.wrap .i64 (a3 + 1)) a5))
def spec_l2Func.all : Nat → (Int → Int → Int → Int → tFuncD → Option spec_l2Func.R) × (Int → Int → Int → Int → tFuncD → Option spec_l2Func.R) × (Int → Int → Int → Int → Int → tFuncD → tBlockD → Option spec_l2Func.R) × (Int → Int → Int → Int → Int → Int → tFuncD → tBlockD → Option spec_l2Func.R) × (Int → Int → Int → Int → Int → tFuncD → tBlockD → Option spec_l2Func.R) × Unit
  | 0 => (fun _ _ _ _ _ => none, fun _ _ _ _ _ => none, fun _ _ _ _ _ _ _ => none, fun _ _ _ _ _ _ _ _ => none, fun _ _ _ _ _ _ _ => none, ())
  | k + 1 => (spec_l2Func.l0_ k (spec_l2Func.all k).1 (spec_l2Func.all k).2.1 (spec_l2Func.all k).2.2.1 (spec_l2Func.all k).2.2.2.1 (spec_l2Func.all k).2.2.2.2.1, spec_l2Func.l1_ k (spec_l2Func.all k).1 (spec_l2Func.all k).2.1 (spec_l2Func.all k).2.2.1 (spec_l2Func.all k).2.2.2.1 (spec_l2Func.all k).2.2.2.2.1, spec_l2Func.l2_ k (spec_l2Func.all k).1 (spec_l2Func.all k).2.1 (spec_l2Func.all k).2.2.1 (spec_l2Func.all k).2.2.2.1 (spec_l2Func.all k).2.2.2.2.1, spec_l2Func.l3_ k (spec_l2Func.all k).1 (spec_l2Func.all k).2.1 (spec_l2Func.all k).2.2.1 (spec_l2Func.all k).2.2.2.1 (spec_l2Func.all k).2.2.2.2.1, spec_l2Func.l4_ k (spec_l2Func.all k).1 (spec_l2Func.all k).2.1 (spec_l2Func.all k).2.2.1 (spec_l2Func.all k).2.2.2.1 (spec_l2Func.all k).2.2.2.2.1, ())
def spec_l2Func.l0 (k : Nat) : Int → Int → Int → Int → tFuncD → Option spec_l2Func.R := (spec_l2Func.all k).1
def spec_l2Func.l1 (k : Nat) : Int → Int → Int → Int → tFuncD → Option spec_l2Func.R := (spec_l2Func.all k).2.1
def spec_l2Func.l2 (k : Nat) : Int → Int → Int → Int → Int → tFuncD → tBlockD → Option spec_l2Func.R := (spec_l2Func.all k).2.2.1
def spec_l2Func.l3 (k : Nat) : Int → Int → Int → Int → Int → Int → tFuncD → tBlockD → Option spec_l2Func.R := (spec_l2Func.all k).2.2.2.1
def spec_l2Func.l4 (k : Nat) : Int → Int → Int → Int → Int → tFuncD → tBlockD → Option spec_l2Func.R := (spec_l2Func.all k).2.2.2.2.1
def spec_l2Func.f (k : Nat) (a0 : tFuncD) (a1 : Int) : Option spec_l2Func.R := Option.bind (spec_CountOf.f k a0) fun r1 => bif decide (4 < ((List.length a0.1 : Nat) : Int)) then (some (((false, ()), ()), ())) else (Option.bind (spec_WidthOk.f k a0.2.1) fun r2 => bif !r2.1.1.1 then (some (((false, ()), ()), ())) else (Option.bind (spec_l1In.f k ((List.length a0.2.2.1 : Nat) : Int) 1 10) fun r3 => bif !r3.1.1.1 then (some (((false, ()), ()), ())) else (bif decide (60 < r1.1.1.1) then (some (((false, ()), ()), ())) else (spec_l2Func.l0 k a1 r1.1.1.1 ((List.length a0.2.2.1 : Nat) : Int) 0 a0))))
def spec_l2Func.s (k : Nat) : FS := ⟨[⟨true, [.lst (.int .i64), .int .i64, .lst tBlock]⟩, ⟨false, [.int .i64]⟩], [], false, [⟨false, [.bool]⟩], [], [], fun x => spec_l2Func.f k x.1.1 x.1.2.1.1⟩
def spec_l2Func.E (k : Nat) : Ents := [(⟨25, []⟩, spec_CountOf.s k), (⟨140, []⟩, spec_WidthOk.s k), (⟨38, []⟩, spec_l1In.s k), (⟨141, []⟩, spec_l2Inst.s k), (⟨142, []⟩, spec_l2Term.s k)]
def spec_l2Func.L0 (l : Int → Int → Int → Int → tFuncD → Option spec_l2Func.R) : LS spec_l2Func.R := ⟨[], [(1, ⟨false, [.int .i64]⟩), (2, ⟨false, [.ptr 100000 0]⟩), (5, ⟨false, [.int .i64]⟩), (6, ⟨false, [.int .i64]⟩), (7, ⟨false, [.int .i64]⟩)], [(100000, .box [.lst (.int .i64), .int .i64, .lst tBlock])], fun x => l x.1.1.1 x.1.2.2.1.1 x.1.2.2.2.1.1 x.1.2.2.2.2.1.1 x.2.1⟩
def spec_l2Func.L1 (l : Int → Int → Int → Int → tFuncD → Option spec_l2Func.R) : LS spec_l2Func.R := ⟨[], [(1, ⟨false, [.int .i64]⟩), (2, ⟨false, [.ptr 100000 0]⟩), (5, ⟨false, [.int .i64]⟩), (6, ⟨false, [.int .i64]⟩), (8, ⟨false, [.int .i64]⟩)], [(100000, .box [.lst (.int .i64), .int .i64, .lst tBlock])], fun x => l x.1.1.1 x.1.2.2.1.1 x.1.2.2.2.1.1 x.1.2.2.2.2.1.1 x.2.1⟩
def spec_l2Func.L2 (l : Int → Int → Int → Int → Int → tFuncD → tBlockD → Option spec_l2Func.R) : LS spec_l2Func.R := ⟨[], [(1, ⟨false, [.int .i64]⟩), (2, ⟨false, [.ptr 100000 0]⟩), (5, ⟨false, [.int .i64]⟩), (6, ⟨false, [.int .i64]⟩), (8, ⟨false, [.int .i64]⟩), (9, ⟨false, [.ptr 100001 0]⟩), (10, ⟨false, [.int .i64]⟩)], [(100000, .box [.lst (.int .i64), .int .i64, .lst tBlock]), (100001, .box [.lst tPhi, .lst tInst, .int .i64, .int .i64, .int .i64, .int .i64])], fun x => l x.1.1.1 x.1.2.2.1.1 x.1.2.2.2.1.1 x.1.2.2.2.2.1.1 x.1.2.2.2.2.2.2.1.1 x.2.1 x.2.2.1⟩
def spec_l2Func.L3 (l : Int → Int → Int → Int → Int → Int → tFuncD → tBlockD → Option spec_l2Func.R) : LS spec_l2Func.R := ⟨[], [(1, ⟨false, [.int .i64]⟩), (2, ⟨false, [.ptr 100000 0]⟩), (5, ⟨false, [.int .i64]⟩), (6, ⟨false, [.int .i64]⟩), (8, ⟨false, [.int .i64]⟩), (9, ⟨false, [.ptr 100001 0]⟩), (10, ⟨false, [.int .i64]⟩), (11, ⟨false, [.int .i64]⟩)], [(100000, .box [.lst (.int .i64), .int .i64, .lst tBlock]), (100001, .box [.lst tPhi, .lst tInst, .int .i64, .int .i64, .int .i64, .int .i64])], fun x => l x.1.1.1 x.1.2.2.1.1 x.1.2.2.2.1.1 x.1.2.2.2.2.1.1 x.1.2.2.2.2.2.2.1.1 x.1.2.2.2.2.2.2.2.1.1 x.2.1 x.2.2.1⟩
def spec_l2Func.L4 (l : Int → Int → Int → Int → Int → tFuncD → tBlockD → Option spec_l2Func.R) : LS spec_l2Func.R := ⟨[], [(1, ⟨false, [.int .i64]⟩), (2, ⟨false, [.ptr 100000 0]⟩), (5, ⟨false, [.int .i64]⟩), (6, ⟨false, [.int .i64]⟩), (8, ⟨false, [.int .i64]⟩), (9, ⟨false, [.ptr 100001 0]⟩), (12, ⟨false, [.int .i64]⟩)], [(100000, .box [.lst (.int .i64), .int .i64, .lst tBlock]), (100001, .box [.lst tPhi, .lst tInst, .int .i64, .int .i64, .int .i64, .int .i64])], fun x => l x.1.1.1 x.1.2.2.1.1 x.1.2.2.2.1.1 x.1.2.2.2.2.1.1 x.1.2.2.2.2.2.2.1.1 x.2.1 x.2.2.1⟩
def spec_l2Func.L (l0 : Int → Int → Int → Int → tFuncD → Option spec_l2Func.R) (l1 : Int → Int → Int → Int → tFuncD → Option spec_l2Func.R) (l2 : Int → Int → Int → Int → Int → tFuncD → tBlockD → Option spec_l2Func.R) (l3 : Int → Int → Int → Int → Int → Int → tFuncD → tBlockD → Option spec_l2Func.R) (l4 : Int → Int → Int → Int → Int → tFuncD → tBlockD → Option spec_l2Func.R) : List (LS spec_l2Func.R) := [spec_l2Func.L0 l0, spec_l2Func.L1 l1, spec_l2Func.L2 l2, spec_l2Func.L3 l3, spec_l2Func.L4 l4]
def spec_l2Func.c : Code := Tryz.f79.body.getD .skip
theorem spec_l2Func.eq (k : Nat) (x) : (spec_l2Func.s k).pf x = execF tab (spec_l2Func.E k) Tryz.f79 spec_l2Func.c (spec_l2Func.s k) (spec_l2Func.L (spec_l2Func.l0 k) (spec_l2Func.l1 k) (spec_l2Func.l2 k) (spec_l2Func.l3 k) (spec_l2Func.l4 k)) x := by kernel_rfl
theorem spec_l2Func.r0 (l0 : Int → Int → Int → Int → tFuncD → Option spec_l2Func.R) (l1 : Int → Int → Int → Int → tFuncD → Option spec_l2Func.R) (l2 : Int → Int → Int → Int → Int → tFuncD → tBlockD → Option spec_l2Func.R) (l3 : Int → Int → Int → Int → Int → Int → tFuncD → tBlockD → Option spec_l2Func.R) (l4 : Int → Int → Int → Int → Int → tFuncD → tBlockD → Option spec_l2Func.R) (k : Nat) (x) : spec_l2Func.l0_ k l0 l1 l2 l3 l4 x.1.1.1 x.1.2.2.1.1 x.1.2.2.2.1.1 x.1.2.2.2.2.1.1 x.2.1 = roundOf tab (spec_l2Func.E k) (spec_l2Func.L l0 l1 l2 l3 l4) spec_l2Func.c (fin tab Tryz.f79 (spec_l2Func.s k)) 0 (spec_l2Func.L0 l0) x := by kernel_rfl
theorem spec_l2Func.r1 (l0 : Int → Int → Int → Int → tFuncD → Option spec_l2Func.R) (l1 : Int → Int → Int → Int → tFuncD → Option spec_l2Func.R) (l2 : Int → Int → Int → Int → Int → tFuncD → tBlockD → Option spec_l2Func.R) (l3 : Int → Int → Int → Int → Int → Int → tFuncD → tBlockD → Option spec_l2Func.R) (l4 : Int → Int → Int → Int → Int → tFuncD → tBlockD → Option spec_l2Func.R) (k : Nat) (x) : spec_l2Func.l1_ k l0 l1 l2 l3 l4 x.1.1.1 x.1.2.2.1.1 x.1.2.2.2.1.1 x.1.2.2.2.2.1.1 x.2.1 = roundOf tab (spec_l2Func.E k) (spec_l2Func.L l0 l1 l2 l3 l4) spec_l2Func.c (fin tab Tryz.f79 (spec_l2Func.s k)) 1 (spec_l2Func.L1 l1) x := by kernel_rfl
theorem spec_l2Func.r2 (l0 : Int → Int → Int → Int → tFuncD → Option spec_l2Func.R) (l1 : Int → Int → Int → Int → tFuncD → Option spec_l2Func.R) (l2 : Int → Int → Int → Int → Int → tFuncD → tBlockD → Option spec_l2Func.R) (l3 : Int → Int → Int → Int → Int → Int → tFuncD → tBlockD → Option spec_l2Func.R) (l4 : Int → Int → Int → Int → Int → tFuncD → tBlockD → Option spec_l2Func.R) (k : Nat) (x) : spec_l2Func.l2_ k l0 l1 l2 l3 l4 x.1.1.1 x.1.2.2.1.1 x.1.2.2.2.1.1 x.1.2.2.2.2.1.1 x.1.2.2.2.2.2.2.1.1 x.2.1 x.2.2.1 = roundOf tab (spec_l2Func.E k) (spec_l2Func.L l0 l1 l2 l3 l4) spec_l2Func.c (fin tab Tryz.f79 (spec_l2Func.s k)) 2 (spec_l2Func.L2 l2) x := by kernel_rfl
theorem spec_l2Func.r3 (l0 : Int → Int → Int → Int → tFuncD → Option spec_l2Func.R) (l1 : Int → Int → Int → Int → tFuncD → Option spec_l2Func.R) (l2 : Int → Int → Int → Int → Int → tFuncD → tBlockD → Option spec_l2Func.R) (l3 : Int → Int → Int → Int → Int → Int → tFuncD → tBlockD → Option spec_l2Func.R) (l4 : Int → Int → Int → Int → Int → tFuncD → tBlockD → Option spec_l2Func.R) (k : Nat) (x) : spec_l2Func.l3_ k l0 l1 l2 l3 l4 x.1.1.1 x.1.2.2.1.1 x.1.2.2.2.1.1 x.1.2.2.2.2.1.1 x.1.2.2.2.2.2.2.1.1 x.1.2.2.2.2.2.2.2.1.1 x.2.1 x.2.2.1 = roundOf tab (spec_l2Func.E k) (spec_l2Func.L l0 l1 l2 l3 l4) spec_l2Func.c (fin tab Tryz.f79 (spec_l2Func.s k)) 3 (spec_l2Func.L3 l3) x := by kernel_rfl
theorem spec_l2Func.r4 (l0 : Int → Int → Int → Int → tFuncD → Option spec_l2Func.R) (l1 : Int → Int → Int → Int → tFuncD → Option spec_l2Func.R) (l2 : Int → Int → Int → Int → Int → tFuncD → tBlockD → Option spec_l2Func.R) (l3 : Int → Int → Int → Int → Int → Int → tFuncD → tBlockD → Option spec_l2Func.R) (l4 : Int → Int → Int → Int → Int → tFuncD → tBlockD → Option spec_l2Func.R) (k : Nat) (x) : spec_l2Func.l4_ k l0 l1 l2 l3 l4 x.1.1.1 x.1.2.2.1.1 x.1.2.2.2.1.1 x.1.2.2.2.2.1.1 x.1.2.2.2.2.2.2.1.1 x.2.1 x.2.2.1 = roundOf tab (spec_l2Func.E k) (spec_l2Func.L l0 l1 l2 l3 l4) spec_l2Func.c (fin tab Tryz.f79 (spec_l2Func.s k)) 4 (spec_l2Func.L4 l4) x := by kernel_rfl
theorem spec_l2Func.sound : ∀ k, Sound Tryz.prog 79 (spec_l2Func.s k) := sound_of mixed tab_ok (f := 79) (fn := Tryz.f79) (c := spec_l2Func.c) (by kernel_rfl) (by kernel_rfl) (by kernel_rfl) ⟨[⟨true, [.lst (.int .i64), .int .i64, .lst tBlock]⟩, ⟨false, [.int .i64]⟩], [], false, [⟨false, [.bool]⟩], [], []⟩ (by kernel_rfl) (by kernel_rfl) (fun k => (spec_l2Func.s k).pf) spec_l2Func.E (fun k => (EntsOK.cons (spec_CountOf.sound k) (EntsOK.cons (spec_WidthOk.sound k) (EntsOK.cons (spec_l1In.sound k) (EntsOK.cons (spec_l2Inst.sound k) (EntsOK.cons (spec_l2Term.sound k) EntsOK.nil)))))) (fun k => spec_l2Func.L (spec_l2Func.l0 k) (spec_l2Func.l1 k) (spec_l2Func.l2 k) (spec_l2Func.l3 k) (spec_l2Func.l4 k)) (fun k => ⟨rfl, rfl, rfl, rfl, rfl, trivial⟩) ⟨fun _ => rfl, fun _ => rfl, fun _ => rfl, fun _ => rfl, fun _ => rfl, trivial⟩ (fun k => ⟨⟨(spec_l2Func.L0 (spec_l2Func.l0 (k + 1))).l, rfl, fun x => spec_l2Func.r0 (spec_l2Func.l0 k) (spec_l2Func.l1 k) (spec_l2Func.l2 k) (spec_l2Func.l3 k) (spec_l2Func.l4 k) k x⟩, ⟨(spec_l2Func.L1 (spec_l2Func.l1 (k + 1))).l, rfl, fun x => spec_l2Func.r1 (spec_l2Func.l0 k) (spec_l2Func.l1 k) (spec_l2Func.l2 k) (spec_l2Func.l3 k) (spec_l2Func.l4 k) k x⟩, ⟨(spec_l2Func.L2 (spec_l2Func.l2 (k + 1))).l, rfl, fun x => spec_l2Func.r2 (spec_l2Func.l0 k) (spec_l2Func.l1 k) (spec_l2Func.l2 k) (spec_l2Func.l3 k) (spec_l2Func.l4 k) k x⟩, ⟨(spec_l2Func.L3 (spec_l2Func.l3 (k + 1))).l, rfl, fun x => spec_l2Func.r3 (spec_l2Func.l0 k) (spec_l2Func.l1 k) (spec_l2Func.l2 k) (spec_l2Func.l3 k) (spec_l2Func.l4 k) k x⟩, ⟨(spec_l2Func.L4 (spec_l2Func.l4 (k + 1))).l, rfl, fun x => spec_l2Func.r4 (spec_l2Func.l0 k) (spec_l2Func.l1 k) (spec_l2Func.l2 k) (spec_l2Func.l3 k) (spec_l2Func.l4 k) k x⟩, trivial⟩) spec_l2Func.eq
end
end Go.Proofs.YtebgkcjpocfmmaaGreat.V
namespace Go.Proofs.YtebgkcjpocfmmaaGreat.V
open Go
set_option linter.unusedVariables false
noncomputable section
/-! ### spec.ShapeOk: function 37 -/
abbrev spec_ShapeOk.R := (((Bool × Unit) × Unit) × Unit)
def spec_ShapeOk.l0_ (k : Nat) (l0 : Int → (List tFuncD) → Option spec_ShapeOk.R) (a0 : Int) (a1 : List tFuncD) : Option spec_ShapeOk.R := bif decide (a0 < ((List.length a1 : Nat) : Int)) then (bif (decide (0 ≤ a0)) && (decide (a0 < ((List.length a1 : Nat) : Int))) then (Option.bind (spec_l2Func.f k (List.getD a1 (Int.toNat a0) tFuncZ) ((List.length a1 : Nat) : Int)) fun r1 => bif !r1.1.1.1 then (some (((false, ()), ()), ())) else (l0 (IntKind.wrap .i64 (a0 + 1)) a1)) else none) else (some (((true, ()), ()), ()))
def spec_ShapeOk.all : Nat → (Int → (List tFuncD) → Option spec_ShapeOk.R) × Unit
  | 0 => (fun _ _ => none, ())
  | k + 1 => (spec_ShapeOk.l0_ k (spec_ShapeOk.all k).1, ())
def spec_ShapeOk.l0 (k : Nat) : Int → (List tFuncD) → Option spec_ShapeOk.R := (spec_ShapeOk.all k).1
def spec_ShapeOk.f (k : Nat) (a0 : tModuleD) : Option spec_ShapeOk.R := Option.bind (spec_l1In.f k ((List.length a0.1 : Nat) : Int) 1 3) fun r1 => bif !r1.1.1.1 then (some (((false, ()), ()), ())) else (spec_ShapeOk.l0 k 0 a0.1)
def spec_ShapeOk.s (k : Nat) : FS := ⟨[⟨true, [.lst tFunc]⟩], [], false, [⟨false, [.bool]⟩], [], [], fun x => spec_ShapeOk.f k x.1.1⟩
def spec_ShapeOk.E (k : Nat) : Ents := [(⟨38, []⟩, spec_l1In.s k), (⟨79, []⟩, spec_l2Func.s k)]
def spec_ShapeOk.L0 (l : Int → (List tFuncD) → Option spec_ShapeOk.R) : LS spec_ShapeOk.R := ⟨[], [(1, ⟨false, [.ptr 100000 0]⟩), (3, ⟨false, [.int .i64]⟩)], [(100000, .box [.lst tFunc])], fun x => l x.1.2.1.1 x.2.1.1⟩
def spec_ShapeOk.L (l0 : Int → (List tFuncD) → Option spec_ShapeOk.R) : List (LS spec_ShapeOk.R) := [spec_ShapeOk.L0 l0]
def spec_ShapeOk.c : Code := Tryz.f37.body.getD .skip
theorem spec_ShapeOk.eq (k : Nat) (x) : (spec_ShapeOk.s k).pf x = execF tab (spec_ShapeOk.E k) Tryz.f37 spec_ShapeOk.c (spec_ShapeOk.s k) (spec_ShapeOk.L (spec_ShapeOk.l0 k)) x := by kernel_rfl
theorem spec_ShapeOk.r0 (l0 : Int → (List tFuncD) → Option spec_ShapeOk.R) (k : Nat) (x) : spec_ShapeOk.l0_ k l0 x.1.2.1.1 x.2.1.1 = roundOf tab (spec_ShapeOk.E k) (spec_ShapeOk.L l0) spec_ShapeOk.c (fin tab Tryz.f37 (spec_ShapeOk.s k)) 0 (spec_ShapeOk.L0 l0) x := by kernel_rfl
theorem spec_ShapeOk.sound : ∀ k, Sound Tryz.prog 37 (spec_ShapeOk.s k) := sound_of mixed tab_ok (f := 37) (fn := Tryz.f37) (c := spec_ShapeOk.c) (by kernel_rfl) (by kernel_rfl) (by kernel_rfl) ⟨[⟨true, [.lst tFunc]⟩], [], false, [⟨false, [.bool]⟩], [], []⟩ (by kernel_rfl) (by kernel_rfl) (fun k => (spec_ShapeOk.s k).pf) spec_ShapeOk.E (fun k => (EntsOK.cons (spec_l1In.sound k) (EntsOK.cons (spec_l2Func.sound k) EntsOK.nil))) (fun k => spec_ShapeOk.L (spec_ShapeOk.l0 k)) (fun k => ⟨rfl, trivial⟩) ⟨fun _ => rfl, trivial⟩ (fun k => ⟨⟨(spec_ShapeOk.L0 (spec_ShapeOk.l0 (k + 1))).l, rfl, fun x => spec_ShapeOk.r0 (spec_ShapeOk.l0 k) k x⟩, trivial⟩) spec_ShapeOk.eq
end
end Go.Proofs.YtebgkcjpocfmmaaGreat.V
namespace Go.Proofs.YtebgkcjpocfmmaaGreat.V
open Go
set_option linter.unusedVariables false
noncomputable section
/-! ### spec.l3Succs: function 143 -/
abbrev spec_l3Succs.R := (((Unit × Unit) × Unit) × ((List Int) × Unit))
def spec_l3Succs.f (k : Nat) (a0 : tFuncD) (a1 : Int) : Option spec_l3Succs.R := bif (decide (0 ≤ a1)) && (decide (a1 < ((List.length a0.2.2.1 : Nat) : Int))) then (bif decide ((List.getD a0.2.2.1 (Int.toNat a1) tBlockZ).2.2.1 = 2) then (some ((((), ()), ()), ([(List.getD a0.2.2.1 (Int.toNat a1) tBlockZ).2.2.2.2.1], ()))) else (bif decide ((List.getD a0.2.2.1 (Int.toNat a1) tBlockZ).2.2.1 = 3) then (some ((((), ()), ()), ([(List.getD a0.2.2.1 (Int.toNat a1) tBlockZ).2.2.2.2.1, (List.getD a0.2.2.1 (Int.toNat a1) tBlockZ).2.2.2.2.2.1], ()))) else (some ((((), ()), ()), (([] : List Int), ()))))) else none
def spec_l3Succs.s (k : Nat) : FS := ⟨[⟨true, [.lst (.int .i64), .int .i64, .lst tBlock]⟩, ⟨false, [.int .i64]⟩], [], false, [⟨false, [.own 100]⟩], [(100, .row true (.int .i64))], [], fun x => spec_l3Succs.f k x.1.1 x.1.2.1.1⟩
def spec_l3Succs.E (k : Nat) : Ents := []
def spec_l3Succs.L : List (LS spec_l3Succs.R) := []
def spec_l3Succs.c : Code := Tryz.f143.body.getD .skip
theorem spec_l3Succs.eq (k : Nat) (x) : (spec_l3Succs.s k).pf x = execF tab (spec_l3Succs.E k) Tryz.f143 spec_l3Succs.c (spec_l3Succs.s k) spec_l3Succs.L x := by kernel_rfl
theorem spec_l3Succs.sound : ∀ k, Sound Tryz.prog 143 (spec_l3Succs.s k) := sound_of mixed tab_ok (f := 143) (fn := Tryz.f143) (c := spec_l3Succs.c) (by kernel_rfl) (by kernel_rfl) (by kernel_rfl) ⟨[⟨true, [.lst (.int .i64), .int .i64, .lst tBlock]⟩, ⟨false, [.int .i64]⟩], [], false, [⟨false, [.own 100]⟩], [(100, .row true (.int .i64))], []⟩ (by kernel_rfl) (by kernel_rfl) (fun k => (spec_l3Succs.s k).pf) spec_l3Succs.E (fun k => EntsOK.nil) (fun k => spec_l3Succs.L) (fun k => trivial) trivial (fun k => trivial) spec_l3Succs.eq
end
end Go.Proofs.YtebgkcjpocfmmaaGreat.V
namespace Go.Proofs.YtebgkcjpocfmmaaGreat.V
open Go
set_option linter.unusedVariables false
noncomputable section
/-! ### spec.l1Has: function 26 -/
abbrev spec_l1Has.R := (((Bool × Unit) × Unit) × Unit)
def spec_l1Has.l0_ (k : Nat) (l0 : (List Int) → Int → Int → Option spec_l1Has.R) (a0 : List Int) (a1 : Int) (a2 : Int) : Option spec_l1Has.R := bif decide (a2 < ((List.length a0 : Nat) : Int)) then (bif (decide (0 ≤ a2)) && (decide (a2 < ((List.length a0 : Nat) : Int))) then (bif decide (List.getD a0 (Int.toNat a2) 0 = a1) then (some (((true, ()), ()), ())) else (l0 a0 a1 (IntKind.wrap .i64 (a2 + 1)))) else none) else (some (((false, ()), ()), ()))
def spec_l1Has.all : Nat → ((List Int) → Int → Int → Option spec_l1Has.R) × Unit
  | 0 => (fun _ _ _ => none, ())
  | k + 1 => (spec_l1Has.l0_ k (spec_l1Has.all k).1, ())
def spec_l1Has.l0 (k : Nat) : (List Int) → Int → Int → Option spec_l1Has.R := (spec_l1Has.all k).1
def spec_l1Has.f (k : Nat) (a0 : List Int) (a1 : Int) : Option spec_l1Has.R := spec_l1Has.l0 k a0 a1 0
def spec_l1Has.s (k : Nat) : FS := ⟨[⟨false, [.lst (.int .i64)]⟩, ⟨false, [.int .i64]⟩], [], false, [⟨false, [.bool]⟩], [], [], fun x => spec_l1Has.f k x.1.1.1 x.1.2.1.1⟩
def spec_l1Has.E (k : Nat) : Ents := []
def spec_l1Has.L0 (l : (List Int) → Int → Int → Option spec_l1Has.R) : LS spec_l1Has.R := ⟨[], [(0, ⟨false, [.lst (.int .i64)]⟩), (1, ⟨false, [.int .i64]⟩), (5, ⟨false, [.int .i64]⟩)], [], fun x => l x.1.1.1 x.1.2.1.1 x.1.2.2.1.1⟩
def spec_l1Has.L (l0 : (List Int) → Int → Int → Option spec_l1Has.R) : List (LS spec_l1Has.R) := [spec_l1Has.L0 l0]
def spec_l1Has.c : Code := Tryz.f26.body.getD .skip
theorem spec_l1Has.eq (k : Nat) (x) : (spec_l1Has.s k).pf x = execF tab (spec_l1Has.E k) Tryz.f26 spec_l1Has.c (spec_l1Has.s k) (spec_l1Has.L (spec_l1Has.l0 k)) x := by kernel_rfl
theorem spec_l1Has.r0 (l0 : (List Int) → Int → Int → Option spec_l1Has.R) (k : Nat) (x) : spec_l1Has.l0_ k l0 x.1.1.1 x.1.2.1.1 x.1.2.2.1.1 = roundOf tab (spec_l1Has.E k) (spec_l1Has.L l0) spec_l1Has.c (fin tab Tryz.f26 (spec_l1Has.s k)) 0 (spec_l1Has.L0 l0) x := by kernel_rfl
theorem spec_l1Has.sound : ∀ k, Sound Tryz.prog 26 (spec_l1Has.s k) := sound_of mixed tab_ok (f := 26) (fn := Tryz.f26) (c := spec_l1Has.c) (by kernel_rfl) (by kernel_rfl) (by kernel_rfl) ⟨[⟨false, [.lst (.int .i64)]⟩, ⟨false, [.int .i64]⟩], [], false, [⟨false, [.bool]⟩], [], []⟩ (by kernel_rfl) (by kernel_rfl) (fun k => (spec_l1Has.s k).pf) spec_l1Has.E (fun k => EntsOK.nil) (fun k => spec_l1Has.L (spec_l1Has.l0 k)) (fun k => ⟨rfl, trivial⟩) ⟨fun _ => rfl, trivial⟩ (fun k => ⟨⟨(spec_l1Has.L0 (spec_l1Has.l0 (k + 1))).l, rfl, fun x => spec_l1Has.r0 (spec_l1Has.l0 k) k x⟩, trivial⟩) spec_l1Has.eq
end
end Go.Proofs.YtebgkcjpocfmmaaGreat.V
namespace Go.Proofs.YtebgkcjpocfmmaaGreat.V
open Go
set_option linter.unusedVariables false
noncomputable section
/-! ### spec.l3Preds: function 80 -/
abbrev spec_l3Preds.R := (((Unit × Unit) × Unit) × ((List Int) × Unit))
def spec_l3Preds.l0_ (k : Nat) (l0 : Int → Int → tFuncD → (List Int) → Option spec_l3Preds.R) (a0 : Int) (a1 : Int) (a2 : tFuncD) (a3 : List Int) : Option spec_l3Preds.R := bif decide (a1 < ((List.length a2.2.2.1 : Nat) : Int)) then (Option.bind (spec_l3Succs.f k a2 a1) fun r1 => Option.bind (spec_l1Has.f k r1.2.1 a0) fun r2 => bif r2.1.1.1 then (bif decide ((List.length a3 + List.length [a1]) * 8 ≤ 140737488355328) then (l0 a0 (IntKind.wrap .i64 (a1 + 1)) a2 (a3 ++ [a1])) else none) else (l0 a0 (IntKind.wrap .i64 (a1 + 1)) a2 a3)) else (some ((((), ()), ()), (a3, ())))
def spec_l3Preds.all : Nat → (Int → Int → tFuncD → (List Int) → Option spec_l3Preds.R) × Unit
  | 0 => (fun _ _ _ _ => none, ())
  | k + 1 => (spec_l3Preds.l0_ k (spec_l3Preds.all k).1, ())
def spec_l3Preds.l0 (k : Nat) : Int → Int → tFuncD → (List Int) → Option spec_l3Preds.R := (spec_l3Preds.all k).1
def spec_l3Preds.f (k : Nat) (a0 : tFuncD) (a1 : Int) : Option spec_l3Preds.R := spec_l3Preds.l0 k a1 0 a0 ([] : List Int)
def spec_l3Preds.s (k : Nat) : FS := ⟨[⟨true, [.lst (.int .i64), .int .i64, .lst tBlock]⟩, ⟨false, [.int .i64]⟩], [], false, [⟨false, [.own 100]⟩], [(100, .row true (.int .i64))], [], fun x => spec_l3Preds.f k x.1.1 x.1.2.1.1⟩
def spec_l3Preds.E (k : Nat) : Ents := [(⟨143, []⟩, spec_l3Succs.s k), (⟨26, []⟩, spec_l1Has.s k)]
def spec_l3Preds.L0 (l : Int → Int → tFuncD → (List Int) → Option spec_l3Preds.R) : LS spec_l3Preds.R := ⟨[], [(1, ⟨false, [.int .i64]⟩), (2, ⟨false, [.ptr 100000 0]⟩), (5, ⟨false, [.own 100001]⟩), (6, ⟨false, [.int .i64]⟩)], [(100000, .box [.lst (.int .i64), .int .i64, .lst tBlock]), (100001, .row true (.int .i64))], fun x => l x.1.1.1 x.1.2.2.2.1.1 x.2.1 x.2.2.1⟩
def spec_l3Preds.L (l0 : Int → Int → tFuncD → (List Int) → Option spec_l3Preds.R) : List (LS spec_l3Preds.R) := [spec_l3Preds.L0 l0]
def spec_l3Preds.c : Code := Tryz.f80.body.getD .skip
theorem spec_l3Preds.eq (k : Nat) (x) : (spec_l3Preds.s k).pf x = execF tab (spec_l3Preds.E k) Tryz.f80 spec_l3Preds.c (spec_l3Preds.s k) (spec_l3Preds.L (spec_l3Preds.l0 k)) x := by kernel_rfl
theorem spec_l3Preds.r0 (l0 : Int → Int → tFuncD → (List Int) → Option spec_l3Preds.R) (k : Nat) (x) : spec_l3Preds.l0_ k l0 x.1.1.1 x.1.2.2.2.1.1 x.2.1 x.2.2.1 = roundOf tab (spec_l3Preds.E k) (spec_l3Preds.L l0) spec_l3Preds.c (fin tab Tryz.f80 (spec_l3Preds.s k)) 0 (spec_l3Preds.L0 l0) x := by kernel_rfl
theorem spec_l3Preds.sound : ∀ k, Sound Tryz.prog 80 (spec_l3Preds.s k) := sound_of mixed tab_ok (f := 80) (fn := Tryz.f80) (c := spec_l3Preds.c) (by kernel_rfl) (by kernel_rfl) (by kernel_rfl) ⟨[⟨true, [.lst (.int .i64), .int .i64, .lst tBlock]⟩, ⟨false, [.int .i64]⟩], [], false, [⟨false, [.own 100]⟩], [(100, .row true (.int .i64))], []⟩ (by kernel_rfl) (by kernel_rfl) (fun k => (spec_l3Preds.s k).pf) spec_l3Preds.E (fun k => (EntsOK.cons (spec_l3Succs.sound k) (EntsOK.cons (spec_l1Has.sound k) EntsOK.nil))) (fun k => spec_l3Preds.L (spec_l3Preds.l0 k)) (fun k => ⟨rfl, trivial⟩) ⟨fun _ => rfl, trivial⟩ (fun k => ⟨⟨(spec_l3Preds.L0 (spec_l3Preds.l0 (k + 1))).l, rfl, fun x => spec_l3Preds.r0 (spec_l3Preds.l0 k) k x⟩, trivial⟩) spec_l3Preds.eq
end
end Go.Proofs.YtebgkcjpocfmmaaGreat.V
namespace Go.Proofs.YtebgkcjpocfmmaaGreat.V
open Go
set_option linter.unusedVariables false
noncomputable section
/-! ### spec.l4Phis: function 81 -/
abbrev spec_l4Phis.R := (((Bool × Unit) × Unit) × Unit)
def spec_l4Phis.l0_ (k : Nat) (l0 : Int → tFuncD → Option spec_l4Phis.R) (l1 : Int → Int → Int → tFuncD → Option spec_l4Phis.R) (a0 : Int) (a1 : tFuncD) : Option spec_l4Phis.R := bif decide (a0 < ((List.length a1.2.2.1 : Nat) : Int)) then (Option.bind (spec_l3Preds.f k a1 a0) fun r1 => l1 a0 ((List.length r1.2.1 : Nat) : Int) 0 a1) else (some (((true, ()), ()), ()))
def spec_l4Phis.l1_ (k : Nat) (l0 : Int → tFuncD → Option spec_l4Phis.R) (l1 : Int → Int → Int → tFuncD → Option spec_l4Phis.R) (a0 : Int) (a1 : Int) (a2 : Int) (a3 : tFuncD) : Option spec_l4Phis.R := bif (decide (0 ≤ a0)) && (decide (a0 < ((List.length a3.2.2.1 : Nat) : Int))) then (bif decide (a2 < ((List.length ((List.getD a3.2.2.1 (Int.toNat a0) tBlockZ).1) : Nat) : Int)) then (bif (decide (0 ≤ a0)) && (decide (a0 < ((List.length a3.2.2.1 : Nat) : Int))) then (bif (decide (0 ≤ a2)) && (decide (a2 < ((List.length ((List.getD a3.2.2.1 (Int.toNat a0) tBlockZ).1) : Nat) : Int))) then (bif !decide (((List.length ((List.getD ((List.getD a3.2.2.1 (Int.toNat a0) tBlockZ).1) (Int.toNat a2) tPhiZ).2.1) : Nat) : Int) = a1) then (some (((false, ()), ()), ())) else (l1 a0 a1 (IntKind.wrap .i64 (a2 + 1)) a3)) else none) else none) else (l0 (IntKind.wrap .i64 (a0 + 1)) a3)) else none
def spec_l4Phis.all : Nat → (Int → tFuncD → Option spec_l4Phis.R) × (Int → Int → Int → tFuncD → Option spec_l4Phis.R) × Unit
  | 0 => (fun _ _ => none, fun _ _ _ _ => none, ())
  | k + 1 => (spec_l4Phis.l0_ k (spec_l4Phis.all k).1 (spec_l4Phis.all k).2.1, spec_l4Phis.l1_ k (spec_l4Phis.all k).1 (spec_l4Phis.all k).2.1, ())
def spec_l4Phis.l0 (k : Nat) : Int → tFuncD → Option spec_l4Phis.R := (spec_l4Phis.all k).1
def spec_l4Phis.l1 (k : Nat) : Int → Int → Int → tFuncD → Option spec_l4Phis.R := (spec_l4Phis.all k).2.1
def spec_l4Phis.f (k : Nat) (a0 : tFuncD) : Option spec_l4Phis.R := spec_l4Phis.l0 k 0 a0
def spec_l4Phis.s (k : Nat) : FS := ⟨[⟨true, [.lst (.int .i64), .int .i64, .lst tBlock]⟩], [], false, [⟨false, [.bool]⟩], [], [], fun x => spec_l4Phis.f k x.1.1⟩
def spec_l4Phis.E (k : Nat) : Ents := [(⟨80, []⟩, spec_l3Preds.s k)]
def spec_l4Phis.L0 (l : Int → tFuncD → Option spec_l4Phis.R) : LS spec_l4Phis.R := ⟨[], [(1, ⟨false, [.ptr 100000 0]⟩), (3, ⟨false, [.int .i64]⟩)], [(100000, .box [.lst (.int .i64), .int .i64, .lst tBlock])], fun x => l x.1.2.1.1 x.2.1⟩
def spec_l4Phis.L1 (l : Int → Int → Int → tFuncD → Option spec_l4Phis.R) : LS spec_l4Phis.R := ⟨[], [(1, ⟨false, [.ptr 100000 0]⟩), (3, ⟨false, [.int .i64]⟩), (4, ⟨false, [.int .i64]⟩), (5, ⟨false, [.int .i64]⟩)], [(100000, .box [.lst (.int .i64), .int .i64, .lst tBlock])], fun x => l x.1.2.1.1 x.1.2.2.1.1 x.1.2.2.2.1.1 x.2.1⟩
def spec_l4Phis.L (l0 : Int → tFuncD → Option spec_l4Phis.R) (l1 : Int → Int → Int → tFuncD → Option spec_l4Phis.R) : List (LS spec_l4Phis.R) := [spec_l4Phis.L0 l0, spec_l4Phis.L1 l1]
def spec_l4Phis.c : Code := Tryz.f81.body.getD .skip
theorem spec_l4Phis.eq (k : Nat) (x) : (spec_l4Phis.s k).pf x = execF tab (spec_l4Phis.E k) Tryz.f81 spec_l4Phis.c (spec_l4Phis.s k) (spec_l4Phis.L (spec_l4Phis.l0 k) (spec_l4Phis.l1 k)) x := by kernel_rfl
theorem spec_l4Phis.r0 (l0 : Int → tFuncD → Option spec_l4Phis.R) (l1 : Int → Int → Int → tFuncD → Option spec_l4Phis.R) (k : Nat) (x) : spec_l4Phis.l0_ k l0 l1 x.1.2.1.1 x.2.1 = roundOf tab (spec_l4Phis.E k) (spec_l4Phis.L l0 l1) spec_l4Phis.c (fin tab Tryz.f81 (spec_l4Phis.s k)) 0 (spec_l4Phis.L0 l0) x := by kernel_rfl
theorem spec_l4Phis.r1 (l0 : Int → tFuncD → Option spec_l4Phis.R) (l1 : Int → Int → Int → tFuncD → Option spec_l4Phis.R) (k : Nat) (x) : spec_l4Phis.l1_ k l0 l1 x.1.2.1.1 x.1.2.2.1.1 x.1.2.2.2.1.1 x.2.1 = roundOf tab (spec_l4Phis.E k) (spec_l4Phis.L l0 l1) spec_l4Phis.c (fin tab Tryz.f81 (spec_l4Phis.s k)) 1 (spec_l4Phis.L1 l1) x := by kernel_rfl
theorem spec_l4Phis.sound : ∀ k, Sound Tryz.prog 81 (spec_l4Phis.s k) := sound_of mixed tab_ok (f := 81) (fn := Tryz.f81) (c := spec_l4Phis.c) (by kernel_rfl) (by kernel_rfl) (by kernel_rfl) ⟨[⟨true, [.lst (.int .i64), .int .i64, .lst tBlock]⟩], [], false, [⟨false, [.bool]⟩], [], []⟩ (by kernel_rfl) (by kernel_rfl) (fun k => (spec_l4Phis.s k).pf) spec_l4Phis.E (fun k => (EntsOK.cons (spec_l3Preds.sound k) EntsOK.nil)) (fun k => spec_l4Phis.L (spec_l4Phis.l0 k) (spec_l4Phis.l1 k)) (fun k => ⟨rfl, rfl, trivial⟩) ⟨fun _ => rfl, fun _ => rfl, trivial⟩ (fun k => ⟨⟨(spec_l4Phis.L0 (spec_l4Phis.l0 (k + 1))).l, rfl, fun x => spec_l4Phis.r0 (spec_l4Phis.l0 k) (spec_l4Phis.l1 k) k x⟩, ⟨(spec_l4Phis.L1 (spec_l4Phis.l1 (k + 1))).l, rfl, fun x => spec_l4Phis.r1 (spec_l4Phis.l0 k) (spec_l4Phis.l1 k) k x⟩, trivial⟩) spec_l4Phis.eq
end
end Go.Proofs.YtebgkcjpocfmmaaGreat.V
namespace Go.Proofs.YtebgkcjpocfmmaaGreat.V
open Go
set_option linter.unusedVariables false
noncomputable section
/-! ### spec.l2Place: function 53 -/
abbrev spec_l2Place.R := (((Int × Unit) × (Int × Unit) × Unit) × Unit)
def spec_l2Place.l0_ (k : Nat) (l0 : Int → Int → tFuncD → Option spec_l2Place.R) (a0 : Int) (a1 : Int) (a2 : tFuncD) : Option spec_l2Place.R := bif decide (a1 < ((List.length a2.2.2.1 : Nat) : Int)) then (bif (decide (0 ≤ a1)) && (decide (a1 < ((List.length a2.2.2.1 : Nat) : Int))) then (bif (decide (0 ≤ a1)) && (decide (a1 < ((List.length a2.2.2.1 : Nat) : Int))) then (bif decide (a0 < IntKind.wrap .i64 (((List.length ((List.getD a2.2.2.1 (Int.toNat a1) tBlockZ).1) : Nat) : Int) + ((List.length ((List.getD a2.2.2.1 (Int.toNat a1) tBlockZ).2.1) : Nat) : Int))) then (some (((a1, ()), (a0, ()), ()), ())) else (l0 (IntKind.wrap .i64 (a0 - (IntKind.wrap .i64 (((List.length ((List.getD a2.2.2.1 (Int.toNat a1) tBlockZ).1) : Nat) : Int) + ((List.length ((List.getD a2.2.2.1 (Int.toNat a1) tBlockZ).2.1) : Nat) : Int))))) (IntKind.wrap .i64 (a1 + 1)) a2)) else none) else none) else (some (((-2, ()), (0, ()), ()), ()))
def spec_l2Place.all : Nat → (Int → Int → tFuncD → Option spec_l2Place.R) × Unit
  | 0 => (fun _ _ _ => none, ())
  | k + 1 => (spec_l2Place.l0_ k (spec_l2Place.all k).1, ())
def spec_l2Place.l0 (k : Nat) : Int → Int → tFuncD → Option spec_l2Place.R := (spec_l2Place.all k).1
def spec_l2Place.f (k : Nat) (a0 : tFuncD) (a1 : Int) : Option spec_l2Place.R := bif decide (a1 < 0) then (some (((-2, ()), (0, ()), ()), ())) else (bif decide (a1 < ((List.length a0.1 : Nat) : Int)) then (some (((-1, ()), (a1, ()), ()), ())) else (spec_l2Place.l0 k (IntKind.wrap .i64 (a1 - ((List.length a0.1 : Nat) : Int))) 0 a0))
def spec_l2Place.s (k : Nat) : FS := ⟨[⟨true, [.lst (.int .i64), .int .i64, .lst tBlock]⟩, ⟨false, [.int .i64]⟩], [], true, [⟨false, [.int .i64]⟩, ⟨false, [.int .i64]⟩], [], [], fun x => spec_l2Place.f k x.1.1 x.1.2.1.1⟩
def spec_l2Place.E (k : Nat) : Ents := []
def spec_l2Place.L0 (l : Int → Int → tFuncD → Option spec_l2Place.R) : LS spec_l2Place.R := ⟨[], [(1, ⟨false, [.int .i64]⟩), (2, ⟨false, [.ptr 100000 0]⟩), (6, ⟨false, [.int .i64]⟩)], [(100000, .box [.lst (.int .i64), .int .i64, .lst tBlock])], fun x => l x.1.1.1 x.1.2.2.1.1 x.2.1⟩
def spec_l2Place.L (l0 : Int → Int → tFuncD → Option spec_l2Place.R) : List (LS spec_l2Place.R) := [spec_l2Place.L0 l0]
def spec_l2Place.c : Code := Tryz.f53.body.getD .skip
theorem spec_l2Place.eq (k : Nat) (x) : (spec_l2Place.s k).pf x = execF tab (spec_l2Place.E k) Tryz.f53 spec_l2Place.c (spec_l2Place.s k) (spec_l2Place.L (spec_l2Place.l0 k)) x := by kernel_rfl
theorem spec_l2Place.r0 (l0 : Int → Int → tFuncD → Option spec_l2Place.R) (k : Nat) (x) : spec_l2Place.l0_ k l0 x.1.1.1 x.1.2.2.1.1 x.2.1 = roundOf tab (spec_l2Place.E k) (spec_l2Place.L l0) spec_l2Place.c (fin tab Tryz.f53 (spec_l2Place.s k)) 0 (spec_l2Place.L0 l0) x := by kernel_rfl
theorem spec_l2Place.sound : ∀ k, Sound Tryz.prog 53 (spec_l2Place.s k) := sound_of mixed tab_ok (f := 53) (fn := Tryz.f53) (c := spec_l2Place.c) (by kernel_rfl) (by kernel_rfl) (by kernel_rfl) ⟨[⟨true, [.lst (.int .i64), .int .i64, .lst tBlock]⟩, ⟨false, [.int .i64]⟩], [], true, [⟨false, [.int .i64]⟩, ⟨false, [.int .i64]⟩], [], []⟩ (by kernel_rfl) (by kernel_rfl) (fun k => (spec_l2Place.s k).pf) spec_l2Place.E (fun k => EntsOK.nil) (fun k => spec_l2Place.L (spec_l2Place.l0 k)) (fun k => ⟨rfl, trivial⟩) ⟨fun _ => rfl, trivial⟩ (fun k => ⟨⟨(spec_l2Place.L0 (spec_l2Place.l0 (k + 1))).l, rfl, fun x => spec_l2Place.r0 (spec_l2Place.l0 k) k x⟩, trivial⟩) spec_l2Place.eq
end
end Go.Proofs.YtebgkcjpocfmmaaGreat.V
namespace Go.Proofs.YtebgkcjpocfmmaaGreat.V
open Go
set_option linter.unusedVariables false
noncomputable section
/-! ### spec.ResultWidth: function 175 -/
abbrev spec_ResultWidth.R := (((Int × Unit) × Unit) × Unit)
def spec_ResultWidth.f (k : Nat) (a0 : Int) (a1 : Int) : Option spec_ResultWidth.R := Option.bind (spec_WidthOk.f k a1) fun r1 => bif !r1.1.1.1 then (some (((0, ()), ()), ())) else (Option.bind (spec_l1In.f k a0 1 17) fun r2 => bif !r2.1.1.1 then (some (((0, ()), ()), ())) else (bif decide (14 ≤ a0) then (some (((1, ()), ()), ())) else (some (((a1, ()), ()), ()))))
def spec_ResultWidth.s (k : Nat) : FS := ⟨[⟨false, [.int .i64]⟩, ⟨false, [.int .i64]⟩], [], false, [⟨false, [.int .i64]⟩], [], [], fun x => spec_ResultWidth.f k x.1.1.1 x.1.2.1.1⟩
def spec_ResultWidth.E (k : Nat) : Ents := [(⟨140, []⟩, spec_WidthOk.s k), (⟨38, []⟩, spec_l1In.s k)]
def spec_ResultWidth.L : List (LS spec_ResultWidth.R) := []
def spec_ResultWidth.c : Code := Tryz.f175.body.getD .skip
theorem spec_ResultWidth.eq (k : Nat) (x) : (spec_ResultWidth.s k).pf x = execF tab (spec_ResultWidth.E k) Tryz.f175 spec_ResultWidth.c (spec_ResultWidth.s k) spec_ResultWidth.L x := by kernel_rfl
theorem spec_ResultWidth.sound : ∀ k, Sound Tryz.prog 175 (spec_ResultWidth.s k) := sound_of mixed tab_ok (f := 175) (fn := Tryz.f175) (c := spec_ResultWidth.c) (by kernel_rfl) (by kernel_rfl) (by kernel_rfl) ⟨[⟨false, [.int .i64]⟩, ⟨false, [.int .i64]⟩], [], false, [⟨false, [.int .i64]⟩], [], []⟩ (by kernel_rfl) (by kernel_rfl) (fun k => (spec_ResultWidth.s k).pf) spec_ResultWidth.E (fun k => (EntsOK.cons (spec_WidthOk.sound k) (EntsOK.cons (spec_l1In.sound k) EntsOK.nil))) (fun k => spec_ResultWidth.L) (fun k => trivial) trivial (fun k => trivial) spec_ResultWidth.eq
end
end Go.Proofs.YtebgkcjpocfmmaaGreat.V
namespace Go.Proofs.YtebgkcjpocfmmaaGreat.V
open Go
set_option linter.unusedVariables false
noncomputable section
/-! ### spec.l2Width: function 125 -/
abbrev spec_l2Width.R := (((Int × Unit) × Unit) × Unit)
def spec_l2Width.f (k : Nat) (a0 : tInstD) : Option spec_l2Width.R := Option.bind (spec_l1In.f k a0.1 1 17) fun r1 => bif r1.1.1.1 then (Option.bind (spec_ResultWidth.f k a0.1 a0.2.1) fun r2 => some (((r2.1.1.1, ()), ()), ())) else (some (((a0.2.1, ()), ()), ()))
def spec_l2Width.s (k : Nat) : FS := ⟨[⟨true, [.int .i64, .int .i64, .int .i64, .int .i64, .int .i64, .int .i64, .lst (.int .i64)]⟩], [], false, [⟨false, [.int .i64]⟩], [], [], fun x => spec_l2Width.f k x.1.1⟩
def spec_l2Width.E (k : Nat) : Ents := [(⟨38, []⟩, spec_l1In.s k), (⟨175, []⟩, spec_ResultWidth.s k)]
def spec_l2Width.L : List (LS spec_l2Width.R) := []
def spec_l2Width.c : Code := Tryz.f125.body.getD .skip
theorem spec_l2Width.eq (k : Nat) (x) : (spec_l2Width.s k).pf x = execF tab (spec_l2Width.E k) Tryz.f125 spec_l2Width.c (spec_l2Width.s k) spec_l2Width.L x := by kernel_rfl
theorem spec_l2Width.sound : ∀ k, Sound Tryz.prog 125 (spec_l2Width.s k) := sound_of mixed tab_ok (f := 125) (fn := Tryz.f125) (c := spec_l2Width.c) (by kernel_rfl) (by kernel_rfl) (by kernel_rfl) ⟨[⟨true, [.int .i64, .int .i64, .int .i64, .int .i64, .int .i64, .int .i64, .lst (.int .i64)]⟩], [], false, [⟨false, [.int .i64]⟩], [], []⟩ (by kernel_rfl) (by kernel_rfl) (fun k => (spec_l2Width.s k).pf) spec_l2Width.E (fun k => (EntsOK.cons (spec_l1In.sound k) (EntsOK.cons (spec_ResultWidth.sound k) EntsOK.nil))) (fun k => spec_l2Width.L) (fun k => trivial) trivial (fun k => trivial) spec_l2Width.eq
end
end Go.Proofs.YtebgkcjpocfmmaaGreat.V
namespace Go.Proofs.YtebgkcjpocfmmaaGreat.V
open Go
set_option linter.unusedVariables false
noncomputable section
/-! ### spec.TypeOf: function 129 -/
abbrev spec_TypeOf.R := (((Int × Unit) × Unit) × Unit)
def spec_TypeOf.f (k : Nat) (a0 : tFuncD) (a1 : Int) : Option spec_TypeOf.R := Option.bind (spec_l2Place.f k a0 a1) fun r1 => bif decide (r1.1.1.1 = -2) then (some (((-1, ()), ()), ())) else (bif decide (r1.1.1.1 = -1) then (bif (decide (0 ≤ r1.1.2.1.1)) && (decide (r1.1.2.1.1 < ((List.length a0.1 : Nat) : Int))) then (some (((List.getD a0.1 (Int.toNat r1.1.2.1.1) 0, ()), ()), ())) else none) else (bif (decide (0 ≤ r1.1.1.1)) && (decide (r1.1.1.1 < ((List.length a0.2.2.1 : Nat) : Int))) then (bif decide (r1.1.2.1.1 < ((List.length ((List.getD a0.2.2.1 (Int.toNat r1.1.1.1) tBlockZ).1) : Nat) : Int)) then (bif (decide (0 ≤ r1.1.2.1.1)) && (decide (r1.1.2.1.1 < ((List.length ((List.getD a0.2.2.1 (Int.toNat r1.1.1.1) tBlockZ).1) : Nat) : Int))) then (some ((((List.getD ((List.getD a0.2.2.1 (Int.toNat r1.1.1.1) tBlockZ).1) (Int.toNat r1.1.2.1.1) tPhiZ).1, ()), ()), ())) else none) else (bif (decide (0 ≤ IntKind.wrap .i64 (r1.1.2.1.1 - ((List.length ((List.getD a0.2.2.1 (Int.toNat r1.1.1.1) tBlockZ).1) : Nat) : Int)))) && (decide (IntKind.wrap .i64 (r1.1.2.1.1 - ((List.length ((List.getD a0.2.2.1 (Int.toNat r1.1.1.1) tBlockZ).1) : Nat) : Int)) < ((List.length ((List.getD a0.2.2.1 (Int.toNat r1.1.1.1) tBlockZ).2.1) : Nat) : Int))) then (Option.bind (spec_l2Width.f k (List.getD ((List.getD a0.2.2.1 (Int.toNat r1.1.1.1) tBlockZ).2.1) (Int.toNat (IntKind.wrap .i64 (r1.1.2.1.1 - ((List.length ((List.getD a0.2.2.1 (Int.toNat r1.1.1.1) tBlockZ).1) : Nat) : Int)))) tInstZ)) fun r2 => some (((r2.1.1.1, ()), ()), ())) else none)) else none))
def spec_TypeOf.s (k : Nat) : FS := ⟨[⟨true, [.lst (.int .i64), .int .i64, .lst tBlock]⟩, ⟨false, [.int .i64]⟩], [], false, [⟨false, [.int .i64]⟩], [], [], fun x => spec_TypeOf.f k x.1.1 x.1.2.1.1⟩
def spec_TypeOf.E (k : Nat) : Ents := [(⟨53, []⟩, spec_l2Place.s k), (⟨125, []⟩, spec_l2Width.s k)]
def spec_TypeOf.L : List (LS spec_TypeOf.R) := []
def spec_TypeOf.c : Code := Tryz.f129.body.getD .skip
theorem spec_TypeOf.eq (k : Nat) (x) : (spec_TypeOf.s k).pf x = execF tab (spec_TypeOf.E k) Tryz.f129 spec_TypeOf.c (spec_TypeOf.s k) spec_TypeOf.L x := by kernel_rfl
theorem spec_TypeOf.sound : ∀ k, Sound Tryz.prog 129 (spec_TypeOf.s k) := sound_of mixed tab_ok (f := 129) (fn := Tryz.f129) (c := spec_TypeOf.c) (by kernel_rfl) (by kernel_rfl) (by kernel_rfl) ⟨[⟨true, [.lst (.int .i64), .int .i64, .lst tBlock]⟩, ⟨false, [.int .i64]⟩], [], false, [⟨false, [.int .i64]⟩], [], []⟩ (by kernel_rfl) (by kernel_rfl) (fun k => (spec_TypeOf.s k).pf) spec_TypeOf.E (fun k => (EntsOK.cons (spec_l2Place.sound k) (EntsOK.cons (spec_l2Width.sound k) EntsOK.nil))) (fun k => spec_TypeOf.L) (fun k => trivial) trivial (fun k => trivial) spec_TypeOf.eq
end
end Go.Proofs.YtebgkcjpocfmmaaGreat.V
namespace Go.Proofs.YtebgkcjpocfmmaaGreat.V
open Go
set_option linter.unusedVariables false
noncomputable section
/-! ### spec.l4Args: function 144 -/
abbrev spec_l4Args.R := (((Bool × Unit) × Unit) × Unit)
def spec_l4Args.f (k : Nat) (a0 : tFuncD) (a1 : tInstD) : Option spec_l4Args.R := Option.bind (spec_TypeOf.f k a0 a1.2.2.1) fun r1 => Option.bind (spec_l1In.f k a1.1 1 17) fun r2 => bif r2.1.1.1 then (bif decide (r1.1.1.1 = a1.2.1) then (Option.bind (spec_TypeOf.f k a0 a1.2.2.2.1) fun r3 => some (((decide (r3.1.1.1 = a1.2.1), ()), ()), ())) else (some (((false, ()), ()), ()))) else (bif decide (a1.1 = 18) then (bif decide (0 < r1.1.1.1) then (some (((decide (r1.1.1.1 < a1.2.1), ()), ()), ())) else (some (((false, ()), ()), ()))) else (bif decide (a1.1 = 19) then (bif decide (0 < r1.1.1.1) then (some (((decide (r1.1.1.1 < a1.2.1), ()), ()), ())) else (some (((false, ()), ()), ()))) else (bif decide (a1.1 = 20) then (some (((decide (a1.2.1 < r1.1.1.1), ()), ()), ())) else (bif decide (a1.1 = 22) then (bif decide (r1.1.1.1 = 1) then (Option.bind (spec_TypeOf.f k a0 a1.2.2.2.1) fun r4 => bif decide (r4.1.1.1 = a1.2.1) then (Option.bind (spec_TypeOf.f k a0 a1.2.2.2.2.1) fun r5 => some (((decide (r5.1.1.1 = a1.2.1), ()), ()), ())) else (some (((false, ()), ()), ()))) else (some (((false, ()), ()), ()))) else (bif decide (a1.1 = 23) then (some (((decide (r1.1.1.1 = 32), ()), ()), ())) else (bif decide (a1.1 = 24) then (bif decide (r1.1.1.1 = 32) then (Option.bind (spec_TypeOf.f k a0 a1.2.2.2.1) fun r6 => some (((decide (r6.1.1.1 = 8), ()), ()), ())) else (some (((false, ()), ()), ()))) else (bif decide (a1.1 = 25) then (some (((decide (0 < r1.1.1.1), ()), ()), ())) else (bif decide (a1.1 = 27) then (some (((decide (r1.1.1.1 = a1.2.1), ()), ()), ())) else (some (((true, ()), ()), ()))))))))))
def spec_l4Args.s (k : Nat) : FS := ⟨[⟨true, [.lst (.int .i64), .int .i64, .lst tBlock]⟩, ⟨true, [.int .i64, .int .i64, .int .i64, .int .i64, .int .i64, .int .i64, .lst (.int .i64)]⟩], [], false, [⟨false, [.bool]⟩], [], [], fun x => spec_l4Args.f k x.1.1 x.1.2.1⟩
def spec_l4Args.E (k : Nat) : Ents := [(⟨129, []⟩, spec_TypeOf.s k), (⟨38, []⟩, spec_l1In.s k)]
def spec_l4Args.L : List (LS spec_l4Args.R) := []
def spec_l4Args.c : Code := Tryz.f144.body.getD .skip
theorem spec_l4Args.eq (k : Nat) (x) : (spec_l4Args.s k).pf x = execF tab (spec_l4Args.E k) Tryz.f144 spec_l4Args.c (spec_l4Args.s k) spec_l4Args.L x := by kernel_rfl
theorem spec_l4Args.sound : ∀ k, Sound Tryz.prog 144 (spec_l4Args.s k) := sound_of mixed tab_ok (f := 144) (fn := Tryz.f144) (c := spec_l4Args.c) (by kernel_rfl) (by kernel_rfl) (by kernel_rfl) ⟨[⟨true, [.lst (.int .i64), .int .i64, .lst tBlock]⟩, ⟨true, [.int .i64, .int .i64, .int .i64, .int .i64, .int .i64, .int .i64, .lst (.int .i64)]⟩], [], false, [⟨false, [.bool]⟩], [], []⟩ (by kernel_rfl) (by kernel_rfl) (fun k => (spec_l4Args.s k).pf) spec_l4Args.E (fun k => (EntsOK.cons (spec_TypeOf.sound k) (EntsOK.cons (spec_l1In.sound k) EntsOK.nil))) (fun k => spec_l4Args.L) (fun k => trivial) trivial (fun k => trivial) spec_l4Args.eq
end
end Go.Proofs.YtebgkcjpocfmmaaGreat.V
namespace Go.Proofs.YtebgkcjpocfmmaaGreat.V
open Go
set_option linter.unusedVariables false
noncomputable section
/-! ### spec.l4Types: function 82 -/
abbrev spec_l4Types.R := (((Bool × Unit) × Unit) × Unit)
def spec_l4Types.l0_ (k : Nat) (l0 : Int → tFuncD → Option spec_l4Types.R) (l1 : Int → Int → tFuncD → tBlockD → Option spec_l4Types.R) (l2 : Int → Int → Int → tFuncD → tBlockD → Option spec_l4Types.R) (l3 : Int → Int → tFuncD → tBlockD → Option spec_l4Types.R) (a0 : Int) (a1 : tFuncD) : Option spec_l4Types.R := bif decide (a0 < ((List.length a1.2.2.1 : Nat) : Int)) then (bif (decide (0 ≤ a0)) && (decide (a0 < ((List.length a1.2.2.1 : Nat) : Int))) then (l1 a0 0 a1 (List.getD a1.2.2.1 (Int.toNat a0) tBlockZ)) else none) else (some (((true, ()), ()), ()))
def spec_l4Types.l1_ (k : Nat) (l0 : Int → tFuncD → Option spec_l4Types.R) (l1 : Int → Int → tFuncD → tBlockD → Option spec_l4Types.R) (l2 : Int → Int → Int → tFuncD → tBlockD → Option spec_l4Types.R) (l3 : Int → Int → tFuncD → tBlockD → Option spec_l4Types.R) (a0 : Int) (a1 : Int) (a2 : tFuncD) (a3 : tBlockD) : Option spec_l4Types.R := bif decide (a1 < ((List.length a3.1 : Nat) : Int)) then (l2 a0 a1 0 a2 a3) else (l3 a0 0 a2 a3)
def spec_l4Types.l2_ (k : Nat) (l0 : Int → tFuncD → Option spec_l4Types.R) (l1 : Int → Int → tFuncD → tBlockD → Option spec_l4Types.R) (l2 : Int → Int → Int → tFuncD → tBlockD → Option spec_l4Types.R) (l3 : Int → Int → tFuncD → tBlockD → Option spec_l4Types.R) (a0 : Int) (a1 : Int) (a2 : Int) (a3 : tFuncD) (a4 : tBlockD) : Option spec_l4Types.R := bif (decide (0 ≤ a1)) && (decide (a1 < ((List.length a4.1 : Nat) : Int))) then (bif decide (a2 < ((List.length ((List.getD a4.1 (Int.toNat a1) tPhiZ).2.1) : Nat) : Int)) then (bif (decide (0 ≤ a1)) && (decide (a1 < ((List.length a4.1 : Nat) : Int))) then (bif (decide (0 ≤ a2)) && (decide (a2 < ((List.length ((List.getD a4.1 (Int.toNat a1) tPhiZ).2.1) : Nat) : Int))) then (Option.bind (spec_TypeOf.f k a3 (List.getD ((List.getD a4.1 (Int.toNat a1) tPhiZ).2.1) (Int.toNat a2) 0)) fun r1 => bif (decide (0 ≤ a1)) && (decide (a1 < ((List.length a4.1 : Nat) : Int))) then (bif !decide (r1.1.1.1 = (List.getD a4.1 (Int.toNat a1) tPhiZ).1) then (some (((false, ()), ()), ())) else (l2 a0 a1 (IntKind.wrap .i64 (a2 + 1)) a3 a4)) else none) else none) else none) else (l1 a0 (IntKind.wrap .i64 (a1 + 1)) a3 a4)) else none
def spec_l4Types.l3_ (k : Nat) (l0 : Int → tFuncD → Option spec_l4Types.R) (l1 : Int → Int → tFuncD → tBlockD → Option spec_l4Types.R) (l2 : Int → Int → Int → tFuncD → tBlockD → Option spec_l4Types.R) (l3 : Int → Int → tFuncD → tBlockD → Option spec_l4Types.R) (a0 : Int) (a1 : Int) (a2 : tFuncD) (a3 : tBlockD) : Option spec_l4Types.R := bif decide (a1 < ((List.length a3.2.1 : Nat) : Int)) then (bif (decide (0 ≤ a1)) && (decide (a1 < ((List.length a3.2.1 : Nat) : Int))) then (Option.bind (spec_l4Args.f k a2 (List.getD a3.2.1 (Int.toNat a1) tInstZ)) fun r1 => bif !r1.1.1.1 then (some (((false, ()), ()), ())) else (l3 a0 (IntKind.wrap .i64 (a1 + 1)) a2 a3)) else none) else (bif decide (a3.2.2.1 = 1) then (Option.bind (spec_TypeOf.f k a2 a3.2.2.2.1) fun r2 => bif !decide (r2.1.1.1 = a2.2.1) then (some (((false, ()), ()), ())) else (bif decide (a3.2.2.1 = 3) then (Option.bind (spec_TypeOf.f k a2 a3.2.2.2.1) fun r3 => bif !decide (r3.1.1.1 = 1) then (some (((false, ()), ()), ())) else (l0 (IntKind.wrap .i64 (a0 + 1)) a2)) else (l0 (IntKind.wrap .i64 (a0 + 1)) a2))) else (bif decide (a3.2.2.1 = 3) then (Option.bind (spec_TypeOf.f k a2 a3.2.2.2.1) fun r4 => bif !decide (r4.1.1.1 = 1) then (some (((false, ()), ()), ())) else (l0 (IntKind.wrap .i64 (a0 + 1)) a2)) else (l0 (IntKind.wrap .i64 (a0 + 1)) a2)))
def spec_l4Types.all : Nat → (Int → tFuncD → Option spec_l4Types.R) × (Int → Int → tFuncD → tBlockD → Option spec_l4Types.R) × (Int → Int → Int → tFuncD → tBlockD → Option spec_l4Types.R) × (Int → Int → tFuncD → tBlockD → Option spec_l4Types.R) × Unit
  | 0 => (fun _ _ => none, fun _ _ _ _ => none, fun _ _ _ _ _ => none, fun _ _ _ _ => none, ())
  | k + 1 => (spec_l4Types.l0_ k (spec_l4Types.all k).1 (spec_l4Types.all k).2.1 (spec_l4Types.all k).2.2.1 (spec_l4Types.all k).2.2.2.1, spec_l4Types.l1_ k (spec_l4Types.all k).1 (spec_l4Types.all k).2.1 (spec_l4Types.all k).2.2.1 (spec_l4Types.all k).2.2.2.1, spec_l4Types.l2_ k (spec_l4Types.all k).1 (spec_l4Types.all k).2.1 (spec_l4Types.all k).2.2.1 (spec_l4Types.all k).2.2.2.1, spec_l4Types.l3_ k (spec_l4Types.all k).1 (spec_l4Types.all k).2.1 (spec_l4Types.all k).2.2.1 (spec_l4Types.all k).2.2.2.1, ())
def spec_l4Types.l0 (k : Nat) : Int → tFuncD → Option spec_l4Types.R := (spec_l4Types.all k).1
def spec_l4Types.l1 (k : Nat) : Int → Int → tFuncD → tBlockD → Option spec_l4Types.R := (spec_l4Types.all k).2.1
def spec_l4Types.l2 (k : Nat) : Int → Int → Int → tFuncD → tBlockD → Option spec_l4Types.R := (spec_l4Types.all k).2.2.1
def spec_l4Types.l3 (k : Nat) : Int → Int → tFuncD → tBlockD → Option spec_l4Types.R := (spec_l4Types.all k).2.2.2.1
def spec_l4Types.f (k : Nat) (a0 : tFuncD) : Option spec_l4Types.R := spec_l4Types.l0 k 0 a0
def spec_l4Types.s (k : Nat) : FS := ⟨[⟨true, [.lst (.int .i64), .int .i64, .lst tBlock]⟩], [], false, [⟨false, [.bool]⟩], [], [], fun x => spec_l4Types.f k x.1.1⟩
def spec_l4Types.E (k : Nat) : Ents := [(⟨129, []⟩, spec_TypeOf.s k), (⟨144, []⟩, spec_l4Args.s k)]
def spec_l4Types.L0 (l : Int → tFuncD → Option spec_l4Types.R) : LS spec_l4Types.R := ⟨[], [(1, ⟨false, [.ptr 100000 0]⟩), (3, ⟨false, [.int .i64]⟩)], [(100000, .box [.lst (.int .i64), .int .i64, .lst tBlock])], fun x => l x.1.2.1.1 x.2.1⟩
def spec_l4Types.L1 (l : Int → Int → tFuncD → tBlockD → Option spec_l4Types.R) : LS spec_l4Types.R := ⟨[], [(1, ⟨false, [.ptr 100000 0]⟩), (3, ⟨false, [.int .i64]⟩), (4, ⟨false, [.ptr 100001 0]⟩), (5, ⟨false, [.int .i64]⟩)], [(100000, .box [.lst (.int .i64), .int .i64, .lst tBlock]), (100001, .box [.lst tPhi, .lst tInst, .int .i64, .int .i64, .int .i64, .int .i64])], fun x => l x.1.2.1.1 x.1.2.2.2.1.1 x.2.1 x.2.2.1⟩
def spec_l4Types.L2 (l : Int → Int → Int → tFuncD → tBlockD → Option spec_l4Types.R) : LS spec_l4Types.R := ⟨[], [(1, ⟨false, [.ptr 100000 0]⟩), (3, ⟨false, [.int .i64]⟩), (4, ⟨false, [.ptr 100001 0]⟩), (5, ⟨false, [.int .i64]⟩), (6, ⟨false, [.int .i64]⟩)], [(100000, .box [.lst (.int .i64), .int .i64, .lst tBlock]), (100001, .box [.lst tPhi, .lst tInst, .int .i64, .int .i64, .int .i64, .int .i64])], fun x => l x.1.2.1.1 x.1.2.2.2.1.1 x.1.2.2.2.2.1.1 x.2.1 x.2.2.1⟩
def spec_l4Types.L3 (l : Int → Int → tFuncD → tBlockD → Option spec_l4Types.R) : LS spec_l4Types.R := ⟨[], [(1, ⟨false, [.ptr 100000 0]⟩), (3, ⟨false, [.int .i64]⟩), (4, ⟨false, [.ptr 100001 0]⟩), (7, ⟨false, [.int .i64]⟩)], [(100000, .box [.lst (.int .i64), .int .i64, .lst tBlock]), (100001, .box [.lst tPhi, .lst tInst, .int .i64, .int .i64, .int .i64, .int .i64])], fun x => l x.1.2.1.1 x.1.2.2.2.1.1 x.2.1 x.2.2.1⟩
def spec_l4Types.L (l0 : Int → tFuncD → Option spec_l4Types.R) (l1 : Int → Int → tFuncD → tBlockD → Option spec_l4Types.R) (l2 : Int → Int → Int → tFuncD → tBlockD → Option spec_l4Types.R) (l3 : Int → Int → tFuncD → tBlockD → Option spec_l4Types.R) : List (LS spec_l4Types.R) := [spec_l4Types.L0 l0, spec_l4Types.L1 l1, spec_l4Types.L2 l2, spec_l4Types.L3 l3]
def spec_l4Types.c : Code := Tryz.f82.body.getD .skip
theorem spec_l4Types.eq (k : Nat) (x) : (spec_l4Types.s k).pf x = execF tab (spec_l4Types.E k) Tryz.f82 spec_l4Types.c (spec_l4Types.s k) (spec_l4Types.L (spec_l4Types.l0 k) (spec_l4Types.l1 k) (spec_l4Types.l2 k) (spec_l4Types.l3 k)) x := by kernel_rfl
theorem spec_l4Types.r0 (l0 : Int → tFuncD → Option spec_l4Types.R) (l1 : Int → Int → tFuncD → tBlockD → Option spec_l4Types.R) (l2 : Int → Int → Int → tFuncD → tBlockD → Option spec_l4Types.R) (l3 : Int → Int → tFuncD → tBlockD → Option spec_l4Types.R) (k : Nat) (x) : spec_l4Types.l0_ k l0 l1 l2 l3 x.1.2.1.1 x.2.1 = roundOf tab (spec_l4Types.E k) (spec_l4Types.L l0 l1 l2 l3) spec_l4Types.c (fin tab Tryz.f82 (spec_l4Types.s k)) 0 (spec_l4Types.L0 l0) x := by kernel_rfl
theorem spec_l4Types.r1 (l0 : Int → tFuncD → Option spec_l4Types.R) (l1 : Int → Int → tFuncD → tBlockD → Option spec_l4Types.R) (l2 : Int → Int → Int → tFuncD → tBlockD → Option spec_l4Types.R) (l3 : Int → Int → tFuncD → tBlockD → Option spec_l4Types.R) (k : Nat) (x) : spec_l4Types.l1_ k l0 l1 l2 l3 x.1.2.1.1 x.1.2.2.2.1.1 x.2.1 x.2.2.1 = roundOf tab (spec_l4Types.E k) (spec_l4Types.L l0 l1 l2 l3) spec_l4Types.c (fin tab Tryz.f82 (spec_l4Types.s k)) 1 (spec_l4Types.L1 l1) x := by kernel_rfl
theorem spec_l4Types.r2 (l0 : Int → tFuncD → Option spec_l4Types.R) (l1 : Int → Int → tFuncD → tBlockD → Option spec_l4Types.R) (l2 : Int → Int → Int → tFuncD → tBlockD → Option spec_l4Types.R) (l3 : Int → Int → tFuncD → tBlockD → Option spec_l4Types.R) (k : Nat) (x) : spec_l4Types.l2_ k l0 l1 l2 l3 x.1.2.1.1 x.1.2.2.2.1.1 x.1.2.2.2.2.1.1 x.2.1 x.2.2.1 = roundOf tab (spec_l4Types.E k) (spec_l4Types.L l0 l1 l2 l3) spec_l4Types.c (fin tab Tryz.f82 (spec_l4Types.s k)) 2 (spec_l4Types.L2 l2) x := by kernel_rfl
theorem spec_l4Types.r3 (l0 : Int → tFuncD → Option spec_l4Types.R) (l1 : Int → Int → tFuncD → tBlockD → Option spec_l4Types.R) (l2 : Int → Int → Int → tFuncD → tBlockD → Option spec_l4Types.R) (l3 : Int → Int → tFuncD → tBlockD → Option spec_l4Types.R) (k : Nat) (x) : spec_l4Types.l3_ k l0 l1 l2 l3 x.1.2.1.1 x.1.2.2.2.1.1 x.2.1 x.2.2.1 = roundOf tab (spec_l4Types.E k) (spec_l4Types.L l0 l1 l2 l3) spec_l4Types.c (fin tab Tryz.f82 (spec_l4Types.s k)) 3 (spec_l4Types.L3 l3) x := by kernel_rfl
theorem spec_l4Types.sound : ∀ k, Sound Tryz.prog 82 (spec_l4Types.s k) := sound_of mixed tab_ok (f := 82) (fn := Tryz.f82) (c := spec_l4Types.c) (by kernel_rfl) (by kernel_rfl) (by kernel_rfl) ⟨[⟨true, [.lst (.int .i64), .int .i64, .lst tBlock]⟩], [], false, [⟨false, [.bool]⟩], [], []⟩ (by kernel_rfl) (by kernel_rfl) (fun k => (spec_l4Types.s k).pf) spec_l4Types.E (fun k => (EntsOK.cons (spec_TypeOf.sound k) (EntsOK.cons (spec_l4Args.sound k) EntsOK.nil))) (fun k => spec_l4Types.L (spec_l4Types.l0 k) (spec_l4Types.l1 k) (spec_l4Types.l2 k) (spec_l4Types.l3 k)) (fun k => ⟨rfl, rfl, rfl, rfl, trivial⟩) ⟨fun _ => rfl, fun _ => rfl, fun _ => rfl, fun _ => rfl, trivial⟩ (fun k => ⟨⟨(spec_l4Types.L0 (spec_l4Types.l0 (k + 1))).l, rfl, fun x => spec_l4Types.r0 (spec_l4Types.l0 k) (spec_l4Types.l1 k) (spec_l4Types.l2 k) (spec_l4Types.l3 k) k x⟩, ⟨(spec_l4Types.L1 (spec_l4Types.l1 (k + 1))).l, rfl, fun x => spec_l4Types.r1 (spec_l4Types.l0 k) (spec_l4Types.l1 k) (spec_l4Types.l2 k) (spec_l4Types.l3 k) k x⟩, ⟨(spec_l4Types.L2 (spec_l4Types.l2 (k + 1))).l, rfl, fun x => spec_l4Types.r2 (spec_l4Types.l0 k) (spec_l4Types.l1 k) (spec_l4Types.l2 k) (spec_l4Types.l3 k) k x⟩, ⟨(spec_l4Types.L3 (spec_l4Types.l3 (k + 1))).l, rfl, fun x => spec_l4Types.r3 (spec_l4Types.l0 k) (spec_l4Types.l1 k) (spec_l4Types.l2 k) (spec_l4Types.l3 k) k x⟩, trivial⟩) spec_l4Types.eq
end
end Go.Proofs.YtebgkcjpocfmmaaGreat.V
namespace Go.Proofs.YtebgkcjpocfmmaaGreat.V
open Go
set_option linter.unusedVariables false
noncomputable section
/-! ### spec.l4Calls: function 83 -/
abbrev spec_l4Calls.R := (((Bool × Unit) × Unit) × Unit)
def spec_l4Calls.l0_ (k : Nat) (l0 : Int → (List tFuncD) → tFuncD → Option spec_l4Calls.R) (l1 : Int → Int → (List tFuncD) → tFuncD → Option spec_l4Calls.R) (l2 : Int → Int → Int → (List tFuncD) → tFuncD → tInstD → tFuncD → Option spec_l4Calls.R) (a0 : Int) (a1 : List tFuncD) (a2 : tFuncD) : Option spec_l4Calls.R := bif decide (a0 < ((List.length a2.2.2.1 : Nat) : Int)) then (l1 a0 0 a1 a2) else (some (((true, ()), ()), ()))
def spec_l4Calls.l1_ (k : Nat) (l0 : Int → (List tFuncD) → tFuncD → Option spec_l4Calls.R) (l1 : Int → Int → (List tFuncD) → tFuncD → Option spec_l4Calls.R) (l2 : Int → Int → Int → (List tFuncD) → tFuncD → tInstD → tFuncD → Option spec_l4Calls.R) (a0 : Int) (a1 : Int) (a2 : List tFuncD) (a3 : tFuncD) : Option spec_l4Calls.R := bif (decide (0 ≤ a0)) && (decide (a0 < ((List.length a3.2.2.1 : Nat) : Int))) then (bif decide (a1 < ((List.length ((List.getD a3.2.2.1 (Int.toNat a0) tBlockZ).2.1) : Nat) : Int)) then (bif (decide (0 ≤ a0)) && (decide (a0 < ((List.length a3.2.2.1 : Nat) : Int))) then (bif (decide (0 ≤ a1)) && (decide (a1 < ((List.length ((List.getD a3.2.2.1 (Int.toNat a0) tBlockZ).2.1) : Nat) : Int))) then (bif !decide ((List.getD ((List.getD a3.2.2.1 (Int.toNat a0) tBlockZ).2.1) (Int.toNat a1) tInstZ).1 = 26) then (l1 a0 (IntKind.wrap .i64 (a1 + 1)) a2 a3) else (bif (decide (0 ≤ (List.getD ((List.getD a3.2.2.1 (Int.toNat a0) tBlockZ).2.1) (Int.toNat a1) tInstZ).2.2.2.2.2.1)) && (decide ((List.getD ((List.getD a3.2.2.1 (Int.toNat a0) tBlockZ).2.1) (Int.toNat a1) tInstZ).2.2.2.2.2.1 < ((List.length a2 : Nat) : Int))) then (bif !decide ((List.getD ((List.getD a3.2.2.1 (Int.toNat a0) tBlockZ).2.1) (Int.toNat a1) tInstZ).2.1 = (List.getD a2 (Int.toNat ((List.getD ((List.getD a3.2.2.1 (Int.toNat a0) tBlockZ).2.1) (Int.toNat a1) tInstZ).2.2.2.2.2.1)) tFuncZ).2.1) then (some (((false, ()), ()), ())) else (bif !decide (((List.length ((List.getD ((List.getD a3.2.2.1 (Int.toNat a0) tBlockZ).2.1) (Int.toNat a1) tInstZ).2.2.2.2.2.2.1) : Nat) : Int) = ((List.length ((List.getD a2 (Int.toNat ((List.getD ((List.getD a3.2.2.1 (Int.toNat a0) tBlockZ).2.1) (Int.toNat a1) tInstZ).2.2.2.2.2.1)) tFuncZ).1) : Nat) : Int)) then (some (((false, ()), ()), ())) else (l2 a0 a1 0 a2 a3 (List.getD ((List.getD a3.2.2.1 (Int.toNat a0) tBlockZ).2.1) (Int.toNat a1) tInstZ) (List.getD a2 (Int.toNat ((List.getD ((List.getD a3.2.2.1 (Int.toNat a0) tBlockZ).2.1) (Int.toNat a1) tInstZ).2.2.2.2.2.1)) tFuncZ)))) else none)) else none) else none) else (l0 (IntKind.wrap .i64 (a0 + 1)) a2 a3)) else none
def spec_l4Calls.l2_ (k : Nat) (l0 : Int → (List tFuncD) → tFuncD → Option spec_l4Calls.R) (l1 : Int → Int → (List tFuncD) → tFuncD → Option spec_l4Calls.R) (l2 : Int → Int → Int → (List tFuncD) → tFuncD → tInstD → tFuncD → Option spec_l4Calls.R) (a0 : Int) (a1 : Int) (a2 : Int) (a3 : List tFuncD) (a4 : tFuncD) (a5 : tInstD) (a6 : tFuncD) : Option spec_l4Calls.R := bif decide (a2 < ((List.length a5.2.2.2.2.2.2.1 : Nat) : Int)) then (bif (decide (0 ≤ a2)) && (decide (a2 < ((List.length a5.2.2.2.2.2.2.1 : Nat) : Int))) then (Option.bind (spec_TypeOf.f k a4 (List.getD a5.2.2.2.2.2.2.1 (Int.toNat a2) 0)) fun r1 => bif (decide (0 ≤ a2)) && (decide (a2 < ((List.length a6.1 : Nat) : Int))) then (bif !decide (r1.1.1.1 = List.getD a6.1 (Int.toNat a2) 0) then (some (((false, ()), ()), ())) else (l2 a0 a1 (IntKind.wrap .i64 (a2 + 1)) a3 a4 a5 a6)) else none) else none) else (l1 a0 (IntKind.wrap .i64 (a1 + 1)) a3 a4)
def spec_l4Calls.all : Nat → (Int → (List tFuncD) → tFuncD → Option spec_l4Calls.R) × (Int → Int → (List tFuncD) → tFuncD → Option spec_l4Calls.R) × (Int → Int → Int → (List tFuncD) → tFuncD → tInstD → tFuncD → Option spec_l4Calls.R) × Unit
  | 0 => (fun _ _ _ => none, fun _ _ _ _ => none, fun _ _ _ _ _ _ _ => none, ())
  | k + 1 => (spec_l4Calls.l0_ k (spec_l4Calls.all k).1 (spec_l4Calls.all k).2.1 (spec_l4Calls.all k).2.2.1, spec_l4Calls.l1_ k (spec_l4Calls.all k).1 (spec_l4Calls.all k).2.1 (spec_l4Calls.all k).2.2.1, spec_l4Calls.l2_ k (spec_l4Calls.all k).1 (spec_l4Calls.all k).2.1 (spec_l4Calls.all k).2.2.1, ())
def spec_l4Calls.l0 (k : Nat) : Int → (List tFuncD) → tFuncD → Option spec_l4Calls.R := (spec_l4Calls.all k).1
def spec_l4Calls.l1 (k : Nat) : Int → Int → (List tFuncD) → tFuncD → Option spec_l4Calls.R := (spec_l4Calls.all k).2.1
def spec_l4Calls.l2 (k : Nat) : Int → Int → Int → (List tFuncD) → tFuncD → tInstD → tFuncD → Option spec_l4Calls.R := (spec_l4Calls.all k).2.2.1
def spec_l4Calls.f (k : Nat) (a0 : tModuleD) (a1 : tFuncD) : Option spec_l4Calls.R := spec_l4Calls.l0 k 0 a0.1 a1
def spec_l4Calls.s (k : Nat) : FS := ⟨[⟨true, [.lst tFunc]⟩, ⟨true, [.lst (.int .i64), .int .i64, .lst tBlock]⟩], [], false, [⟨false, [.bool]⟩], [], [], fun x => spec_l4Calls.f k x.1.1 x.1.2.1⟩
def spec_l4Calls.E (k : Nat) : Ents := [(⟨129, []⟩, spec_TypeOf.s k)]
def spec_l4Calls.L0 (l : Int → (List tFuncD) → tFuncD → Option spec_l4Calls.R) : LS spec_l4Calls.R := ⟨[], [(2, ⟨false, [.ptr 100000 0]⟩), (3, ⟨false, [.ptr 100001 0]⟩), (5, ⟨false, [.int .i64]⟩)], [(100000, .box [.lst tFunc]), (100001, .box [.lst (.int .i64), .int .i64, .lst tBlock])], fun x => l x.1.2.2.1.1 x.2.1.1 x.2.2.1⟩
def spec_l4Calls.L1 (l : Int → Int → (List tFuncD) → tFuncD → Option spec_l4Calls.R) : LS spec_l4Calls.R := ⟨[], [(2, ⟨false, [.ptr 100000 0]⟩), (3, ⟨false, [.ptr 100001 0]⟩), (5, ⟨false, [.int .i64]⟩), (6, ⟨false, [.int .i64]⟩)], [(100000, .box [.lst tFunc]), (100001, .box [.lst (.int .i64), .int .i64, .lst tBlock])], fun x => l x.1.2.2.1.1 x.1.2.2.2.1.1 x.2.1.1 x.2.2.1⟩
def spec_l4Calls.L2 (l : Int → Int → Int → (List tFuncD) → tFuncD → tInstD → tFuncD → Option spec_l4Calls.R) : LS spec_l4Calls.R := ⟨[], [(2, ⟨false, [.ptr 100000 0]⟩), (3, ⟨false, [.ptr 100001 0]⟩), (5, ⟨false, [.int .i64]⟩), (6, ⟨false, [.int .i64]⟩), (7, ⟨false, [.ptr 100002 0]⟩), (8, ⟨false, [.ptr 100003 0]⟩), (9, ⟨false, [.int .i64]⟩)], [(100000, .box [.lst tFunc]), (100001, .box [.lst (.int .i64), .int .i64, .lst tBlock]), (100002, .box [.int .i64, .int .i64, .int .i64, .int .i64, .int .i64, .int .i64, .lst (.int .i64)]), (100003, .box [.lst (.int .i64), .int .i64, .lst tBlock])], fun x => l x.1.2.2.1.1 x.1.2.2.2.1.1 x.1.2.2.2.2.2.2.1.1 x.2.1.1 x.2.2.1 x.2.2.2.1 x.2.2.2.2.1⟩
def spec_l4Calls.L (l0 : Int → (List tFuncD) → tFuncD → Option spec_l4Calls.R) (l1 : Int → Int → (List tFuncD) → tFuncD → Option spec_l4Calls.R) (l2 : Int → Int → Int → (List tFuncD) → tFuncD → tInstD → tFuncD → Option spec_l4Calls.R) : List (LS spec_l4Calls.R) := [spec_l4Calls.L0 l0, spec_l4Calls.L1 l1, spec_l4Calls.L2 l2]
def spec_l4Calls.c : Code := Tryz.f83.body.getD .skip
theorem spec_l4Calls.eq (k : Nat) (x) : (spec_l4Calls.s k).pf x = execF tab (spec_l4Calls.E k) Tryz.f83 spec_l4Calls.c (spec_l4Calls.s k) (spec_l4Calls.L (spec_l4Calls.l0 k) (spec_l4Calls.l1 k) (spec_l4Calls.l2 k)) x := by kernel_rfl
theorem spec_l4Calls.r0 (l0 : Int → (List tFuncD) → tFuncD → Option spec_l4Calls.R) (l1 : Int → Int → (List tFuncD) → tFuncD → Option spec_l4Calls.R) (l2 : Int → Int → Int → (List tFuncD) → tFuncD → tInstD → tFuncD → Option spec_l4Calls.R) (k : Nat) (x) : spec_l4Calls.l0_ k l0 l1 l2 x.1.2.2.1.1 x.2.1.1 x.2.2.1 = roundOf tab (spec_l4Calls.E k) (spec_l4Calls.L l0 l1 l2) spec_l4Calls.c (fin tab Tryz.f83 (spec_l4Calls.s k)) 0 (spec_l4Calls.L0 l0) x := by kernel_rfl
theorem spec_l4Calls.r1 (l0 : Int → (List tFuncD) → tFuncD → Option spec_l4Calls.R) (l1 : Int → Int → (List tFuncD) → tFuncD → Option spec_l4Calls.R) (l2 : Int → Int → Int → (List tFuncD) → tFuncD → tInstD → tFuncD → Option spec_l4Calls.R) (k : Nat) (x) : spec_l4Calls.l1_ k l0 l1 l2 x.1.2.2.1.1 x.1.2.2.2.1.1 x.2.1.1 x.2.2.1 = roundOf tab (spec_l4Calls.E k) (spec_l4Calls.L l0 l1 l2) spec_l4Calls.c (fin tab Tryz.f83 (spec_l4Calls.s k)) 1 (spec_l4Calls.L1 l1) x := by kernel_rfl
theorem spec_l4Calls.r2 (l0 : Int → (List tFuncD) → tFuncD → Option spec_l4Calls.R) (l1 : Int → Int → (List tFuncD) → tFuncD → Option spec_l4Calls.R) (l2 : Int → Int → Int → (List tFuncD) → tFuncD → tInstD → tFuncD → Option spec_l4Calls.R) (k : Nat) (x) : spec_l4Calls.l2_ k l0 l1 l2 x.1.2.2.1.1 x.1.2.2.2.1.1 x.1.2.2.2.2.2.2.1.1 x.2.1.1 x.2.2.1 x.2.2.2.1 x.2.2.2.2.1 = roundOf tab (spec_l4Calls.E k) (spec_l4Calls.L l0 l1 l2) spec_l4Calls.c (fin tab Tryz.f83 (spec_l4Calls.s k)) 2 (spec_l4Calls.L2 l2) x := by kernel_rfl
theorem spec_l4Calls.sound : ∀ k, Sound Tryz.prog 83 (spec_l4Calls.s k) := sound_of mixed tab_ok (f := 83) (fn := Tryz.f83) (c := spec_l4Calls.c) (by kernel_rfl) (by kernel_rfl) (by kernel_rfl) ⟨[⟨true, [.lst tFunc]⟩, ⟨true, [.lst (.int .i64), .int .i64, .lst tBlock]⟩], [], false, [⟨false, [.bool]⟩], [], []⟩ (by kernel_rfl) (by kernel_rfl) (fun k => (spec_l4Calls.s k).pf) spec_l4Calls.E (fun k => (EntsOK.cons (spec_TypeOf.sound k) EntsOK.nil)) (fun k => spec_l4Calls.L (spec_l4Calls.l0 k) (spec_l4Calls.l1 k) (spec_l4Calls.l2 k)) (fun k => ⟨rfl, rfl, rfl, trivial⟩) ⟨fun _ => rfl, fun _ => rfl, fun _ => rfl, trivial⟩ (fun k => ⟨⟨(spec_l4Calls.L0 (spec_l4Calls.l0 (k + 1))).l, rfl, fun x => spec_l4Calls.r0 (spec_l4Calls.l0 k) (spec_l4Calls.l1 k) (spec_l4Calls.l2 k) k x⟩, ⟨(spec_l4Calls.L1 (spec_l4Calls.l1 (k + 1))).l, rfl, fun x => spec_l4Calls.r1 (spec_l4Calls.l0 k) (spec_l4Calls.l1 k) (spec_l4Calls.l2 k) k x⟩, ⟨(spec_l4Calls.L2 (spec_l4Calls.l2 (k + 1))).l, rfl, fun x => spec_l4Calls.r2 (spec_l4Calls.l0 k) (spec_l4Calls.l1 k) (spec_l4Calls.l2 k) k x⟩, trivial⟩) spec_l4Calls.eq
end
end Go.Proofs.YtebgkcjpocfmmaaGreat.V
namespace Go.Proofs.YtebgkcjpocfmmaaGreat.V
open Go
set_option linter.unusedVariables false
noncomputable section
/-! ### spec.l1Put: function 52 -/
abbrev spec_l1Put.R := ((((List Int) × Unit) × Unit) × Unit)
def spec_l1Put.l0_ (k : Nat) (l0 : (List Int) → Int → Int → Option spec_l1Put.R) (a0 : List Int) (a1 : Int) (a2 : Int) : Option spec_l1Put.R := bif decide (a2 < ((List.length a0 : Nat) : Int)) then (bif (decide (0 ≤ a2)) && (decide (a2 < ((List.length a0 : Nat) : Int))) then (bif decide (List.getD a0 (Int.toNat a2) 0 < a1) then (l0 a0 a1 (IntKind.wrap .i64 (a2 + 1))) else (bif decide (a2 < ((List.length a0 : Nat) : Int)) then (bif (decide (0 ≤ a2)) && (decide (a2 < ((List.length a0 : Nat) : Int))) then (bif decide (List.getD a0 (Int.toNat a2) 0 = a1) then (some (((a0, ()), ()), ())) else (bif (decide (0 ≤ 0)) && (decide (0 ≤ a2)) && (decide (a2 ≤ ((List.length a0 : Nat) : Int))) then (bif decide ((List.length ([] : List Int) + List.length (List.take (Int.toNat a2) a0)) * 8 ≤ 140737488355328) then (bif decide ((List.length (([] : List Int) ++ (List.take (Int.toNat a2) a0)) + List.length [a1]) * 8 ≤ 140737488355328) then (bif (decide (0 ≤ a2)) && (decide (a2 ≤ ((List.length a0 : Nat) : Int))) then (bif decide ((List.length ((([] : List Int) ++ (List.take (Int.toNat a2) a0)) ++ [a1]) + List.length (List.drop (Int.toNat a2) a0)) * 8 ≤ 140737488355328) then (some (((((([] : List Int) ++ (List.take (Int.toNat a2) a0)) ++ [a1]) ++ (List.drop (Int.toNat a2) a0), ()), ()), ())) else none) else none) else none) else none) else none)) else none) else (bif (decide (0 ≤ 0)) && (decide (0 ≤ a2)) && (decide (a2 ≤ ((List.length a0 : Nat) : Int))) then (bif decide ((List.length ([] : List Int) + List.length (List.take (Int.toNat a2) a0)) * 8 ≤ 140737488355328) then (bif decide ((List.length (([] : List Int) ++ (List.take (Int.toNat a2) a0)) + List.length [a1]) * 8 ≤ 140737488355328) then (bif (decide (0 ≤ a2)) && (decide (a2 ≤ ((List.length a0 : Nat) : Int))) then (bif decide ((List.length ((([] : List Int) ++ (List.take (Int.toNat a2) a0)) ++ [a1]) + List.length (List.drop (Int.toNat a2) a0)) * 8 ≤ 140737488355328) then (some (((((([] : List Int) ++ (List.take (Int.toNat a2) a0)) ++ [a1]) ++ (List.drop (Int.toNat a2) a0), ()), ()), ())) else none) else none) else none) else none) else none))) else none) else (bif decide (a2 < ((List.length a0 : Nat) : Int)) then (bif (decide (0 ≤ a2)) && (decide (a2 < ((List.length a0 : Nat) : Int))) then (bif decide (List.getD a0 (Int.toNat a2) 0 = a1) then (some (((a0, ()), ()), ())) else (bif (decide (0 ≤ 0)) && (decide (0 ≤ a2)) && (decide (a2 ≤ ((List.length a0 : Nat) : Int))) then (bif decide ((List.length ([] : List Int) + List.length (List.take (Int.toNat a2) a0)) * 8 ≤ 140737488355328) then (bif decide ((List.length (([] : List Int) ++ (List.take (Int.toNat a2) a0)) + List.length [a1]) * 8 ≤ 140737488355328) then (bif (decide (0 ≤ a2)) && (decide (a2 ≤ ((List.length a0 : Nat) : Int))) then (bif decide ((List.length ((([] : List Int) ++ (List.take (Int.toNat a2) a0)) ++ [a1]) + List.length (List.drop (Int.toNat a2) a0)) * 8 ≤ 140737488355328) then (some (((((([] : List Int) ++ (List.take (Int.toNat a2) a0)) ++ [a1]) ++ (List.drop (Int.toNat a2) a0), ()), ()), ())) else none) else none) else none) else none) else none)) else none) else (bif (decide (0 ≤ 0)) && (decide (0 ≤ a2)) && (decide (a2 ≤ ((List.length a0 : Nat) : Int))) then (bif decide ((List.length ([] : List Int) + List.length (List.take (Int.toNat a2) a0)) * 8 ≤ 140737488355328) then (bif decide ((List.length (([] : List Int) ++ (List.take (Int.toNat a2) a0)) + List.length [a1]) * 8 ≤ 140737488355328) then (bif (decide (0 ≤ a2)) && (decide (a2 ≤ ((List.length a0 : Nat) : Int))) then (bif decide ((List.length ((([] : List Int) ++ (List.take (Int.toNat a2) a0)) ++ [a1]) + List.length (List.drop (Int.toNat a2) a0)) * 8 ≤ 140737488355328) then (some (((((([] : List Int) ++ (List.take (Int.toNat a2) a0)) ++ [a1]) ++ (List.drop (Int.toNat a2) a0), ()), ()), ())) else none) else none) else none) else none) else none))
def spec_l1Put.all : Nat → ((List Int) → Int → Int → Option spec_l1Put.R) × Unit
  | 0 => (fun _ _ _ => none, ())
  | k + 1 => (spec_l1Put.l0_ k (spec_l1Put.all k).1, ())
def spec_l1Put.l0 (k : Nat) : (List Int) → Int → Int → Option spec_l1Put.R := (spec_l1Put.all k).1
def spec_l1Put.f (k : Nat) (a0 : List Int) (a1 : Int) : Option spec_l1Put.R := spec_l1Put.l0 k a0 a1 0
def spec_l1Put.s (k : Nat) : FS := ⟨[⟨false, [.lst (.int .i64)]⟩, ⟨false, [.int .i64]⟩], [], false, [⟨false, [.lst (.int .i64)]⟩], [], [], fun x => spec_l1Put.f k x.1.1.1 x.1.2.1.1⟩
def spec_l1Put.E (k : Nat) : Ents := []
def spec_l1Put.L0 (l : (List Int) → Int → Int → Option spec_l1Put.R) : LS spec_l1Put.R := ⟨[], [(0, ⟨false, [.lst (.int .i64)]⟩), (1, ⟨false, [.int .i64]⟩), (5, ⟨false, [.int .i64]⟩)], [], fun x => l x.1.1.1 x.1.2.1.1 x.1.2.2.1.1⟩
def spec_l1Put.L (l0 : (List Int) → Int → Int → Option spec_l1Put.R) : List (LS spec_l1Put.R) := [spec_l1Put.L0 l0]
def spec_l1Put.c : Code := Tryz.f52.body.getD .skip
theorem spec_l1Put.eq (k : Nat) (x) : (spec_l1Put.s k).pf x = execF tab (spec_l1Put.E k) Tryz.f52 spec_l1Put.c (spec_l1Put.s k) (spec_l1Put.L (spec_l1Put.l0 k)) x := by kernel_rfl
theorem spec_l1Put.r0 (l0 : (List Int) → Int → Int → Option spec_l1Put.R) (k : Nat) (x) : spec_l1Put.l0_ k l0 x.1.1.1 x.1.2.1.1 x.1.2.2.1.1 = roundOf tab (spec_l1Put.E k) (spec_l1Put.L l0) spec_l1Put.c (fin tab Tryz.f52 (spec_l1Put.s k)) 0 (spec_l1Put.L0 l0) x := by kernel_rfl
theorem spec_l1Put.sound : ∀ k, Sound Tryz.prog 52 (spec_l1Put.s k) := sound_of mixed tab_ok (f := 52) (fn := Tryz.f52) (c := spec_l1Put.c) (by kernel_rfl) (by kernel_rfl) (by kernel_rfl) ⟨[⟨false, [.lst (.int .i64)]⟩, ⟨false, [.int .i64]⟩], [], false, [⟨false, [.lst (.int .i64)]⟩], [], []⟩ (by kernel_rfl) (by kernel_rfl) (fun k => (spec_l1Put.s k).pf) spec_l1Put.E (fun k => EntsOK.nil) (fun k => spec_l1Put.L (spec_l1Put.l0 k)) (fun k => ⟨rfl, trivial⟩) ⟨fun _ => rfl, trivial⟩ (fun k => ⟨⟨(spec_l1Put.L0 (spec_l1Put.l0 (k + 1))).l, rfl, fun x => spec_l1Put.r0 (spec_l1Put.l0 k) k x⟩, trivial⟩) spec_l1Put.eq
end
end Go.Proofs.YtebgkcjpocfmmaaGreat.V
namespace Go.Proofs.YtebgkcjpocfmmaaGreat.V
open Go
set_option linter.unusedVariables false
noncomputable section
/-! ### spec.l3Reach: function 145 -/
abbrev spec_l3Reach.R := ((((List Int) × Unit) × Unit) × Unit)
def spec_l3Reach.l0_ (k : Nat) (l0 : Int → (List Int) → tFuncD → (List Int) → Option spec_l3Reach.R) (a0 : Int) (a1 : List Int) (a2 : tFuncD) (a3 : List Int) : Option spec_l3Reach.R := bif decide (0 < ((List.length a3 : Nat) : Int)) then (bif (decide (0 ≤ 0)) && (decide (0 < ((List.length a3 : Nat) : Int))) then (bif (decide (0 ≤ 1)) && (decide (1 ≤ ((List.length a3 : Nat) : Int))) then (Option.bind (spec_l1Copy.f k (List.drop 1 a3)) fun r1 => bif decide (List.getD a3 0 0 = a0) then (l0 a0 a1 a2 r1.2.1) else (Option.bind (spec_l1Has.f k a1 (List.getD a3 0 0)) fun r2 => bif r2.1.1.1 then (l0 a0 a1 a2 r1.2.1) else (Option.bind (spec_l1Put.f k a1 (List.getD a3 0 0)) fun r3 => Option.bind (spec_l3Succs.f k a2 (List.getD a3 0 0)) fun r4 => bif decide ((List.length r1.2.1 + List.length r4.2.1) * 8 ≤ 140737488355328) then (l0 a0 r3.1.1.1 a2 (r1.2.1 ++ r4.2.1)) else none))) else none) else none) else (some (((a1, ()), ()), ()))
def spec_l3Reach.all : Nat → (Int → (List Int) → tFuncD → (List Int) → Option spec_l3Reach.R) × Unit
  | 0 => (fun _ _ _ _ => none, ())
  | k + 1 => (spec_l3Reach.l0_ k (spec_l3Reach.all k).1, ())
def spec_l3Reach.l0 (k : Nat) : Int → (List Int) → tFuncD → (List Int) → Option spec_l3Reach.R := (spec_l3Reach.all k).1
def spec_l3Reach.f (k : Nat) (a0 : tFuncD) (a1 : Int) : Option spec_l3Reach.R := bif decide (a1 = 0) then (some (((([] : List Int), ()), ()), ())) else (spec_l3Reach.l0 k a1 ([] : List Int) a0 [0])
def spec_l3Reach.s (k : Nat) : FS := ⟨[⟨true, [.lst (.int .i64), .int .i64, .lst tBlock]⟩, ⟨false, [.int .i64]⟩], [], false, [⟨false, [.lst (.int .i64)]⟩], [], [], fun x => spec_l3Reach.f k x.1.1 x.1.2.1.1⟩
def spec_l3Reach.E (k : Nat) : Ents := [(⟨51, []⟩, spec_l1Copy.s k), (⟨26, []⟩, spec_l1Has.s k), (⟨52, []⟩, spec_l1Put.s k), (⟨143, []⟩, spec_l3Succs.s k)]
def spec_l3Reach.L0 (l : Int → (List Int) → tFuncD → (List Int) → Option spec_l3Reach.R) : LS spec_l3Reach.R := ⟨[], [(1, ⟨false, [.int .i64]⟩), (2, ⟨false, [.ptr 100000 0]⟩), (5, ⟨false, [.lst (.int .i64)]⟩), (6, ⟨false, [.own 100002]⟩)], [(100000, .box [.lst (.int .i64), .int .i64, .lst tBlock]), (100002, .row true (.int .i64))], fun x => l x.1.1.1 x.1.2.2.1.1 x.2.1 x.2.2.1⟩
def spec_l3Reach.L (l0 : Int → (List Int) → tFuncD → (List Int) → Option spec_l3Reach.R) : List (LS spec_l3Reach.R) := [spec_l3Reach.L0 l0]
def spec_l3Reach.c : Code := Tryz.f145.body.getD .skip
theorem spec_l3Reach.eq (k : Nat) (x) : (spec_l3Reach.s k).pf x = execF tab (spec_l3Reach.E k) Tryz.f145 spec_l3Reach.c (spec_l3Reach.s k) (spec_l3Reach.L (spec_l3Reach.l0 k)) x := by kernel_rfl
theorem spec_l3Reach.r0 (l0 : Int → (List Int) → tFuncD → (List Int) → Option spec_l3Reach.R) (k : Nat) (x) : spec_l3Reach.l0_ k l0 x.1.1.1 x.1.2.2.1.1 x.2.1 x.2.2.1 = roundOf tab (spec_l3Reach.E k) (spec_l3Reach.L l0) spec_l3Reach.c (fin tab Tryz.f145 (spec_l3Reach.s k)) 0 (spec_l3Reach.L0 l0) x := by kernel_rfl
theorem spec_l3Reach.sound : ∀ k, Sound Tryz.prog 145 (spec_l3Reach.s k) := sound_of mixed tab_ok (f := 145) (fn := Tryz.f145) (c := spec_l3Reach.c) (by kernel_rfl) (by kernel_rfl) (by kernel_rfl) ⟨[⟨true, [.lst (.int .i64), .int .i64, .lst tBlock]⟩, ⟨false, [.int .i64]⟩], [], false, [⟨false, [.lst (.int .i64)]⟩], [], []⟩ (by kernel_rfl) (by kernel_rfl) (fun k => (spec_l3Reach.s k).pf) spec_l3Reach.E (fun k => (EntsOK.cons (spec_l1Copy.sound k) (EntsOK.cons (spec_l1Has.sound k) (EntsOK.cons (spec_l1Put.sound k) (EntsOK.cons (spec_l3Succs.sound k) EntsOK.nil))))) (fun k => spec_l3Reach.L (spec_l3Reach.l0 k)) (fun k => ⟨rfl, trivial⟩) ⟨fun _ => rfl, trivial⟩ (fun k => ⟨⟨(spec_l3Reach.L0 (spec_l3Reach.l0 (k + 1))).l, rfl, fun x => spec_l3Reach.r0 (spec_l3Reach.l0 k) k x⟩, trivial⟩) spec_l3Reach.eq
end
end Go.Proofs.YtebgkcjpocfmmaaGreat.V
namespace Go.Proofs.YtebgkcjpocfmmaaGreat.V
open Go
set_option linter.unusedVariables false
noncomputable section
/-! ### spec.l3Dom: function 182 -/
abbrev spec_l3Dom.R := (((Bool × Unit) × Unit) × Unit)
def spec_l3Dom.f (k : Nat) (a0 : tFuncD) (a1 : Int) (a2 : Int) : Option spec_l3Dom.R := Option.bind (spec_l3Reach.f k a0 (-1)) fun r1 => Option.bind (spec_l1Has.f k r1.1.1.1 a2) fun r2 => bif r2.1.1.1 then (Option.bind (spec_l3Reach.f k a0 a1) fun r3 => Option.bind (spec_l1Has.f k r3.1.1.1 a2) fun r4 => some (((!r4.1.1.1, ()), ()), ())) else (some (((false, ()), ()), ()))
def spec_l3Dom.s (k : Nat) : FS := ⟨[⟨true, [.lst (.int .i64), .int .i64, .lst tBlock]⟩, ⟨false, [.int .i64]⟩, ⟨false, [.int .i64]⟩], [], false, [⟨false, [.bool]⟩], [], [], fun x => spec_l3Dom.f k x.1.1 x.1.2.1.1 x.1.2.2.1.1⟩
def spec_l3Dom.E (k : Nat) : Ents := [(⟨145, []⟩, spec_l3Reach.s k), (⟨26, []⟩, spec_l1Has.s k)]
def spec_l3Dom.L : List (LS spec_l3Dom.R) := []
def spec_l3Dom.c : Code := Tryz.f182.body.getD .skip
theorem spec_l3Dom.eq (k : Nat) (x) : (spec_l3Dom.s k).pf x = execF tab (spec_l3Dom.E k) Tryz.f182 spec_l3Dom.c (spec_l3Dom.s k) spec_l3Dom.L x := by kernel_rfl
theorem spec_l3Dom.sound : ∀ k, Sound Tryz.prog 182 (spec_l3Dom.s k) := sound_of mixed tab_ok (f := 182) (fn := Tryz.f182) (c := spec_l3Dom.c) (by kernel_rfl) (by kernel_rfl) (by kernel_rfl) ⟨[⟨true, [.lst (.int .i64), .int .i64, .lst tBlock]⟩, ⟨false, [.int .i64]⟩, ⟨false, [.int .i64]⟩], [], false, [⟨false, [.bool]⟩], [], []⟩ (by kernel_rfl) (by kernel_rfl) (fun k => (spec_l3Dom.s k).pf) spec_l3Dom.E (fun k => (EntsOK.cons (spec_l3Reach.sound k) (EntsOK.cons (spec_l1Has.sound k) EntsOK.nil))) (fun k => spec_l3Dom.L) (fun k => trivial) trivial (fun k => trivial) spec_l3Dom.eq
end
end Go.Proofs.YtebgkcjpocfmmaaGreat.V
namespace Go.Proofs.YtebgkcjpocfmmaaGreat.V
open Go
set_option linter.unusedVariables false
noncomputable section
/-! ### spec.l4Sees: function 146 -/
abbrev spec_l4Sees.R := (((Bool × Unit) × Unit) × Unit)
def spec_l4Sees.f (k : Nat) (a0 : tFuncD) (a1 : Int) (a2 : Int) (a3 : Int) : Option spec_l4Sees.R := Option.bind (spec_l2Place.f k a0 a1) fun r1 => bif decide (r1.1.1.1 = -1) then (some (((true, ()), ()), ())) else (bif decide (r1.1.1.1 = a2) then (some (((decide (r1.1.2.1.1 < a3), ()), ()), ())) else (bif decide (0 ≤ r1.1.1.1) then (Option.bind (spec_l3Dom.f k a0 r1.1.1.1 a2) fun r2 => some (((r2.1.1.1, ()), ()), ())) else (some (((false, ()), ()), ()))))
def spec_l4Sees.s (k : Nat) : FS := ⟨[⟨true, [.lst (.int .i64), .int .i64, .lst tBlock]⟩, ⟨false, [.int .i64]⟩, ⟨false, [.int .i64]⟩, ⟨false, [.int .i64]⟩], [], false, [⟨false, [.bool]⟩], [], [], fun x => spec_l4Sees.f k x.1.1 x.1.2.1.1 x.1.2.2.1.1 x.1.2.2.2.1.1⟩
def spec_l4Sees.E (k : Nat) : Ents := [(⟨53, []⟩, spec_l2Place.s k), (⟨182, []⟩, spec_l3Dom.s k)]
def spec_l4Sees.L : List (LS spec_l4Sees.R) := []
def spec_l4Sees.c : Code := Tryz.f146.body.getD .skip
theorem spec_l4Sees.eq (k : Nat) (x) : (spec_l4Sees.s k).pf x = execF tab (spec_l4Sees.E k) Tryz.f146 spec_l4Sees.c (spec_l4Sees.s k) spec_l4Sees.L x := by kernel_rfl
theorem spec_l4Sees.sound : ∀ k, Sound Tryz.prog 146 (spec_l4Sees.s k) := sound_of mixed tab_ok (f := 146) (fn := Tryz.f146) (c := spec_l4Sees.c) (by kernel_rfl) (by kernel_rfl) (by kernel_rfl) ⟨[⟨true, [.lst (.int .i64), .int .i64, .lst tBlock]⟩, ⟨false, [.int .i64]⟩, ⟨false, [.int .i64]⟩, ⟨false, [.int .i64]⟩], [], false, [⟨false, [.bool]⟩], [], []⟩ (by kernel_rfl) (by kernel_rfl) (fun k => (spec_l4Sees.s k).pf) spec_l4Sees.E (fun k => (EntsOK.cons (spec_l2Place.sound k) (EntsOK.cons (spec_l3Dom.sound k) EntsOK.nil))) (fun k => spec_l4Sees.L) (fun k => trivial) trivial (fun k => trivial) spec_l4Sees.eq
end
end Go.Proofs.YtebgkcjpocfmmaaGreat.V
namespace Go.Proofs.YtebgkcjpocfmmaaGreat.V
open Go
set_option linter.unusedVariables false
noncomputable section
/-! ### spec.l4Doms: function 84 -/
abbrev spec_l4Doms.R := (((Bool × Unit) × Unit) × Unit)
def spec_l4Doms.l0_ (k : Nat) (l0 : (List Int) → Int → tFuncD → Option spec_l4Doms.R) (l1 : (List Int) → Int → Int → Int → Int → tFuncD → tBlockD → (List Int) → Option spec_l4Doms.R) (l2 : (List Int) → Int → Int → Int → Int → Int → tFuncD → tBlockD → (List Int) → Option spec_l4Doms.R) (l3 : (List Int) → Int → Int → Int → Int → tFuncD → tBlockD → Option spec_l4Doms.R) (l4 : (List Int) → Int → Int → Int → Int → Int → tFuncD → tBlockD → (List Int) → Option spec_l4Doms.R) (a0 : List Int) (a1 : Int) (a2 : tFuncD) : Option spec_l4Doms.R := bif decide (a1 < ((List.length a0 : Nat) : Int)) then (bif (decide (0 ≤ a1)) && (decide (a1 < ((List.length a0 : Nat) : Int))) then (bif (decide (0 ≤ List.getD a0 (Int.toNat a1) 0)) && (decide (List.getD a0 (Int.toNat a1) 0 < ((List.length a2.2.2.1 : Nat) : Int))) then (Option.bind (spec_l3Preds.f k a2 (List.getD a0 (Int.toNat a1) 0)) fun r1 => l1 a0 a1 (List.getD a0 (Int.toNat a1) 0) (IntKind.wrap .i64 (((List.length ((List.getD a2.2.2.1 (Int.toNat (List.getD a0 (Int.toNat a1) 0)) tBlockZ).1) : Nat) : Int) + ((List.length ((List.getD a2.2.2.1 (Int.toNat (List.getD a0 (Int.toNat a1) 0)) tBlockZ).2.1) : Nat) : Int))) 0 a2 (List.getD a2.2.2.1 (Int.toNat (List.getD a0 (Int.toNat a1) 0)) tBlockZ) r1.2.1) else none) else none) else (some (((true, ()), ()), ()))
def spec_l4Doms.l1_ (k : Nat) (l0 : (List Int) → Int → tFuncD → Option spec_l4Doms.R) (l1 : (List Int) → Int → Int → Int → Int → tFuncD → tBlockD → (List Int) → Option spec_l4Doms.R) (l2 : (List Int) → Int → Int → Int → Int → Int → tFuncD → tBlockD → (List Int) → Option spec_l4Doms.R) (l3 : (List Int) → Int → Int → Int → Int → tFuncD → tBlockD → Option spec_l4Doms.R) (l4 : (List Int) → Int → Int → Int → Int → Int → tFuncD → tBlockD → (List Int) → Option spec_l4Doms.R) (a0 : List Int) (a1 : Int) (a2 : Int) (a3 : Int) (a4 : Int) (a5 : tFuncD) (a6 : tBlockD) (a7 : List Int) : Option spec_l4Doms.R := bif decide (a4 < ((List.length a6.1 : Nat) : Int)) then (l2 a0 a1 a2 a3 a4 0 a5 a6 a7) else (l3 a0 a1 a2 a3 0 a5 a6)
def spec_l4Doms.l2_ (k : Nat) (l0 : (List Int) → Int → tFuncD → Option spec_l4Doms.R) (l1 : (List Int) → Int → Int → Int → Int → tFuncD → tBlockD → (List Int) → Option spec_l4Doms.R) (l2 : (List Int) → Int → Int → Int → Int → Int → tFuncD → tBlockD → (List Int) → Option spec_l4Doms.R) (l3 : (List Int) → Int → Int → Int → Int → tFuncD → tBlockD → Option spec_l4Doms.R) (l4 : (List Int) → Int → Int → Int → Int → Int → tFuncD → tBlockD → (List Int) → Option spec_l4Doms.R) (a0 : List Int) (a1 : Int) (a2 : Int) (a3 : Int) (a4 : Int) (a5 : Int) (a6 : tFuncD) (a7 : tBlockD) (a8 : List Int) : Option spec_l4Doms.R := bif decide (a5 < ((List.length a8 : Nat) : Int)) then (bif (decide (0 ≤ a5)) && (decide (a5 < ((List.length a8 : Nat) : Int))) then (bif (decide (0 ≤ List.getD a8 (Int.toNat a5) 0)) && (decide (List.getD a8 (Int.toNat a5) 0 < ((List.length a6.2.2.1 : Nat) : Int))) then (bif (decide (0 ≤ a5)) && (decide (a5 < ((List.length a8 : Nat) : Int))) then (Option.bind (spec_l1Has.f k a0 (List.getD a8 (Int.toNat a5) 0)) fun r1 => bif r1.1.1.1 then (bif (decide (0 ≤ a4)) && (decide (a4 < ((List.length a7.1 : Nat) : Int))) then (bif (decide (0 ≤ a5)) && (decide (a5 < ((List.length ((List.getD a7.1 (Int.toNat a4) tPhiZ).2.1) : Nat) : Int))) then (bif (decide (0 ≤ a5)) && (decide (a5 < ((List.length a8 : Nat) : Int))) then (Option.bind (spec_l4Sees.f k a6 (List.getD ((List.getD a7.1 (Int.toNat a4) tPhiZ).2.1) (Int.toNat a5) 0) (List.getD a8 (Int.toNat a5) 0) (IntKind.wrap .i64 (((List.length ((List.getD a6.2.2.1 (Int.toNat (List.getD a8 (Int.toNat a5) 0)) tBlockZ).1) : Nat) : Int) + ((List.length ((List.getD a6.2.2.1 (Int.toNat (List.getD a8 (Int.toNat a5) 0)) tBlockZ).2.1) : Nat) : Int)))) fun r2 => bif !r2.1.1.1 then (some (((false, ()), ()), ())) else (l2 a0 a1 a2 a3 a4 (IntKind.wrap .i64 (a5 + 1)) a6 a7 a8)) else none) else none) else none) else (l2 a0 a1 a2 a3 a4 (IntKind.wrap .i64 (a5 + 1)) a6 a7 a8)) else none) else none) else none) else (l1 a0 a1 a2 a3 (IntKind.wrap .i64 (a4 + 1)) a6 a7 a8)
def spec_l4Doms.l3_ (k : Nat) (l0 : (List Int) → Int → tFuncD → Option spec_l4Doms.R) (l1 : (List Int) → Int → Int → Int → Int → tFuncD → tBlockD → (List Int) → Option spec_l4Doms.R) (l2 : (List Int) → Int → Int → Int → Int → Int → tFuncD → tBlockD → (List Int) → Option spec_l4Doms.R) (l3 : (List Int) → Int → Int → Int → Int → tFuncD → tBlockD → Option spec_l4Doms.R) (l4 : (List Int) → Int → Int → Int → Int → Int → tFuncD → tBlockD → (List Int) → Option spec_l4Doms.R) (a0 : List Int) (a1 : Int) (a2 : Int) (a3 : Int) (a4 : Int) (a5 : tFuncD) (a6 : tBlockD) : Option spec_l4Doms.R := bif decide (a4 < ((List.length a6.2.1 : Nat) : Int)) then (bif (decide (0 ≤ a4)) && (decide (a4 < ((List.length a6.2.1 : Nat) : Int))) then (Option.bind (spec_l2Operands.f k (List.getD a6.2.1 (Int.toNat a4) tInstZ)) fun r1 => l4 a0 a1 a2 a3 a4 0 a5 a6 r1.2.1) else none) else (bif decide (a6.2.2.1 = 1) then (Option.bind (spec_l4Sees.f k a5 a6.2.2.2.1 a2 a3) fun r2 => bif !r2.1.1.1 then (some (((false, ()), ()), ())) else (l0 a0 (IntKind.wrap .i64 (a1 + 1)) a5)) else (bif decide (a6.2.2.1 = 3) then (Option.bind (spec_l4Sees.f k a5 a6.2.2.2.1 a2 a3) fun r3 => bif !r3.1.1.1 then (some (((false, ()), ()), ())) else (l0 a0 (IntKind.wrap .i64 (a1 + 1)) a5)) else (l0 a0 (IntKind.wrap .i64 (a1 + 1)) a5)))
def spec_l4Doms.l4_ (k : Nat) (l0 : (List Int) → Int → tFuncD → Option spec_l4Doms.R) (l1 : (List Int) → Int → Int → Int → Int → tFuncD → tBlockD → (List Int) → Option spec_l4Doms.R) (l2 : (List Int) → Int → Int → Int → Int → Int → tFuncD → tBlockD → (List Int) → Option spec_l4Doms.R) (l3 : (List Int) → Int → Int → Int → Int → tFuncD → tBlockD → Option spec_l4Doms.R) (l4 : (List Int) → Int → Int → Int → Int → Int → tFuncD → tBlockD → (List Int) → Option spec_l4Doms.R) (a0 : List Int) (a1 : Int) (a2 : Int) (a3 : Int) (a4 : Int) (a5 : Int) (a6 : tFuncD) (a7 : tBlockD) (a8 : List Int) : Option spec_l4Doms.R := bif decide (a5 < ((List.length a8 : Nat) : Int)) then (bif (decide (0 ≤ a5)) && (decide (a5 < ((List.length a8 : Nat) : Int))) then (Option.bind (spec_l4Sees.f k a6 (List.getD a8 (Int.toNat a5) 0) a2 (IntKind.wrap .i64 (((List.length a7.1 : Nat) : Int) + a4))) fun r1 => bif !r1.1.1.1 then (some (((false, ()), ()), ())) else (l4 a0 a1 a2 a3 a4 (IntKind.wrap .i64 (a5 + 1)) a6 a7 a8)) else none) else (l3 a0 a1 a2 a3 (IntKind.wrap .i64 (a4 + 1)) a6 a7)
def spec_l4Doms.all : Nat → ((List Int) → Int → tFuncD → Option spec_l4Doms.R) × ((List Int) → Int → Int → Int → Int → tFuncD → tBlockD → (List Int) → Option spec_l4Doms.R) × ((List Int) → Int → Int → Int → Int → Int → tFuncD → tBlockD → (List Int) → Option spec_l4Doms.R) × ((List Int) → Int → Int → Int → Int → tFuncD → tBlockD → Option spec_l4Doms.R) × ((List Int) → Int → Int → Int → Int → Int → tFuncD → tBlockD → (List Int) → Option spec_l4Doms.R) × Unit
  | 0 => (fun _ _ _ => none, fun _ _ _ _ _ _ _ _ => none, fun _ _ _ _ _ _ _ _ _ => none, fun _ _ _ _ _ _ _ => none, fun _ _ _ _ _ _ _ _ _ => none, ())
  | k + 1 => (spec_l4Doms.l0_ k (spec_l4Doms.all k).1 (spec_l4Doms.all k).2.1 (spec_l4Doms.all k).2.2.1 (spec_l4Doms.all k).2.2.2.1 (spec_l4Doms.all k).2.2.2.2.1, spec_l4Doms.l1_ k (spec_l4Doms.all k).1 (spec_l4Doms.all k).2.1 (spec_l4Doms.all k).2.2.1 (spec_l4Doms.all k).2.2.2.1 (spec_l4Doms.all k).2.2.2.2.1, spec_l4Doms.l2_ k (spec_l4Doms.all k).1 (spec_l4Doms.all k).2.1 (spec_l4Doms.all k).2.2.1 (spec_l4Doms.all k).2.2.2.1 (spec_l4Doms.all k).2.2.2.2.1, spec_l4Doms.l3_ k (spec_l4Doms.all k).1 (spec_l4Doms.all k).2.1 (spec_l4Doms.all k).2.2.1 (spec_l4Doms.all k).2.2.2.1 (spec_l4Doms.all k).2.2.2.2.1, spec_l4Doms.l4_ k (spec_l4Doms.all k).1 (spec_l4Doms.all k).2.1 (spec_l4Doms.all k).2.2.1 (spec_l4Doms.all k).2.2.2.1 (spec_l4Doms.all k).2.2.2.2.1, ())
def spec_l4Doms.l0 (k : Nat) : (List Int) → Int → tFuncD → Option spec_l4Doms.R := (spec_l4Doms.all k).1
def spec_l4Doms.l1 (k : Nat) : (List Int) → Int → Int → Int → Int → tFuncD → tBlockD → (List Int) → Option spec_l4Doms.R := (spec_l4Doms.all k).2.1
def spec_l4Doms.l2 (k : Nat) : (List Int) → Int → Int → Int → Int → Int → tFuncD → tBlockD → (List Int) → Option spec_l4Doms.R := (spec_l4Doms.all k).2.2.1
def spec_l4Doms.l3 (k : Nat) : (List Int) → Int → Int → Int → Int → tFuncD → tBlockD → Option spec_l4Doms.R := (spec_l4Doms.all k).2.2.2.1
def spec_l4Doms.l4 (k : Nat) : (List Int) → Int → Int → Int → Int → Int → tFuncD → tBlockD → (List Int) → Option spec_l4Doms.R := (spec_l4Doms.all k).2.2.2.2.1
def spec_l4Doms.f (k : Nat) (a0 : tFuncD) : Option spec_l4Doms.R := Option.bind (spec_l3Reach.f k a0 (-1)) fun r1 => spec_l4Doms.l0 k r1.1.1.1 0 a0
def spec_l4Doms.s (k : Nat) : FS := ⟨[⟨true, [.lst (.int .i64), .int .i64, .lst tBlock]⟩], [], false, [⟨false, [.bool]⟩], [], [], fun x => spec_l4Doms.f k x.1.1⟩
def spec_l4Doms.E (k : Nat) : Ents := [(⟨145, []⟩, spec_l3Reach.s k), (⟨80, []⟩, spec_l3Preds.s k), (⟨26, []⟩, spec_l1Has.s k), (⟨146, []⟩, spec_l4Sees.s k), (⟨54, []⟩, spec_l2Operands.s k)]
def spec_l4Doms.L0 (l : (List Int) → Int → tFuncD → Option spec_l4Doms.R) : LS spec_l4Doms.R := ⟨[], [(1, ⟨false, [.ptr 100000 0]⟩), (3, ⟨false, [.lst (.int .i64)]⟩), (4, ⟨false, [.int .i64]⟩)], [(100000, .box [.lst (.int .i64), .int .i64, .lst tBlock])], fun x => l x.1.2.1.1 x.1.2.2.1.1 x.2.1⟩
def spec_l4Doms.L1 (l : (List Int) → Int → Int → Int → Int → tFuncD → tBlockD → (List Int) → Option spec_l4Doms.R) : LS spec_l4Doms.R := ⟨[], [(1, ⟨false, [.ptr 100000 0]⟩), (3, ⟨false, [.lst (.int .i64)]⟩), (4, ⟨false, [.int .i64]⟩), (5, ⟨false, [.int .i64]⟩), (6, ⟨false, [.ptr 100001 0]⟩), (7, ⟨false, [.own 100002]⟩), (8, ⟨false, [.int .i64]⟩), (9, ⟨false, [.int .i64]⟩)], [(100000, .box [.lst (.int .i64), .int .i64, .lst tBlock]), (100001, .box [.lst tPhi, .lst tInst, .int .i64, .int .i64, .int .i64, .int .i64]), (100002, .row true (.int .i64))], fun x => l x.1.2.1.1 x.1.2.2.1.1 x.1.2.2.2.1.1 x.1.2.2.2.2.2.2.1.1 x.1.2.2.2.2.2.2.2.1.1 x.2.1 x.2.2.1 x.2.2.2.1⟩
def spec_l4Doms.L2 (l : (List Int) → Int → Int → Int → Int → Int → tFuncD → tBlockD → (List Int) → Option spec_l4Doms.R) : LS spec_l4Doms.R := ⟨[], [(1, ⟨false, [.ptr 100000 0]⟩), (3, ⟨false, [.lst (.int .i64)]⟩), (4, ⟨false, [.int .i64]⟩), (5, ⟨false, [.int .i64]⟩), (6, ⟨false, [.ptr 100001 0]⟩), (7, ⟨false, [.own 100002]⟩), (8, ⟨false, [.int .i64]⟩), (9, ⟨false, [.int .i64]⟩), (10, ⟨false, [.int .i64]⟩)], [(100000, .box [.lst (.int .i64), .int .i64, .lst tBlock]), (100001, .box [.lst tPhi, .lst tInst, .int .i64, .int .i64, .int .i64, .int .i64]), (100002, .row true (.int .i64))], fun x => l x.1.2.1.1 x.1.2.2.1.1 x.1.2.2.2.1.1 x.1.2.2.2.2.2.2.1.1 x.1.2.2.2.2.2.2.2.1.1 x.1.2.2.2.2.2.2.2.2.1.1 x.2.1 x.2.2.1 x.2.2.2.1⟩
def spec_l4Doms.L3 (l : (List Int) → Int → Int → Int → Int → tFuncD → tBlockD → Option spec_l4Doms.R) : LS spec_l4Doms.R := ⟨[], [(1, ⟨false, [.ptr 100000 0]⟩), (3, ⟨false, [.lst (.int .i64)]⟩), (4, ⟨false, [.int .i64]⟩), (5, ⟨false, [.int .i64]⟩), (6, ⟨false, [.ptr 100001 0]⟩), (8, ⟨false, [.int .i64]⟩), (12, ⟨false, [.int .i64]⟩)], [(100000, .box [.lst (.int .i64), .int .i64, .lst tBlock]), (100001, .box [.lst tPhi, .lst tInst, .int .i64, .int .i64, .int .i64, .int .i64])], fun x => l x.1.2.1.1 x.1.2.2.1.1 x.1.2.2.2.1.1 x.1.2.2.2.2.2.1.1 x.1.2.2.2.2.2.2.1.1 x.2.1 x.2.2.1⟩
def spec_l4Doms.L4 (l : (List Int) → Int → Int → Int → Int → Int → tFuncD → tBlockD → (List Int) → Option spec_l4Doms.R) : LS spec_l4Doms.R := ⟨[], [(1, ⟨false, [.ptr 100000 0]⟩), (3, ⟨false, [.lst (.int .i64)]⟩), (4, ⟨false, [.int .i64]⟩), (5, ⟨false, [.int .i64]⟩), (6, ⟨false, [.ptr 100001 0]⟩), (8, ⟨false, [.int .i64]⟩), (12, ⟨false, [.int .i64]⟩), (13, ⟨false, [.own 100002]⟩), (14, ⟨false, [.int .i64]⟩)], [(100000, .box [.lst (.int .i64), .int .i64, .lst tBlock]), (100001, .box [.lst tPhi, .lst tInst, .int .i64, .int .i64, .int .i64, .int .i64]), (100002, .row true (.int .i64))], fun x => l x.1.2.1.1 x.1.2.2.1.1 x.1.2.2.2.1.1 x.1.2.2.2.2.2.1.1 x.1.2.2.2.2.2.2.1.1 x.1.2.2.2.2.2.2.2.2.1.1 x.2.1 x.2.2.1 x.2.2.2.1⟩
def spec_l4Doms.L (l0 : (List Int) → Int → tFuncD → Option spec_l4Doms.R) (l1 : (List Int) → Int → Int → Int → Int → tFuncD → tBlockD → (List Int) → Option spec_l4Doms.R) (l2 : (List Int) → Int → Int → Int → Int → Int → tFuncD → tBlockD → (List Int) → Option spec_l4Doms.R) (l3 : (List Int) → Int → Int → Int → Int → tFuncD → tBlockD → Option spec_l4Doms.R) (l4 : (List Int) → Int → Int → Int → Int → Int → tFuncD → tBlockD → (List Int) → Option spec_l4Doms.R) : List (LS spec_l4Doms.R) := [spec_l4Doms.L0 l0, spec_l4Doms.L1 l1, spec_l4Doms.L2 l2, spec_l4Doms.L3 l3, spec_l4Doms.L4 l4]
def spec_l4Doms.c : Code := Tryz.f84.body.getD .skip
theorem spec_l4Doms.eq (k : Nat) (x) : (spec_l4Doms.s k).pf x = execF tab (spec_l4Doms.E k) Tryz.f84 spec_l4Doms.c (spec_l4Doms.s k) (spec_l4Doms.L (spec_l4Doms.l0 k) (spec_l4Doms.l1 k) (spec_l4Doms.l2 k) (spec_l4Doms.l3 k) (spec_l4Doms.l4 k)) x := by kernel_rfl
theorem spec_l4Doms.r0 (l0 : (List Int) → Int → tFuncD → Option spec_l4Doms.R) (l1 : (List Int) → Int → Int → Int → Int → tFuncD → tBlockD → (List Int) → Option spec_l4Doms.R) (l2 : (List Int) → Int → Int → Int → Int → Int → tFuncD → tBlockD → (List Int) → Option spec_l4Doms.R) (l3 : (List Int) → Int → Int → Int → Int → tFuncD → tBlockD → Option spec_l4Doms.R) (l4 : (List Int) → Int → Int → Int → Int → Int → tFuncD → tBlockD → (List Int) → Option spec_l4Doms.R) (k : Nat) (x) : spec_l4Doms.l0_ k l0 l1 l2 l3 l4 x.1.2.1.1 x.1.2.2.1.1 x.2.1 = roundOf tab (spec_l4Doms.E k) (spec_l4Doms.L l0 l1 l2 l3 l4) spec_l4Doms.c (fin tab Tryz.f84 (spec_l4Doms.s k)) 0 (spec_l4Doms.L0 l0) x := by kernel_rfl
theorem spec_l4Doms.r1 (l0 : (List Int) → Int → tFuncD → Option spec_l4Doms.R) (l1 : (List Int) → Int → Int → Int → Int → tFuncD → tBlockD → (List Int) → Option spec_l4Doms.R) (l2 : (List Int) → Int → Int → Int → Int → Int → tFuncD → tBlockD → (List Int) → Option spec_l4Doms.R) (l3 : (List Int) → Int → Int → Int → Int → tFuncD → tBlockD → Option spec_l4Doms.R) (l4 : (List Int) → Int → Int → Int → Int → Int → tFuncD → tBlockD → (List Int) → Option spec_l4Doms.R) (k : Nat) (x) : spec_l4Doms.l1_ k l0 l1 l2 l3 l4 x.1.2.1.1 x.1.2.2.1.1 x.1.2.2.2.1.1 x.1.2.2.2.2.2.2.1.1 x.1.2.2.2.2.2.2.2.1.1 x.2.1 x.2.2.1 x.2.2.2.1 = roundOf tab (spec_l4Doms.E k) (spec_l4Doms.L l0 l1 l2 l3 l4) spec_l4Doms.c (fin tab Tryz.f84 (spec_l4Doms.s k)) 1 (spec_l4Doms.L1 l1) x := by kernel_rfl
theorem spec_l4Doms.r2 (l0 : (List Int) → Int → tFuncD → Option spec_l4Doms.R) (l1 : (List Int) → Int → Int → Int → Int → tFuncD → tBlockD → (List Int) → Option spec_l4Doms.R) (l2 : (List Int) → Int → Int → Int → Int → Int → tFuncD → tBlockD → (List Int) → Option spec_l4Doms.R) (l3 : (List Int) → Int → Int → Int → Int → tFuncD → tBlockD → Option spec_l4Doms.R) (l4 : (List Int) → Int → Int → Int → Int → Int → tFuncD → tBlockD → (List Int) → Option spec_l4Doms.R) (k : Nat) (x) : spec_l4Doms.l2_ k l0 l1 l2 l3 l4 x.1.2.1.1 x.1.2.2.1.1 x.1.2.2.2.1.1 x.1.2.2.2.2.2.2.1.1 x.1.2.2.2.2.2.2.2.1.1 x.1.2.2.2.2.2.2.2.2.1.1 x.2.1 x.2.2.1 x.2.2.2.1 = roundOf tab (spec_l4Doms.E k) (spec_l4Doms.L l0 l1 l2 l3 l4) spec_l4Doms.c (fin tab Tryz.f84 (spec_l4Doms.s k)) 2 (spec_l4Doms.L2 l2) x := by kernel_rfl
theorem spec_l4Doms.r3 (l0 : (List Int) → Int → tFuncD → Option spec_l4Doms.R) (l1 : (List Int) → Int → Int → Int → Int → tFuncD → tBlockD → (List Int) → Option spec_l4Doms.R) (l2 : (List Int) → Int → Int → Int → Int → Int → tFuncD → tBlockD → (List Int) → Option spec_l4Doms.R) (l3 : (List Int) → Int → Int → Int → Int → tFuncD → tBlockD → Option spec_l4Doms.R) (l4 : (List Int) → Int → Int → Int → Int → Int → tFuncD → tBlockD → (List Int) → Option spec_l4Doms.R) (k : Nat) (x) : spec_l4Doms.l3_ k l0 l1 l2 l3 l4 x.1.2.1.1 x.1.2.2.1.1 x.1.2.2.2.1.1 x.1.2.2.2.2.2.1.1 x.1.2.2.2.2.2.2.1.1 x.2.1 x.2.2.1 = roundOf tab (spec_l4Doms.E k) (spec_l4Doms.L l0 l1 l2 l3 l4) spec_l4Doms.c (fin tab Tryz.f84 (spec_l4Doms.s k)) 3 (spec_l4Doms.L3 l3) x := by kernel_rfl
theorem spec_l4Doms.r4 (l0 : (List Int) → Int → tFuncD → Option spec_l4Doms.R) (l1 : (List Int) → Int → Int → Int → Int → tFuncD → tBlockD → (List Int) → Option spec_l4Doms.R) (l2 : (List Int) → Int → Int → Int → Int → Int → tFuncD → tBlockD → (List Int) → Option spec_l4Doms.R) (l3 : (List Int) → Int → Int → Int → Int → tFuncD → tBlockD → Option spec_l4Doms.R) (l4 : (List Int) → Int → Int → Int → Int → Int → tFuncD → tBlockD → (List Int) → Option spec_l4Doms.R) (k : Nat) (x) : spec_l4Doms.l4_ k l0 l1 l2 l3 l4 x.1.2.1.1 x.1.2.2.1.1 x.1.2.2.2.1.1 x.1.2.2.2.2.2.1.1 x.1.2.2.2.2.2.2.1.1 x.1.2.2.2.2.2.2.2.2.1.1 x.2.1 x.2.2.1 x.2.2.2.1 = roundOf tab (spec_l4Doms.E k) (spec_l4Doms.L l0 l1 l2 l3 l4) spec_l4Doms.c (fin tab Tryz.f84 (spec_l4Doms.s k)) 4 (spec_l4Doms.L4 l4) x := by kernel_rfl
theorem spec_l4Doms.sound : ∀ k, Sound Tryz.prog 84 (spec_l4Doms.s k) := sound_of mixed tab_ok (f := 84) (fn := Tryz.f84) (c := spec_l4Doms.c) (by kernel_rfl) (by kernel_rfl) (by kernel_rfl) ⟨[⟨true, [.lst (.int .i64), .int .i64, .lst tBlock]⟩], [], false, [⟨false, [.bool]⟩], [], []⟩ (by kernel_rfl) (by kernel_rfl) (fun k => (spec_l4Doms.s k).pf) spec_l4Doms.E (fun k => (EntsOK.cons (spec_l3Reach.sound k) (EntsOK.cons (spec_l3Preds.sound k) (EntsOK.cons (spec_l1Has.sound k) (EntsOK.cons (spec_l4Sees.sound k) (EntsOK.cons (spec_l2Operands.sound k) EntsOK.nil)))))) (fun k => spec_l4Doms.L (spec_l4Doms.l0 k) (spec_l4Doms.l1 k) (spec_l4Doms.l2 k) (spec_l4Doms.l3 k) (spec_l4Doms.l4 k)) (fun k => ⟨rfl, rfl, rfl, rfl, rfl, trivial⟩) ⟨fun _ => rfl, fun _ => rfl, fun _ => rfl, fun _ => rfl, fun _ => rfl, trivial⟩ (fun k => ⟨⟨(spec_l4Doms.L0 (spec_l4Doms.l0 (k + 1))).l, rfl, fun x => spec_l4Doms.r0 (spec_l4Doms.l0 k) (spec_l4Doms.l1 k) (spec_l4Doms.l2 k) (spec_l4Doms.l3 k) (spec_l4Doms.l4 k) k x⟩, ⟨(spec_l4Doms.L1 (spec_l4Doms.l1 (k + 1))).l, rfl, fun x => spec_l4Doms.r1 (spec_l4Doms.l0 k) (spec_l4Doms.l1 k) (spec_l4Doms.l2 k) (spec_l4Doms.l3 k) (spec_l4Doms.l4 k) k x⟩, ⟨(spec_l4Doms.L2 (spec_l4Doms.l2 (k + 1))).l, rfl, fun x => spec_l4Doms.r2 (spec_l4Doms.l0 k) (spec_l4Doms.l1 k) (spec_l4Doms.l2 k) (spec_l4Doms.l3 k) (spec_l4Doms.l4 k) k x⟩, ⟨(spec_l4Doms.L3 (spec_l4Doms.l3 (k + 1))).l, rfl, fun x => spec_l4Doms.r3 (spec_l4Doms.l0 k) (spec_l4Doms.l1 k) (spec_l4Doms.l2 k) (spec_l4Doms.l3 k) (spec_l4Doms.l4 k) k x⟩, ⟨(spec_l4Doms.L4 (spec_l4Doms.l4 (k + 1))).l, rfl, fun x => spec_l4Doms.r4 (spec_l4Doms.l0 k) (spec_l4Doms.l1 k) (spec_l4Doms.l2 k) (spec_l4Doms.l3 k) (spec_l4Doms.l4 k) k x⟩, trivial⟩) spec_l4Doms.eq
end
end Go.Proofs.YtebgkcjpocfmmaaGreat.V
namespace Go.Proofs.YtebgkcjpocfmmaaGreat.V
open Go
set_option linter.unusedVariables false
noncomputable section
/-! ### spec.l4Func: function 39 -/
abbrev spec_l4Func.R := (((Int × Unit) × Unit) × Unit)
def spec_l4Func.f (k : Nat) (a0 : tModuleD) (a1 : tFuncD) : Option spec_l4Func.R := Option.bind (spec_l3Preds.f k a1 0) fun r1 => bif decide (0 < ((List.length r1.2.1 : Nat) : Int)) then (some (((2, ()), ()), ())) else (bif (decide (0 ≤ 0)) && (decide (0 < ((List.length a1.2.2.1 : Nat) : Int))) then (bif decide (0 < ((List.length ((List.getD a1.2.2.1 0 tBlockZ).1) : Nat) : Int)) then (some (((2, ()), ()), ())) else (Option.bind (spec_l4Phis.f k a1) fun r2 => bif !r2.1.1.1 then (some (((3, ()), ()), ())) else (Option.bind (spec_l4Types.f k a1) fun r3 => bif !r3.1.1.1 then (some (((4, ()), ()), ())) else (Option.bind (spec_l4Calls.f k (a0.1, ()) a1) fun r4 => bif !r4.1.1.1 then (some (((5, ()), ()), ())) else (Option.bind (spec_l4Doms.f k a1) fun r5 => bif !r5.1.1.1 then (some (((6, ()), ()), ())) else (some (((0, ()), ()), ()))))))) else none)
def spec_l4Func.s (k : Nat) : FS := ⟨[⟨true, [.lst tFunc]⟩, ⟨true, [.lst (.int .i64), .int .i64, .lst tBlock]⟩], [], false, [⟨false, [.int .i64]⟩], [], [], fun x => spec_l4Func.f k x.1.1 x.1.2.1⟩
def spec_l4Func.E (k : Nat) : Ents := [(⟨80, []⟩, spec_l3Preds.s k), (⟨81, []⟩, spec_l4Phis.s k), (⟨82, []⟩, spec_l4Types.s k), (⟨83, []⟩, spec_l4Calls.s k), (⟨84, []⟩, spec_l4Doms.s k)]
def spec_l4Func.L : List (LS spec_l4Func.R) := []
def spec_l4Func.c : Code := Tryz.f39.body.getD .skip
theorem spec_l4Func.eq (k : Nat) (x) : (spec_l4Func.s k).pf x = execF tab (spec_l4Func.E k) Tryz.f39 spec_l4Func.c (spec_l4Func.s k) spec_l4Func.L x := by kernel_rfl
theorem spec_l4Func.sound : ∀ k, Sound Tryz.prog 39 (spec_l4Func.s k) := sound_of mixed tab_ok (f := 39) (fn := Tryz.f39) (c := spec_l4Func.c) (by kernel_rfl) (by kernel_rfl) (by kernel_rfl) ⟨[⟨true, [.lst tFunc]⟩, ⟨true, [.lst (.int .i64), .int .i64, .lst tBlock]⟩], [], false, [⟨false, [.int .i64]⟩], [], []⟩ (by kernel_rfl) (by kernel_rfl) (fun k => (spec_l4Func.s k).pf) spec_l4Func.E (fun k => (EntsOK.cons (spec_l3Preds.sound k) (EntsOK.cons (spec_l4Phis.sound k) (EntsOK.cons (spec_l4Types.sound k) (EntsOK.cons (spec_l4Calls.sound k) (EntsOK.cons (spec_l4Doms.sound k) EntsOK.nil)))))) (fun k => spec_l4Func.L) (fun k => trivial) trivial (fun k => trivial) spec_l4Func.eq
end
end Go.Proofs.YtebgkcjpocfmmaaGreat.V
namespace Go.Proofs.YtebgkcjpocfmmaaGreat.V
open Go
set_option linter.unusedVariables false
noncomputable section
/-! ### spec.FuncChecked: function 17 -/
abbrev spec_FuncChecked.R := (((Int × Unit) × Unit) × Unit)
def spec_FuncChecked.f (k : Nat) (a0 : tModuleD) (a1 : Int) : Option spec_FuncChecked.R := Option.bind (spec_ShapeOk.f k (a0.1, ())) fun r1 => bif !r1.1.1.1 then (some (((1, ()), ()), ())) else (Option.bind (spec_l1In.f k a1 0 (IntKind.wrap .i64 (((List.length a0.1 : Nat) : Int) - 1))) fun r2 => bif !r2.1.1.1 then (some (((1, ()), ()), ())) else (bif (decide (0 ≤ a1)) && (decide (a1 < ((List.length a0.1 : Nat) : Int))) then (Option.bind (spec_l4Func.f k (a0.1, ()) (List.getD a0.1 (Int.toNat a1) tFuncZ)) fun r3 => some (((r3.1.1.1, ()), ()), ())) else none))
def spec_FuncChecked.s (k : Nat) : FS := ⟨[⟨true, [.lst tFunc]⟩, ⟨false, [.int .i64]⟩], [], false, [⟨false, [.int .i64]⟩], [], [], fun x => spec_FuncChecked.f k x.1.1 x.1.2.1.1⟩
def spec_FuncChecked.E (k : Nat) : Ents := [(⟨37, []⟩, spec_ShapeOk.s k), (⟨38, []⟩, spec_l1In.s k), (⟨39, []⟩, spec_l4Func.s k)]
def spec_FuncChecked.L : List (LS spec_FuncChecked.R) := []
def spec_FuncChecked.c : Code := Tryz.f17.body.getD .skip
theorem spec_FuncChecked.eq (k : Nat) (x) : (spec_FuncChecked.s k).pf x = execF tab (spec_FuncChecked.E k) Tryz.f17 spec_FuncChecked.c (spec_FuncChecked.s k) spec_FuncChecked.L x := by kernel_rfl
theorem spec_FuncChecked.sound : ∀ k, Sound Tryz.prog 17 (spec_FuncChecked.s k) := sound_of mixed tab_ok (f := 17) (fn := Tryz.f17) (c := spec_FuncChecked.c) (by kernel_rfl) (by kernel_rfl) (by kernel_rfl) ⟨[⟨true, [.lst tFunc]⟩, ⟨false, [.int .i64]⟩], [], false, [⟨false, [.int .i64]⟩], [], []⟩ (by kernel_rfl) (by kernel_rfl) (fun k => (spec_FuncChecked.s k).pf) spec_FuncChecked.E (fun k => (EntsOK.cons (spec_ShapeOk.sound k) (EntsOK.cons (spec_l1In.sound k) (EntsOK.cons (spec_l4Func.sound k) EntsOK.nil)))) (fun k => spec_FuncChecked.L) (fun k => trivial) trivial (fun k => trivial) spec_FuncChecked.eq
end
end Go.Proofs.YtebgkcjpocfmmaaGreat.V
namespace Go.Proofs.YtebgkcjpocfmmaaGreat.V
open Go
set_option linter.unusedVariables false
noncomputable section
/-! ### impl.within: function 41 -/
abbrev impl_within.R := (((Bool × Unit) × Unit) × Unit)
def impl_within.f (k : Nat) (a0 : Int) (a1 : Int) (a2 : Int) : Option impl_within.R := bif decide (a1 ≤ a0) then (some (((decide (a0 ≤ a2), ()), ()), ())) else (some (((false, ()), ()), ()))
def impl_within.s (k : Nat) : FS := ⟨[⟨false, [.int .i64]⟩, ⟨false, [.int .i64]⟩, ⟨false, [.int .i64]⟩], [], false, [⟨false, [.bool]⟩], [], [], fun x => impl_within.f k x.1.1.1 x.1.2.1.1 x.1.2.2.1.1⟩
def impl_within.E (k : Nat) : Ents := []
def impl_within.L : List (LS impl_within.R) := []
def impl_within.c : Code := Tryz.f41.body.getD .skip
theorem impl_within.eq (k : Nat) (x) : (impl_within.s k).pf x = execF tab (impl_within.E k) Tryz.f41 impl_within.c (impl_within.s k) impl_within.L x := by kernel_rfl
theorem impl_within.sound : ∀ k, Sound Tryz.prog 41 (impl_within.s k) := sound_of mixed tab_ok (f := 41) (fn := Tryz.f41) (c := impl_within.c) (by kernel_rfl) (by kernel_rfl) (by kernel_rfl) ⟨[⟨false, [.int .i64]⟩, ⟨false, [.int .i64]⟩, ⟨false, [.int .i64]⟩], [], false, [⟨false, [.bool]⟩], [], []⟩ (by kernel_rfl) (by kernel_rfl) (fun k => (impl_within.s k).pf) impl_within.E (fun k => EntsOK.nil) (fun k => impl_within.L) (fun k => trivial) trivial (fun k => trivial) impl_within.eq
end
end Go.Proofs.YtebgkcjpocfmmaaGreat.V
namespace Go.Proofs.YtebgkcjpocfmmaaGreat.V
open Go
set_option linter.unusedVariables false
noncomputable section
/-! ### impl.WidthOk: function 134 -/
abbrev impl_WidthOk.R := (((Bool × Unit) × Unit) × Unit)
def impl_WidthOk.f (k : Nat) (a0 : Int) : Option impl_WidthOk.R := bif decide (a0 = 1) then (some (((true, ()), ()), ())) else (bif decide (a0 = 8) then (some (((true, ()), ()), ())) else (bif decide (a0 = 16) then (some (((true, ()), ()), ())) else (some (((decide (a0 = 32), ()), ()), ()))))
def impl_WidthOk.s (k : Nat) : FS := ⟨[⟨false, [.int .i64]⟩], [], false, [⟨false, [.bool]⟩], [], [], fun x => impl_WidthOk.f k x.1.1.1⟩
def impl_WidthOk.E (k : Nat) : Ents := []
def impl_WidthOk.L : List (LS impl_WidthOk.R) := []
def impl_WidthOk.c : Code := Tryz.f134.body.getD .skip
theorem impl_WidthOk.eq (k : Nat) (x) : (impl_WidthOk.s k).pf x = execF tab (impl_WidthOk.E k) Tryz.f134 impl_WidthOk.c (impl_WidthOk.s k) impl_WidthOk.L x := by kernel_rfl
theorem impl_WidthOk.sound : ∀ k, Sound Tryz.prog 134 (impl_WidthOk.s k) := sound_of mixed tab_ok (f := 134) (fn := Tryz.f134) (c := impl_WidthOk.c) (by kernel_rfl) (by kernel_rfl) (by kernel_rfl) ⟨[⟨false, [.int .i64]⟩], [], false, [⟨false, [.bool]⟩], [], []⟩ (by kernel_rfl) (by kernel_rfl) (fun k => (impl_WidthOk.s k).pf) impl_WidthOk.E (fun k => EntsOK.nil) (fun k => impl_WidthOk.L) (fun k => trivial) trivial (fun k => trivial) impl_WidthOk.eq
end
end Go.Proofs.YtebgkcjpocfmmaaGreat.V
namespace Go.Proofs.YtebgkcjpocfmmaaGreat.V
open Go
set_option linter.unusedVariables false
noncomputable section
/-! ### impl.isFunc$1: function 149 -/
abbrev impl_isFunc_1.R := (((Bool × Unit) × Unit) × Unit)
def impl_isFunc_1.f (k : Nat) (a0 : Int) : Option impl_isFunc_1.R := Option.bind (impl_WidthOk.f k a0) fun r1 => some (((!r1.1.1.1, ()), ()), ())
def impl_isFunc_1.s (k : Nat) : FS := ⟨[⟨false, [.int .i64]⟩], [], false, [⟨false, [.bool]⟩], [], [], fun x => impl_isFunc_1.f k x.1.1.1⟩
def impl_isFunc_1.E (k : Nat) : Ents := [(⟨134, []⟩, impl_WidthOk.s k)]
def impl_isFunc_1.L : List (LS impl_isFunc_1.R) := []
def impl_isFunc_1.c : Code := Tryz.f149.body.getD .skip
theorem impl_isFunc_1.eq (k : Nat) (x) : (impl_isFunc_1.s k).pf x = execF tab (impl_isFunc_1.E k) Tryz.f149 impl_isFunc_1.c (impl_isFunc_1.s k) impl_isFunc_1.L x := by kernel_rfl
theorem impl_isFunc_1.sound : ∀ k, Sound Tryz.prog 149 (impl_isFunc_1.s k) := sound_of mixed tab_ok (f := 149) (fn := Tryz.f149) (c := impl_isFunc_1.c) (by kernel_rfl) (by kernel_rfl) (by kernel_rfl) ⟨[⟨false, [.int .i64]⟩], [], false, [⟨false, [.bool]⟩], [], []⟩ (by kernel_rfl) (by kernel_rfl) (fun k => (impl_isFunc_1.s k).pf) impl_isFunc_1.E (fun k => (EntsOK.cons (impl_WidthOk.sound k) EntsOK.nil)) (fun k => impl_isFunc_1.L) (fun k => trivial) trivial (fun k => trivial) impl_isFunc_1.eq
end
end Go.Proofs.YtebgkcjpocfmmaaGreat.V
namespace Go.Proofs.YtebgkcjpocfmmaaGreat.V
open Go
set_option linter.unusedVariables false
noncomputable section
/-! ### slices.IndexFunc[[]int64,int64]: function 183 -/
abbrev slices_IndexFunc_int64_int64.R := (((Int × Unit) × Unit) × Unit)
def slices_IndexFunc_int64_int64.l0_ (k : Nat) (l0 : (List Int) → Int → Int → Option slices_IndexFunc_int64_int64.R) (a0 : List Int) (a1 : Int) (a2 : Int) : Option slices_IndexFunc_int64_int64.R := bif decide (a2 < a1) then (bif (decide (0 ≤ a2)) && (decide (a2 < ((List.length a0 : Nat) : Int))) then (Option.bind (impl_isFunc_1.f k (List.getD a0 (Int.toNat a2) 0)) fun r1 => bif r1.1.1.1 then (some (((a2, ()), ()), ())) else (l0 a0 a1 (IntKind.wrap .i64 (a2 + 1)))) else none) else (some (((-1, ()), ()), ()))
def slices_IndexFunc_int64_int64.all : Nat → ((List Int) → Int → Int → Option slices_IndexFunc_int64_int64.R) × Unit
  | 0 => (fun _ _ _ => none, ())
  | k + 1 => (slices_IndexFunc_int64_int64.l0_ k (slices_IndexFunc_int64_int64.all k).1, ())
def slices_IndexFunc_int64_int64.l0 (k : Nat) : (List Int) → Int → Int → Option slices_IndexFunc_int64_int64.R := (slices_IndexFunc_int64_int64.all k).1
def slices_IndexFunc_int64_int64.f (k : Nat) (a0 : List Int) : Option slices_IndexFunc_int64_int64.R := slices_IndexFunc_int64_int64.l0 k a0 ((List.length a0 : Nat) : Int) 0
def slices_IndexFunc_int64_int64.s (k : Nat) : FS := ⟨[⟨false, [.lst (.int .i64)]⟩, ⟨false, [.fn 149 []]⟩], [], false, [⟨false, [.int .i64]⟩], [], [], fun x => slices_IndexFunc_int64_int64.f k x.1.1.1⟩
def slices_IndexFunc_int64_int64.E (k : Nat) : Ents := [(⟨149, []⟩, impl_isFunc_1.s k)]
def slices_IndexFunc_int64_int64.L0 (l : (List Int) → Int → Int → Option slices_IndexFunc_int64_int64.R) : LS slices_IndexFunc_int64_int64.R := ⟨[], [(0, ⟨false, [.lst (.int .i64)]⟩), (1, ⟨false, [.fn 149 []]⟩), (7, ⟨false, [.int .i64]⟩), (8, ⟨false, [.int .i64]⟩)], [], fun x => l x.1.1.1 x.1.2.2.1.1 x.1.2.2.2.1.1⟩
def slices_IndexFunc_int64_int64.L (l0 : (List Int) → Int → Int → Option slices_IndexFunc_int64_int64.R) : List (LS slices_IndexFunc_int64_int64.R) := [slices_IndexFunc_int64_int64.L0 l0]
def slices_IndexFunc_int64_int64.c : Code := Tryz.f183.body.getD .skip
theorem slices_IndexFunc_int64_int64.eq (k : Nat) (x) : (slices_IndexFunc_int64_int64.s k).pf x = execF tab (slices_IndexFunc_int64_int64.E k) Tryz.f183 slices_IndexFunc_int64_int64.c (slices_IndexFunc_int64_int64.s k) (slices_IndexFunc_int64_int64.L (slices_IndexFunc_int64_int64.l0 k)) x := by kernel_rfl
theorem slices_IndexFunc_int64_int64.r0 (l0 : (List Int) → Int → Int → Option slices_IndexFunc_int64_int64.R) (k : Nat) (x) : slices_IndexFunc_int64_int64.l0_ k l0 x.1.1.1 x.1.2.2.1.1 x.1.2.2.2.1.1 = roundOf tab (slices_IndexFunc_int64_int64.E k) (slices_IndexFunc_int64_int64.L l0) slices_IndexFunc_int64_int64.c (fin tab Tryz.f183 (slices_IndexFunc_int64_int64.s k)) 0 (slices_IndexFunc_int64_int64.L0 l0) x := by kernel_rfl
theorem slices_IndexFunc_int64_int64.sound : ∀ k, Sound Tryz.prog 183 (slices_IndexFunc_int64_int64.s k) := sound_of mixed tab_ok (f := 183) (fn := Tryz.f183) (c := slices_IndexFunc_int64_int64.c) (by kernel_rfl) (by kernel_rfl) (by kernel_rfl) ⟨[⟨false, [.lst (.int .i64)]⟩, ⟨false, [.fn 149 []]⟩], [], false, [⟨false, [.int .i64]⟩], [], []⟩ (by kernel_rfl) (by kernel_rfl) (fun k => (slices_IndexFunc_int64_int64.s k).pf) slices_IndexFunc_int64_int64.E (fun k => (EntsOK.cons (impl_isFunc_1.sound k) EntsOK.nil)) (fun k => slices_IndexFunc_int64_int64.L (slices_IndexFunc_int64_int64.l0 k)) (fun k => ⟨rfl, trivial⟩) ⟨fun _ => rfl, trivial⟩ (fun k => ⟨⟨(slices_IndexFunc_int64_int64.L0 (slices_IndexFunc_int64_int64.l0 (k + 1))).l, rfl, fun x => slices_IndexFunc_int64_int64.r0 (slices_IndexFunc_int64_int64.l0 k) k x⟩, trivial⟩) slices_IndexFunc_int64_int64.eq
end
end Go.Proofs.YtebgkcjpocfmmaaGreat.V
namespace Go.Proofs.YtebgkcjpocfmmaaGreat.V
open Go
set_option linter.unusedVariables false
noncomputable section
/-! ### slices.ContainsFunc[[]int64,int64]: function 148 -/
abbrev slices_ContainsFunc_int64_int64.R := (((Bool × Unit) × Unit) × Unit)
def slices_ContainsFunc_int64_int64.f (k : Nat) (a0 : List Int) : Option slices_ContainsFunc_int64_int64.R := Option.bind (slices_IndexFunc_int64_int64.f k a0) fun r1 => some (((decide (0 ≤ r1.1.1.1), ()), ()), ())
def slices_ContainsFunc_int64_int64.s (k : Nat) : FS := ⟨[⟨false, [.lst (.int .i64)]⟩, ⟨false, [.fn 149 []]⟩], [], false, [⟨false, [.bool]⟩], [], [], fun x => slices_ContainsFunc_int64_int64.f k x.1.1.1⟩
def slices_ContainsFunc_int64_int64.E (k : Nat) : Ents := [(⟨183, [149]⟩, slices_IndexFunc_int64_int64.s k)]
def slices_ContainsFunc_int64_int64.L : List (LS slices_ContainsFunc_int64_int64.R) := []
def slices_ContainsFunc_int64_int64.c : Code := Tryz.f148.body.getD .skip
theorem slices_ContainsFunc_int64_int64.eq (k : Nat) (x) : (slices_ContainsFunc_int64_int64.s k).pf x = execF tab (slices_ContainsFunc_int64_int64.E k) Tryz.f148 slices_ContainsFunc_int64_int64.c (slices_ContainsFunc_int64_int64.s k) slices_ContainsFunc_int64_int64.L x := by kernel_rfl
theorem slices_ContainsFunc_int64_int64.sound : ∀ k, Sound Tryz.prog 148 (slices_ContainsFunc_int64_int64.s k) := sound_of mixed tab_ok (f := 148) (fn := Tryz.f148) (c := slices_ContainsFunc_int64_int64.c) (by kernel_rfl) (by kernel_rfl) (by kernel_rfl) ⟨[⟨false, [.lst (.int .i64)]⟩, ⟨false, [.fn 149 []]⟩], [], false, [⟨false, [.bool]⟩], [], []⟩ (by kernel_rfl) (by kernel_rfl) (fun k => (slices_ContainsFunc_int64_int64.s k).pf) slices_ContainsFunc_int64_int64.E (fun k => (EntsOK.cons (slices_IndexFunc_int64_int64.sound k) EntsOK.nil)) (fun k => slices_ContainsFunc_int64_int64.L) (fun k => trivial) trivial (fun k => trivial) slices_ContainsFunc_int64_int64.eq
end
end Go.Proofs.YtebgkcjpocfmmaaGreat.V
namespace Go.Proofs.YtebgkcjpocfmmaaGreat.V
open Go
set_option linter.unusedVariables false
noncomputable section
/-! ### impl.CountOf: function 111 -/
abbrev impl_CountOf.R := (((Int × Unit) × Unit) × Unit)
def impl_CountOf.l0_ (k : Nat) (l0 : Int → (List tBlockD) → Int → Int → Option impl_CountOf.R) (a0 : Int) (a1 : List tBlockD) (a2 : Int) (a3 : Int) : Option impl_CountOf.R := bif decide (a3 < a2) then (bif (decide (0 ≤ a3)) && (decide (a3 < ((List.length a1 : Nat) : Int))) then (l0 (IntKind.wrap .i64 (a0 + (IntKind.wrap .i64 (((List.length ((List.getD a1 (Int.toNat a3) tBlockZ).1) : Nat) : Int) + ((List.length ((List.getD a1 (Int.toNat a3) tBlockZ).2.1) : Nat) : Int))))) a1 a2 (IntKind.wrap .i64 (a3 + 1))) else none) else (some (((a0, ()), ()), ()))
def impl_CountOf.all : Nat → (Int → (List tBlockD) → Int → Int → Option impl_CountOf.R) × Unit
  | 0 => (fun _ _ _ _ => none, ())
  | k + 1 => (impl_CountOf.l0_ k (impl_CountOf.all k).1, ())
def impl_CountOf.l0 (k : Nat) : Int → (List tBlockD) → Int → Int → Option impl_CountOf.R := (impl_CountOf.all k).1
def impl_CountOf.f (k : Nat) (a0 : tFuncD) : Option impl_CountOf.R := impl_CountOf.l0 k ((List.length a0.1 : Nat) : Int) a0.2.2.1 ((List.length a0.2.2.1 : Nat) : Int) 0
def impl_CountOf.s (k : Nat) : FS := ⟨[⟨true, [.lst (.int .i64), .int .i64, .lst tBlock]⟩], [], false, [⟨false, [.int .i64]⟩], [], [], fun x => impl_CountOf.f k x.1.1⟩
def impl_CountOf.E (k : Nat) : Ents := []
def impl_CountOf.L0 (l : Int → (List tBlockD) → Int → Int → Option impl_CountOf.R) : LS impl_CountOf.R := ⟨[], [(3, ⟨false, [.int .i64]⟩), (10, ⟨false, [.lst tBlock]⟩), (11, ⟨false, [.int .i64]⟩), (12, ⟨false, [.int .i64]⟩)], [], fun x => l x.1.1.1 x.1.2.1.1 x.1.2.2.1.1 x.1.2.2.2.1.1⟩
def impl_CountOf.L (l0 : Int → (List tBlockD) → Int → Int → Option impl_CountOf.R) : List (LS impl_CountOf.R) := [impl_CountOf.L0 l0]
def impl_CountOf.c : Code := Tryz.f111.body.getD .skip
theorem impl_CountOf.eq (k : Nat) (x) : (impl_CountOf.s k).pf x = execF tab (impl_CountOf.E k) Tryz.f111 impl_CountOf.c (impl_CountOf.s k) (impl_CountOf.L (impl_CountOf.l0 k)) x := by kernel_rfl
theorem impl_CountOf.r0 (l0 : Int → (List tBlockD) → Int → Int → Option impl_CountOf.R) (k : Nat) (x) : impl_CountOf.l0_ k l0 x.1.1.1 x.1.2.1.1 x.1.2.2.1.1 x.1.2.2.2.1.1 = roundOf tab (impl_CountOf.E k) (impl_CountOf.L l0) impl_CountOf.c (fin tab Tryz.f111 (impl_CountOf.s k)) 0 (impl_CountOf.L0 l0) x := by kernel_rfl
theorem impl_CountOf.sound : ∀ k, Sound Tryz.prog 111 (impl_CountOf.s k) := sound_of mixed tab_ok (f := 111) (fn := Tryz.f111) (c := impl_CountOf.c) (by kernel_rfl) (by kernel_rfl) (by kernel_rfl) ⟨[⟨true, [.lst (.int .i64), .int .i64, .lst tBlock]⟩], [], false, [⟨false, [.int .i64]⟩], [], []⟩ (by kernel_rfl) (by kernel_rfl) (fun k => (impl_CountOf.s k).pf) impl_CountOf.E (fun k => EntsOK.nil) (fun k => impl_CountOf.L (impl_CountOf.l0 k)) (fun k => ⟨rfl, trivial⟩) ⟨fun _ => rfl, trivial⟩ (fun k => ⟨⟨(impl_CountOf.L0 (impl_CountOf.l0 (k + 1))).l, rfl, fun x => impl_CountOf.r0 (impl_CountOf.l0 k) k x⟩, trivial⟩) impl_CountOf.eq
end
end Go.Proofs.YtebgkcjpocfmmaaGreat.V
namespace Go.Proofs.YtebgkcjpocfmmaaGreat.V
open Go
set_option linter.unusedVariables false
noncomputable section
/-! ### impl.isFunc$2$1: function 152 -/
abbrev impl_isFunc_2_1.R := (((Bool × Unit) × Unit) × Unit)
def impl_isFunc_2_1.f (k : Nat) (a0 : Int) (a1 : Int) : Option impl_isFunc_2_1.R := Option.bind (impl_within.f k a0 0 (IntKind.wrap .i64 (a1 - 1))) fun r1 => some (((!r1.1.1.1, ()), ()), ())
def impl_isFunc_2_1.s (k : Nat) : FS := ⟨[⟨false, [.int .i64]⟩, ⟨false, [.ptr 0 0]⟩], [(0, .cbox [.int .i64])], false, [⟨false, [.bool]⟩], [], [], fun x => impl_isFunc_2_1.f k x.1.1.1 x.2.1.1⟩
def impl_isFunc_2_1.E (k : Nat) : Ents := [(⟨41, []⟩, impl_within.s k)]
def impl_isFunc_2_1.L : List (LS impl_isFunc_2_1.R) := []
def impl_isFunc_2_1.c : Code := Tryz.f152.body.getD .skip
theorem impl_isFunc_2_1.eq (k : Nat) (x) : (impl_isFunc_2_1.s k).pf x = execF tab (impl_isFunc_2_1.E k) Tryz.f152 impl_isFunc_2_1.c (impl_isFunc_2_1.s k) impl_isFunc_2_1.L x := by kernel_rfl
theorem impl_isFunc_2_1.sound : ∀ k, Sound Tryz.prog 152 (impl_isFunc_2_1.s k) := sound_of mixed tab_ok (f := 152) (fn := Tryz.f152) (c := impl_isFunc_2_1.c) (by kernel_rfl) (by kernel_rfl) (by kernel_rfl) ⟨[⟨false, [.int .i64]⟩, ⟨false, [.ptr 0 0]⟩], [(0, .cbox [.int .i64])], false, [⟨false, [.bool]⟩], [], []⟩ (by kernel_rfl) (by kernel_rfl) (fun k => (impl_isFunc_2_1.s k).pf) impl_isFunc_2_1.E (fun k => (EntsOK.cons (impl_within.sound k) EntsOK.nil)) (fun k => impl_isFunc_2_1.L) (fun k => trivial) trivial (fun k => trivial) impl_isFunc_2_1.eq
end
end Go.Proofs.YtebgkcjpocfmmaaGreat.V
namespace Go.Proofs.YtebgkcjpocfmmaaGreat.V
open Go
set_option linter.unusedVariables false
noncomputable section
/-! ### slices.IndexFunc[[]int64,int64]: function 183 -/
abbrev slices_IndexFunc_int64_int64_2.R := (((Int × Unit) × Unit) × Unit)
def slices_IndexFunc_int64_int64_2.l0_ (k : Nat) (l0 : (List Int) → Int → Int → Int → Option slices_IndexFunc_int64_int64_2.R) (a0 : List Int) (a1 : Int) (a2 : Int) (a3 : Int) : Option slices_IndexFunc_int64_int64_2.R := bif decide (a2 < a1) then (bif (decide (0 ≤ a2)) && (decide (a2 < ((List.length a0 : Nat) : Int))) then (Option.bind (impl_isFunc_2_1.f k (List.getD a0 (Int.toNat a2) 0) a3) fun r1 => bif r1.1.1.1 then (some (((a2, ()), ()), ())) else (l0 a0 a1 (IntKind.wrap .i64 (a2 + 1)) a3)) else none) else (some (((-1, ()), ()), ()))
def slices_IndexFunc_int64_int64_2.all : Nat → ((List Int) → Int → Int → Int → Option slices_IndexFunc_int64_int64_2.R) × Unit
  | 0 => (fun _ _ _ _ => none, ())
  | k + 1 => (slices_IndexFunc_int64_int64_2.l0_ k (slices_IndexFunc_int64_int64_2.all k).1, ())
def slices_IndexFunc_int64_int64_2.l0 (k : Nat) : (List Int) → Int → Int → Int → Option slices_IndexFunc_int64_int64_2.R := (slices_IndexFunc_int64_int64_2.all k).1
def slices_IndexFunc_int64_int64_2.f (k : Nat) (a0 : List Int) (a1 : Int) : Option slices_IndexFunc_int64_int64_2.R := slices_IndexFunc_int64_int64_2.l0 k a0 ((List.length a0 : Nat) : Int) 0 a1
def slices_IndexFunc_int64_int64_2.s (k : Nat) : FS := ⟨[⟨false, [.lst (.int .i64)]⟩, ⟨false, [.fn 152 [(0, 0)]]⟩], [(0, .cbox [.int .i64])], false, [⟨false, [.int .i64]⟩], [], [], fun x => slices_IndexFunc_int64_int64_2.f k x.1.1.1 x.2.1.1⟩
def slices_IndexFunc_int64_int64_2.E (k : Nat) : Ents := [(⟨152, []⟩, impl_isFunc_2_1.s k)]
def slices_IndexFunc_int64_int64_2.L0 (l : (List Int) → Int → Int → Int → Option slices_IndexFunc_int64_int64_2.R) : LS slices_IndexFunc_int64_int64_2.R := ⟨[], [(0, ⟨false, [.lst (.int .i64)]⟩), (1, ⟨false, [.fn 152 [(0, 0)]]⟩), (7, ⟨false, [.int .i64]⟩), (8, ⟨false, [.int .i64]⟩)], [(0, .cbox [.int .i64])], fun x => l x.1.1.1 x.1.2.2.1.1 x.1.2.2.2.1.1 x.2.1.1⟩
def slices_IndexFunc_int64_int64_2.L (l0 : (List Int) → Int → Int → Int → Option slices_IndexFunc_int64_int64_2.R) : List (LS slices_IndexFunc_int64_int64_2.R) := [slices_IndexFunc_int64_int64_2.L0 l0]
def slices_IndexFunc_int64_int64_2.c : Code := Tryz.f183.body.getD .skip
theorem slices_IndexFunc_int64_int64_2.eq (k : Nat) (x) : (slices_IndexFunc_int64_int64_2.s k).pf x = execF tab (slices_IndexFunc_int64_int64_2.E k) Tryz.f183 slices_IndexFunc_int64_int64_2.c (slices_IndexFunc_int64_int64_2.s k) (slices_IndexFunc_int64_int64_2.L (slices_IndexFunc_int64_int64_2.l0 k)) x := by kernel_rfl
theorem slices_IndexFunc_int64_int64_2.r0 (l0 : (List Int) → Int → Int → Int → Option slices_IndexFunc_int64_int64_2.R) (k : Nat) (x) : slices_IndexFunc_int64_int64_2.l0_ k l0 x.1.1.1 x.1.2.2.1.1 x.1.2.2.2.1.1 x.2.1.1 = roundOf tab (slices_IndexFunc_int64_int64_2.E k) (slices_IndexFunc_int64_int64_2.L l0) slices_IndexFunc_int64_int64_2.c (fin tab Tryz.f183 (slices_IndexFunc_int64_int64_2.s k)) 0 (slices_IndexFunc_int64_int64_2.L0 l0) x := by kernel_rfl
theorem slices_IndexFunc_int64_int64_2.sound : ∀ k, Sound Tryz.prog 183 (slices_IndexFunc_int64_int64_2.s k) := sound_of mixed tab_ok (f := 183) (fn := Tryz.f183) (c := slices_IndexFunc_int64_int64_2.c) (by kernel_rfl) (by kernel_rfl) (by kernel_rfl) ⟨[⟨false, [.lst (.int .i64)]⟩, ⟨false, [.fn 152 [(0, 0)]]⟩], [(0, .cbox [.int .i64])], false, [⟨false, [.int .i64]⟩], [], []⟩ (by kernel_rfl) (by kernel_rfl) (fun k => (slices_IndexFunc_int64_int64_2.s k).pf) slices_IndexFunc_int64_int64_2.E (fun k => (EntsOK.cons (impl_isFunc_2_1.sound k) EntsOK.nil)) (fun k => slices_IndexFunc_int64_int64_2.L (slices_IndexFunc_int64_int64_2.l0 k)) (fun k => ⟨rfl, trivial⟩) ⟨fun _ => rfl, trivial⟩ (fun k => ⟨⟨(slices_IndexFunc_int64_int64_2.L0 (slices_IndexFunc_int64_int64_2.l0 (k + 1))).l, rfl, fun x => slices_IndexFunc_int64_int64_2.r0 (slices_IndexFunc_int64_int64_2.l0 k) k x⟩, trivial⟩) slices_IndexFunc_int64_int64_2.eq
end
end Go.Proofs.YtebgkcjpocfmmaaGreat.V
namespace Go.Proofs.YtebgkcjpocfmmaaGreat.V
open Go
set_option linter.unusedVariables false
noncomputable section
/-! ### slices.ContainsFunc[[]int64,int64]: function 148 -/
abbrev slices_ContainsFunc_int64_int64_2.R := (((Bool × Unit) × Unit) × Unit)
def slices_ContainsFunc_int64_int64_2.f (k : Nat) (a0 : List Int) (a1 : Int) : Option slices_ContainsFunc_int64_int64_2.R := Option.bind (slices_IndexFunc_int64_int64_2.f k a0 a1) fun r1 => some (((decide (0 ≤ r1.1.1.1), ()), ()), ())
def slices_ContainsFunc_int64_int64_2.s (k : Nat) : FS := ⟨[⟨false, [.lst (.int .i64)]⟩, ⟨false, [.fn 152 [(0, 0)]]⟩], [(0, .cbox [.int .i64])], false, [⟨false, [.bool]⟩], [], [], fun x => slices_ContainsFunc_int64_int64_2.f k x.1.1.1 x.2.1.1⟩
def slices_ContainsFunc_int64_int64_2.E (k : Nat) : Ents := [(⟨183, [152]⟩, slices_IndexFunc_int64_int64_2.s k)]
def slices_ContainsFunc_int64_int64_2.L : List (LS slices_ContainsFunc_int64_int64_2.R) := []
def slices_ContainsFunc_int64_int64_2.c : Code := Tryz.f148.body.getD .skip
theorem slices_ContainsFunc_int64_int64_2.eq (k : Nat) (x) : (slices_ContainsFunc_int64_int64_2.s k).pf x = execF tab (slices_ContainsFunc_int64_int64_2.E k) Tryz.f148 slices_ContainsFunc_int64_int64_2.c (slices_ContainsFunc_int64_int64_2.s k) slices_ContainsFunc_int64_int64_2.L x := by kernel_rfl
theorem slices_ContainsFunc_int64_int64_2.sound : ∀ k, Sound Tryz.prog 148 (slices_ContainsFunc_int64_int64_2.s k) := sound_of mixed tab_ok (f := 148) (fn := Tryz.f148) (c := slices_ContainsFunc_int64_int64_2.c) (by kernel_rfl) (by kernel_rfl) (by kernel_rfl) ⟨[⟨false, [.lst (.int .i64)]⟩, ⟨false, [.fn 152 [(0, 0)]]⟩], [(0, .cbox [.int .i64])], false, [⟨false, [.bool]⟩], [], []⟩ (by kernel_rfl) (by kernel_rfl) (fun k => (slices_ContainsFunc_int64_int64_2.s k).pf) slices_ContainsFunc_int64_int64_2.E (fun k => (EntsOK.cons (slices_IndexFunc_int64_int64_2.sound k) EntsOK.nil)) (fun k => slices_ContainsFunc_int64_int64_2.L) (fun k => trivial) trivial (fun k => trivial) slices_ContainsFunc_int64_int64_2.eq
end
end Go.Proofs.YtebgkcjpocfmmaaGreat.V
namespace Go.Proofs.YtebgkcjpocfmmaaGreat.V
open Go
set_option linter.unusedVariables false
noncomputable section
/-! ### impl.isFunc$2: function 151 -/
abbrev impl_isFunc_2.R := (((Bool × Unit) × Unit) × Unit)
def impl_isFunc_2.f (k : Nat) (a0 : tPhiD) (a1 : Int) : Option impl_isFunc_2.R := Option.bind (impl_WidthOk.f k a0.1) fun r1 => bif !r1.1.1.1 then (some (((true, ()), ()), ())) else (bif decide (10 < ((List.length a0.2.1 : Nat) : Int)) then (some (((true, ()), ()), ())) else (Option.bind (slices_ContainsFunc_int64_int64_2.f k a0.2.1 a1) fun r2 => some (((r2.1.1.1, ()), ()), ())))
def impl_isFunc_2.s (k : Nat) : FS := ⟨[⟨true, [.int .i64, .lst (.int .i64)]⟩, ⟨false, [.ptr 0 0]⟩], [(0, .cbox [.int .i64])], false, [⟨false, [.bool]⟩], [], [], fun x => impl_isFunc_2.f k x.1.1 x.2.1.1⟩
def impl_isFunc_2.E (k : Nat) : Ents := [(⟨134, []⟩, impl_WidthOk.s k), (⟨148, [152]⟩, slices_ContainsFunc_int64_int64_2.s k)]
def impl_isFunc_2.L : List (LS impl_isFunc_2.R) := []
def impl_isFunc_2.c : Code := Tryz.f151.body.getD .skip
theorem impl_isFunc_2.eq (k : Nat) (x) : (impl_isFunc_2.s k).pf x = execF tab (impl_isFunc_2.E k) Tryz.f151 impl_isFunc_2.c (impl_isFunc_2.s k) impl_isFunc_2.L x := by kernel_rfl
theorem impl_isFunc_2.sound : ∀ k, Sound Tryz.prog 151 (impl_isFunc_2.s k) := sound_of mixed tab_ok (f := 151) (fn := Tryz.f151) (c := impl_isFunc_2.c) (by kernel_rfl) (by kernel_rfl) (by kernel_rfl) ⟨[⟨true, [.int .i64, .lst (.int .i64)]⟩, ⟨false, [.ptr 0 0]⟩], [(0, .cbox [.int .i64])], false, [⟨false, [.bool]⟩], [], []⟩ (by kernel_rfl) (by kernel_rfl) (fun k => (impl_isFunc_2.s k).pf) impl_isFunc_2.E (fun k => (EntsOK.cons (impl_WidthOk.sound k) (EntsOK.cons (slices_ContainsFunc_int64_int64_2.sound k) EntsOK.nil))) (fun k => impl_isFunc_2.L) (fun k => trivial) trivial (fun k => trivial) impl_isFunc_2.eq
end
end Go.Proofs.YtebgkcjpocfmmaaGreat.V
namespace Go.Proofs.YtebgkcjpocfmmaaGreat.V
open Go
set_option linter.unusedVariables false
noncomputable section
/-! ### slices.IndexFunc[[]impl.Phi,impl.Phi]: function 184 -/
abbrev slices_IndexFunc_impl_Phi_impl_Phi.R := (((Int × Unit) × Unit) × Unit)
def slices_IndexFunc_impl_Phi_impl_Phi.l0_ (k : Nat) (l0 : (List tPhiD) → Int → Int → Int → Option slices_IndexFunc_impl_Phi_impl_Phi.R) (a0 : List tPhiD) (a1 : Int) (a2 : Int) (a3 : Int) : Option slices_IndexFunc_impl_Phi_impl_Phi.R := bif decide (a2 < a1) then (bif (decide (0 ≤ a2)) && (decide (a2 < ((List.length a0 : Nat) : Int))) then (Option.bind (impl_isFunc_2.f k (List.getD a0 (Int.toNat a2) tPhiZ) a3) fun r1 => bif r1.1.1.1 then (some (((a2, ()), ()), ())) else (l0 a0 a1 (IntKind.wrap .i64 (a2 + 1)) a3)) else none) else (some (((-1, ()), ()), ()))
def slices_IndexFunc_impl_Phi_impl_Phi.all : Nat → ((List tPhiD) → Int → Int → Int → Option slices_IndexFunc_impl_Phi_impl_Phi.R) × Unit
  | 0 => (fun _ _ _ _ => none, ())
  | k + 1 => (slices_IndexFunc_impl_Phi_impl_Phi.l0_ k (slices_IndexFunc_impl_Phi_impl_Phi.all k).1, ())
def slices_IndexFunc_impl_Phi_impl_Phi.l0 (k : Nat) : (List tPhiD) → Int → Int → Int → Option slices_IndexFunc_impl_Phi_impl_Phi.R := (slices_IndexFunc_impl_Phi_impl_Phi.all k).1
def slices_IndexFunc_impl_Phi_impl_Phi.f (k : Nat) (a0 : List tPhiD) (a1 : Int) : Option slices_IndexFunc_impl_Phi_impl_Phi.R := slices_IndexFunc_impl_Phi_impl_Phi.l0 k a0 ((List.length a0 : Nat) : Int) 0 a1
def slices_IndexFunc_impl_Phi_impl_Phi.s (k : Nat) : FS := ⟨[⟨false, [.lst tPhi]⟩, ⟨false, [.fn 151 [(0, 0)]]⟩], [(0, .cbox [.int .i64])], false, [⟨false, [.int .i64]⟩], [], [], fun x => slices_IndexFunc_impl_Phi_impl_Phi.f k x.1.1.1 x.2.1.1⟩
def slices_IndexFunc_impl_Phi_impl_Phi.E (k : Nat) : Ents := [(⟨151, []⟩, impl_isFunc_2.s k)]
def slices_IndexFunc_impl_Phi_impl_Phi.L0 (l : (List tPhiD) → Int → Int → Int → Option slices_IndexFunc_impl_Phi_impl_Phi.R) : LS slices_IndexFunc_impl_Phi_impl_Phi.R := ⟨[], [(0, ⟨false, [.lst tPhi]⟩), (1, ⟨false, [.fn 151 [(0, 0)]]⟩), (7, ⟨false, [.int .i64]⟩), (8, ⟨false, [.int .i64]⟩)], [(0, .cbox [.int .i64])], fun x => l x.1.1.1 x.1.2.2.1.1 x.1.2.2.2.1.1 x.2.1.1⟩
def slices_IndexFunc_impl_Phi_impl_Phi.L (l0 : (List tPhiD) → Int → Int → Int → Option slices_IndexFunc_impl_Phi_impl_Phi.R) : List (LS slices_IndexFunc_impl_Phi_impl_Phi.R) := [slices_IndexFunc_impl_Phi_impl_Phi.L0 l0]
def slices_IndexFunc_impl_Phi_impl_Phi.c : Code := Tryz.f184.body.getD .skip
theorem slices_IndexFunc_impl_Phi_impl_Phi.eq (k : Nat) (x) : (slices_IndexFunc_impl_Phi_impl_Phi.s k).pf x = execF tab (slices_IndexFunc_impl_Phi_impl_Phi.E k) Tryz.f184 slices_IndexFunc_impl_Phi_impl_Phi.c (slices_IndexFunc_impl_Phi_impl_Phi.s k) (slices_IndexFunc_impl_Phi_impl_Phi.L (slices_IndexFunc_impl_Phi_impl_Phi.l0 k)) x := by kernel_rfl
theorem slices_IndexFunc_impl_Phi_impl_Phi.r0 (l0 : (List tPhiD) → Int → Int → Int → Option slices_IndexFunc_impl_Phi_impl_Phi.R) (k : Nat) (x) : slices_IndexFunc_impl_Phi_impl_Phi.l0_ k l0 x.1.1.1 x.1.2.2.1.1 x.1.2.2.2.1.1 x.2.1.1 = roundOf tab (slices_IndexFunc_impl_Phi_impl_Phi.E k) (slices_IndexFunc_impl_Phi_impl_Phi.L l0) slices_IndexFunc_impl_Phi_impl_Phi.c (fin tab Tryz.f184 (slices_IndexFunc_impl_Phi_impl_Phi.s k)) 0 (slices_IndexFunc_impl_Phi_impl_Phi.L0 l0) x := by kernel_rfl
theorem slices_IndexFunc_impl_Phi_impl_Phi.sound : ∀ k, Sound Tryz.prog 184 (slices_IndexFunc_impl_Phi_impl_Phi.s k) := sound_of mixed tab_ok (f := 184) (fn := Tryz.f184) (c := slices_IndexFunc_impl_Phi_impl_Phi.c) (by kernel_rfl) (by kernel_rfl) (by kernel_rfl) ⟨[⟨false, [.lst tPhi]⟩, ⟨false, [.fn 151 [(0, 0)]]⟩], [(0, .cbox [.int .i64])], false, [⟨false, [.int .i64]⟩], [], []⟩ (by kernel_rfl) (by kernel_rfl) (fun k => (slices_IndexFunc_impl_Phi_impl_Phi.s k).pf) slices_IndexFunc_impl_Phi_impl_Phi.E (fun k => (EntsOK.cons (impl_isFunc_2.sound k) EntsOK.nil)) (fun k => slices_IndexFunc_impl_Phi_impl_Phi.L (slices_IndexFunc_impl_Phi_impl_Phi.l0 k)) (fun k => ⟨rfl, trivial⟩) ⟨fun _ => rfl, trivial⟩ (fun k => ⟨⟨(slices_IndexFunc_impl_Phi_impl_Phi.L0 (slices_IndexFunc_impl_Phi_impl_Phi.l0 (k + 1))).l, rfl, fun x => slices_IndexFunc_impl_Phi_impl_Phi.r0 (slices_IndexFunc_impl_Phi_impl_Phi.l0 k) k x⟩, trivial⟩) slices_IndexFunc_impl_Phi_impl_Phi.eq
end
end Go.Proofs.YtebgkcjpocfmmaaGreat.V
namespace Go.Proofs.YtebgkcjpocfmmaaGreat.V
open Go
set_option linter.unusedVariables false
noncomputable section
/-! ### slices.ContainsFunc[[]impl.Phi,impl.Phi]: function 150 -/
abbrev slices_ContainsFunc_impl_Phi_impl_Phi.R := (((Bool × Unit) × Unit) × Unit)
def slices_ContainsFunc_impl_Phi_impl_Phi.f (k : Nat) (a0 : List tPhiD) (a1 : Int) : Option slices_ContainsFunc_impl_Phi_impl_Phi.R := Option.bind (slices_IndexFunc_impl_Phi_impl_Phi.f k a0 a1) fun r1 => some (((decide (0 ≤ r1.1.1.1), ()), ()), ())
def slices_ContainsFunc_impl_Phi_impl_Phi.s (k : Nat) : FS := ⟨[⟨false, [.lst tPhi]⟩, ⟨false, [.fn 151 [(0, 0)]]⟩], [(0, .cbox [.int .i64])], false, [⟨false, [.bool]⟩], [], [], fun x => slices_ContainsFunc_impl_Phi_impl_Phi.f k x.1.1.1 x.2.1.1⟩
def slices_ContainsFunc_impl_Phi_impl_Phi.E (k : Nat) : Ents := [(⟨184, [151]⟩, slices_IndexFunc_impl_Phi_impl_Phi.s k)]
def slices_ContainsFunc_impl_Phi_impl_Phi.L : List (LS slices_ContainsFunc_impl_Phi_impl_Phi.R) := []
def slices_ContainsFunc_impl_Phi_impl_Phi.c : Code := Tryz.f150.body.getD .skip
theorem slices_ContainsFunc_impl_Phi_impl_Phi.eq (k : Nat) (x) : (slices_ContainsFunc_impl_Phi_impl_Phi.s k).pf x = execF tab (slices_ContainsFunc_impl_Phi_impl_Phi.E k) Tryz.f150 slices_ContainsFunc_impl_Phi_impl_Phi.c (slices_ContainsFunc_impl_Phi_impl_Phi.s k) slices_ContainsFunc_impl_Phi_impl_Phi.L x := by kernel_rfl
theorem slices_ContainsFunc_impl_Phi_impl_Phi.sound : ∀ k, Sound Tryz.prog 150 (slices_ContainsFunc_impl_Phi_impl_Phi.s k) := sound_of mixed tab_ok (f := 150) (fn := Tryz.f150) (c := slices_ContainsFunc_impl_Phi_impl_Phi.c) (by kernel_rfl) (by kernel_rfl) (by kernel_rfl) ⟨[⟨false, [.lst tPhi]⟩, ⟨false, [.fn 151 [(0, 0)]]⟩], [(0, .cbox [.int .i64])], false, [⟨false, [.bool]⟩], [], []⟩ (by kernel_rfl) (by kernel_rfl) (fun k => (slices_ContainsFunc_impl_Phi_impl_Phi.s k).pf) slices_ContainsFunc_impl_Phi_impl_Phi.E (fun k => (EntsOK.cons (slices_IndexFunc_impl_Phi_impl_Phi.sound k) EntsOK.nil)) (fun k => slices_ContainsFunc_impl_Phi_impl_Phi.L) (fun k => trivial) trivial (fun k => trivial) slices_ContainsFunc_impl_Phi_impl_Phi.eq
end
end Go.Proofs.YtebgkcjpocfmmaaGreat.V
namespace Go.Proofs.YtebgkcjpocfmmaaGreat.V
open Go
set_option linter.unusedVariables false
noncomputable section
/-! ### impl.isBinary: function 71 -/
abbrev impl_isBinary.R := (((Bool × Unit) × Unit) × Unit)
def impl_isBinary.f (k : Nat) (a0 : Int) : Option impl_isBinary.R := Option.bind (impl_within.f k a0 1 17) fun r1 => some (((r1.1.1.1, ()), ()), ())
def impl_isBinary.s (k : Nat) : FS := ⟨[⟨false, [.int .i64]⟩], [], false, [⟨false, [.bool]⟩], [], [], fun x => impl_isBinary.f k x.1.1.1⟩
def impl_isBinary.E (k : Nat) : Ents := [(⟨41, []⟩, impl_within.s k)]
def impl_isBinary.L : List (LS impl_isBinary.R) := []
def impl_isBinary.c : Code := Tryz.f71.body.getD .skip
theorem impl_isBinary.eq (k : Nat) (x) : (impl_isBinary.s k).pf x = execF tab (impl_isBinary.E k) Tryz.f71 impl_isBinary.c (impl_isBinary.s k) impl_isBinary.L x := by kernel_rfl
theorem impl_isBinary.sound : ∀ k, Sound Tryz.prog 71 (impl_isBinary.s k) := sound_of mixed tab_ok (f := 71) (fn := Tryz.f71) (c := impl_isBinary.c) (by kernel_rfl) (by kernel_rfl) (by kernel_rfl) ⟨[⟨false, [.int .i64]⟩], [], false, [⟨false, [.bool]⟩], [], []⟩ (by kernel_rfl) (by kernel_rfl) (fun k => (impl_isBinary.s k).pf) impl_isBinary.E (fun k => (EntsOK.cons (impl_within.sound k) EntsOK.nil)) (fun k => impl_isBinary.L) (fun k => trivial) trivial (fun k => trivial) impl_isBinary.eq
end
end Go.Proofs.YtebgkcjpocfmmaaGreat.V
namespace Go.Proofs.YtebgkcjpocfmmaaGreat.V
open Go
set_option linter.unusedVariables false
noncomputable section
/-! ### impl.isCast: function 73 -/
abbrev impl_isCast.R := (((Bool × Unit) × Unit) × Unit)
def impl_isCast.f (k : Nat) (a0 : Int) : Option impl_isCast.R := Option.bind (impl_within.f k a0 18 20) fun r1 => some (((r1.1.1.1, ()), ()), ())
def impl_isCast.s (k : Nat) : FS := ⟨[⟨false, [.int .i64]⟩], [], false, [⟨false, [.bool]⟩], [], [], fun x => impl_isCast.f k x.1.1.1⟩
def impl_isCast.E (k : Nat) : Ents := [(⟨41, []⟩, impl_within.s k)]
def impl_isCast.L : List (LS impl_isCast.R) := []
def impl_isCast.c : Code := Tryz.f73.body.getD .skip
theorem impl_isCast.eq (k : Nat) (x) : (impl_isCast.s k).pf x = execF tab (impl_isCast.E k) Tryz.f73 impl_isCast.c (impl_isCast.s k) impl_isCast.L x := by kernel_rfl
theorem impl_isCast.sound : ∀ k, Sound Tryz.prog 73 (impl_isCast.s k) := sound_of mixed tab_ok (f := 73) (fn := Tryz.f73) (c := impl_isCast.c) (by kernel_rfl) (by kernel_rfl) (by kernel_rfl) ⟨[⟨false, [.int .i64]⟩], [], false, [⟨false, [.bool]⟩], [], []⟩ (by kernel_rfl) (by kernel_rfl) (fun k => (impl_isCast.s k).pf) impl_isCast.E (fun k => (EntsOK.cons (impl_within.sound k) EntsOK.nil)) (fun k => impl_isCast.L) (fun k => trivial) trivial (fun k => trivial) impl_isCast.eq
end
end Go.Proofs.YtebgkcjpocfmmaaGreat.V
namespace Go.Proofs.YtebgkcjpocfmmaaGreat.V
open Go
set_option linter.unusedVariables false
noncomputable section
/-! ### impl.OperandsOf: function 164 -/
abbrev impl_OperandsOf.R := (((Unit × Unit) × Unit) × ((List Int) × Unit))
def impl_OperandsOf.f (k : Nat) (a0 : tInstD) : Option impl_OperandsOf.R := Option.bind (impl_isBinary.f k a0.1) fun r1 => bif r1.1.1.1 then (some ((((), ()), ()), ([a0.2.2.1, a0.2.2.2.1], ()))) else (bif decide (a0.1 = 24) then (some ((((), ()), ()), ([a0.2.2.1, a0.2.2.2.1], ()))) else (Option.bind (impl_isCast.f k a0.1) fun r2 => bif r2.1.1.1 then (some ((((), ()), ()), ([a0.2.2.1], ()))) else (bif decide (a0.1 = 23) then (some ((((), ()), ()), ([a0.2.2.1], ()))) else (bif decide (a0.1 = 25) then (some ((((), ()), ()), ([a0.2.2.1], ()))) else (bif decide (a0.1 = 27) then (some ((((), ()), ()), ([a0.2.2.1], ()))) else (bif decide (a0.1 = 22) then (some ((((), ()), ()), ([a0.2.2.1, a0.2.2.2.1, a0.2.2.2.2.1], ()))) else (bif decide (a0.1 = 26) then (Option.bind (slices_Clone_int64_int64.f k a0.2.2.2.2.2.2.1) fun r3 => some ((((), ()), ()), (r3.2.1, ()))) else (some ((((), ()), ()), (([] : List Int), ()))))))))))
def impl_OperandsOf.s (k : Nat) : FS := ⟨[⟨true, [.int .i64, .int .i64, .int .i64, .int .i64, .int .i64, .int .i64, .lst (.int .i64)]⟩], [], false, [⟨false, [.own 100]⟩], [(100, .row true (.int .i64))], [], fun x => impl_OperandsOf.f k x.1.1⟩
def impl_OperandsOf.E (k : Nat) : Ents := [(⟨71, []⟩, impl_isBinary.s k), (⟨73, []⟩, impl_isCast.s k), (⟨166, []⟩, slices_Clone_int64_int64.s k)]
def impl_OperandsOf.L : List (LS impl_OperandsOf.R) := []
def impl_OperandsOf.c : Code := Tryz.f164.body.getD .skip
theorem impl_OperandsOf.eq (k : Nat) (x) : (impl_OperandsOf.s k).pf x = execF tab (impl_OperandsOf.E k) Tryz.f164 impl_OperandsOf.c (impl_OperandsOf.s k) impl_OperandsOf.L x := by kernel_rfl
theorem impl_OperandsOf.sound : ∀ k, Sound Tryz.prog 164 (impl_OperandsOf.s k) := sound_of mixed tab_ok (f := 164) (fn := Tryz.f164) (c := impl_OperandsOf.c) (by kernel_rfl) (by kernel_rfl) (by kernel_rfl) ⟨[⟨true, [.int .i64, .int .i64, .int .i64, .int .i64, .int .i64, .int .i64, .lst (.int .i64)]⟩], [], false, [⟨false, [.own 100]⟩], [(100, .row true (.int .i64))], []⟩ (by kernel_rfl) (by kernel_rfl) (fun k => (impl_OperandsOf.s k).pf) impl_OperandsOf.E (fun k => (EntsOK.cons (impl_isBinary.sound k) (EntsOK.cons (impl_isCast.sound k) (EntsOK.cons (slices_Clone_int64_int64.sound k) EntsOK.nil)))) (fun k => impl_OperandsOf.L) (fun k => trivial) trivial (fun k => trivial) impl_OperandsOf.eq
end
end Go.Proofs.YtebgkcjpocfmmaaGreat.V
namespace Go.Proofs.YtebgkcjpocfmmaaGreat.V
open Go
set_option linter.unusedVariables false
noncomputable section
/-! ### impl.isInst$1: function 185 -/
abbrev impl_isInst_1.R := (((Bool × Unit) × Unit) × Unit)
def impl_isInst_1.f (k : Nat) (a0 : Int) (a1 : Int) : Option impl_isInst_1.R := Option.bind (impl_within.f k a0 0 (IntKind.wrap .i64 (a1 - 1))) fun r1 => some (((!r1.1.1.1, ()), ()), ())
def impl_isInst_1.s (k : Nat) : FS := ⟨[⟨false, [.int .i64]⟩, ⟨false, [.ptr 0 0]⟩], [(0, .cbox [.int .i64])], false, [⟨false, [.bool]⟩], [], [], fun x => impl_isInst_1.f k x.1.1.1 x.2.1.1⟩
def impl_isInst_1.E (k : Nat) : Ents := [(⟨41, []⟩, impl_within.s k)]
def impl_isInst_1.L : List (LS impl_isInst_1.R) := []
def impl_isInst_1.c : Code := Tryz.f185.body.getD .skip
theorem impl_isInst_1.eq (k : Nat) (x) : (impl_isInst_1.s k).pf x = execF tab (impl_isInst_1.E k) Tryz.f185 impl_isInst_1.c (impl_isInst_1.s k) impl_isInst_1.L x := by kernel_rfl
theorem impl_isInst_1.sound : ∀ k, Sound Tryz.prog 185 (impl_isInst_1.s k) := sound_of mixed tab_ok (f := 185) (fn := Tryz.f185) (c := impl_isInst_1.c) (by kernel_rfl) (by kernel_rfl) (by kernel_rfl) ⟨[⟨false, [.int .i64]⟩, ⟨false, [.ptr 0 0]⟩], [(0, .cbox [.int .i64])], false, [⟨false, [.bool]⟩], [], []⟩ (by kernel_rfl) (by kernel_rfl) (fun k => (impl_isInst_1.s k).pf) impl_isInst_1.E (fun k => (EntsOK.cons (impl_within.sound k) EntsOK.nil)) (fun k => impl_isInst_1.L) (fun k => trivial) trivial (fun k => trivial) impl_isInst_1.eq
end
end Go.Proofs.YtebgkcjpocfmmaaGreat.V
namespace Go.Proofs.YtebgkcjpocfmmaaGreat.V
open Go
set_option linter.unusedVariables false
noncomputable section
/-! ### slices.IndexFunc[[]int64,int64]: function 183 -/
abbrev slices_IndexFunc_int64_int64_3.R := (((Int × Unit) × Unit) × Unit)
def slices_IndexFunc_int64_int64_3.l0_ (k : Nat) (l0 : (List Int) → Int → Int → Int → Option slices_IndexFunc_int64_int64_3.R) (a0 : List Int) (a1 : Int) (a2 : Int) (a3 : Int) : Option slices_IndexFunc_int64_int64_3.R := bif decide (a2 < a1) then (bif (decide (0 ≤ a2)) && (decide (a2 < ((List.length a0 : Nat) : Int))) then (Option.bind (impl_isInst_1.f k (List.getD a0 (Int.toNat a2) 0) a3) fun r1 => bif r1.1.1.1 then (some (((a2, ()), ()), ())) else (l0 a0 a1 (IntKind.wrap .i64 (a2 + 1)) a3)) else none) else (some (((-1, ()), ()), ()))
def slices_IndexFunc_int64_int64_3.all : Nat → ((List Int) → Int → Int → Int → Option slices_IndexFunc_int64_int64_3.R) × Unit
  | 0 => (fun _ _ _ _ => none, ())
  | k + 1 => (slices_IndexFunc_int64_int64_3.l0_ k (slices_IndexFunc_int64_int64_3.all k).1, ())
def slices_IndexFunc_int64_int64_3.l0 (k : Nat) : (List Int) → Int → Int → Int → Option slices_IndexFunc_int64_int64_3.R := (slices_IndexFunc_int64_int64_3.all k).1
def slices_IndexFunc_int64_int64_3.f (k : Nat) (a0 : List Int) (a1 : Int) : Option slices_IndexFunc_int64_int64_3.R := slices_IndexFunc_int64_int64_3.l0 k a0 ((List.length a0 : Nat) : Int) 0 a1
def slices_IndexFunc_int64_int64_3.s (k : Nat) : FS := ⟨[⟨false, [.lst (.int .i64)]⟩, ⟨false, [.fn 185 [(0, 0)]]⟩], [(0, .cbox [.int .i64])], false, [⟨false, [.int .i64]⟩], [], [], fun x => slices_IndexFunc_int64_int64_3.f k x.1.1.1 x.2.1.1⟩
def slices_IndexFunc_int64_int64_3.E (k : Nat) : Ents := [(⟨185, []⟩, impl_isInst_1.s k)]
def slices_IndexFunc_int64_int64_3.L0 (l : (List Int) → Int → Int → Int → Option slices_IndexFunc_int64_int64_3.R) : LS slices_IndexFunc_int64_int64_3.R := ⟨[], [(0, ⟨false, [.lst (.int .i64)]⟩), (1, ⟨false, [.fn 185 [(0, 0)]]⟩), (7, ⟨false, [.int .i64]⟩), (8, ⟨false, [.int .i64]⟩)], [(0, .cbox [.int .i64])], fun x => l x.1.1.1 x.1.2.2.1.1 x.1.2.2.2.1.1 x.2.1.1⟩
def slices_IndexFunc_int64_int64_3.L (l0 : (List Int) → Int → Int → Int → Option slices_IndexFunc_int64_int64_3.R) : List (LS slices_IndexFunc_int64_int64_3.R) := [slices_IndexFunc_int64_int64_3.L0 l0]
def slices_IndexFunc_int64_int64_3.c : Code := Tryz.f183.body.getD .skip
theorem slices_IndexFunc_int64_int64_3.eq (k : Nat) (x) : (slices_IndexFunc_int64_int64_3.s k).pf x = execF tab (slices_IndexFunc_int64_int64_3.E k) Tryz.f183 slices_IndexFunc_int64_int64_3.c (slices_IndexFunc_int64_int64_3.s k) (slices_IndexFunc_int64_int64_3.L (slices_IndexFunc_int64_int64_3.l0 k)) x := by kernel_rfl
theorem slices_IndexFunc_int64_int64_3.r0 (l0 : (List Int) → Int → Int → Int → Option slices_IndexFunc_int64_int64_3.R) (k : Nat) (x) : slices_IndexFunc_int64_int64_3.l0_ k l0 x.1.1.1 x.1.2.2.1.1 x.1.2.2.2.1.1 x.2.1.1 = roundOf tab (slices_IndexFunc_int64_int64_3.E k) (slices_IndexFunc_int64_int64_3.L l0) slices_IndexFunc_int64_int64_3.c (fin tab Tryz.f183 (slices_IndexFunc_int64_int64_3.s k)) 0 (slices_IndexFunc_int64_int64_3.L0 l0) x := by kernel_rfl
theorem slices_IndexFunc_int64_int64_3.sound : ∀ k, Sound Tryz.prog 183 (slices_IndexFunc_int64_int64_3.s k) := sound_of mixed tab_ok (f := 183) (fn := Tryz.f183) (c := slices_IndexFunc_int64_int64_3.c) (by kernel_rfl) (by kernel_rfl) (by kernel_rfl) ⟨[⟨false, [.lst (.int .i64)]⟩, ⟨false, [.fn 185 [(0, 0)]]⟩], [(0, .cbox [.int .i64])], false, [⟨false, [.int .i64]⟩], [], []⟩ (by kernel_rfl) (by kernel_rfl) (fun k => (slices_IndexFunc_int64_int64_3.s k).pf) slices_IndexFunc_int64_int64_3.E (fun k => (EntsOK.cons (impl_isInst_1.sound k) EntsOK.nil)) (fun k => slices_IndexFunc_int64_int64_3.L (slices_IndexFunc_int64_int64_3.l0 k)) (fun k => ⟨rfl, trivial⟩) ⟨fun _ => rfl, trivial⟩ (fun k => ⟨⟨(slices_IndexFunc_int64_int64_3.L0 (slices_IndexFunc_int64_int64_3.l0 (k + 1))).l, rfl, fun x => slices_IndexFunc_int64_int64_3.r0 (slices_IndexFunc_int64_int64_3.l0 k) k x⟩, trivial⟩) slices_IndexFunc_int64_int64_3.eq
end
end Go.Proofs.YtebgkcjpocfmmaaGreat.V
namespace Go.Proofs.YtebgkcjpocfmmaaGreat.V
open Go
set_option linter.unusedVariables false
noncomputable section
/-! ### slices.ContainsFunc[[]int64,int64]: function 148 -/
abbrev slices_ContainsFunc_int64_int64_3.R := (((Bool × Unit) × Unit) × Unit)
def slices_ContainsFunc_int64_int64_3.f (k : Nat) (a0 : List Int) (a1 : Int) : Option slices_ContainsFunc_int64_int64_3.R := Option.bind (slices_IndexFunc_int64_int64_3.f k a0 a1) fun r1 => some (((decide (0 ≤ r1.1.1.1), ()), ()), ())
def slices_ContainsFunc_int64_int64_3.s (k : Nat) : FS := ⟨[⟨false, [.lst (.int .i64)]⟩, ⟨false, [.fn 185 [(0, 0)]]⟩], [(0, .cbox [.int .i64])], false, [⟨false, [.bool]⟩], [], [], fun x => slices_ContainsFunc_int64_int64_3.f k x.1.1.1 x.2.1.1⟩
def slices_ContainsFunc_int64_int64_3.E (k : Nat) : Ents := [(⟨183, [185]⟩, slices_IndexFunc_int64_int64_3.s k)]
def slices_ContainsFunc_int64_int64_3.L : List (LS slices_ContainsFunc_int64_int64_3.R) := []
def slices_ContainsFunc_int64_int64_3.c : Code := Tryz.f148.body.getD .skip
theorem slices_ContainsFunc_int64_int64_3.eq (k : Nat) (x) : (slices_ContainsFunc_int64_int64_3.s k).pf x = execF tab (slices_ContainsFunc_int64_int64_3.E k) Tryz.f148 slices_ContainsFunc_int64_int64_3.c (slices_ContainsFunc_int64_int64_3.s k) slices_ContainsFunc_int64_int64_3.L x := by kernel_rfl
theorem slices_ContainsFunc_int64_int64_3.sound : ∀ k, Sound Tryz.prog 148 (slices_ContainsFunc_int64_int64_3.s k) := sound_of mixed tab_ok (f := 148) (fn := Tryz.f148) (c := slices_ContainsFunc_int64_int64_3.c) (by kernel_rfl) (by kernel_rfl) (by kernel_rfl) ⟨[⟨false, [.lst (.int .i64)]⟩, ⟨false, [.fn 185 [(0, 0)]]⟩], [(0, .cbox [.int .i64])], false, [⟨false, [.bool]⟩], [], []⟩ (by kernel_rfl) (by kernel_rfl) (fun k => (slices_ContainsFunc_int64_int64_3.s k).pf) slices_ContainsFunc_int64_int64_3.E (fun k => (EntsOK.cons (slices_IndexFunc_int64_int64_3.sound k) EntsOK.nil)) (fun k => slices_ContainsFunc_int64_int64_3.L) (fun k => trivial) trivial (fun k => trivial) slices_ContainsFunc_int64_int64_3.eq
end
end Go.Proofs.YtebgkcjpocfmmaaGreat.V
namespace Go.Proofs.YtebgkcjpocfmmaaGreat.V
open Go
set_option linter.unusedVariables false
noncomputable section
/-! ### impl.isInst$2: function 186 -/
abbrev impl_isInst_2.R := (((Bool × Unit) × Unit) × Unit)
def impl_isInst_2.f (k : Nat) (a0 : Int) : Option impl_isInst_2.R := some (((!decide (a0 = 0), ()), ()), ())
def impl_isInst_2.s (k : Nat) : FS := ⟨[⟨false, [.int .i64]⟩], [], false, [⟨false, [.bool]⟩], [], [], fun x => impl_isInst_2.f k x.1.1.1⟩
def impl_isInst_2.E (k : Nat) : Ents := []
def impl_isInst_2.L : List (LS impl_isInst_2.R) := []
def impl_isInst_2.c : Code := Tryz.f186.body.getD .skip
theorem impl_isInst_2.eq (k : Nat) (x) : (impl_isInst_2.s k).pf x = execF tab (impl_isInst_2.E k) Tryz.f186 impl_isInst_2.c (impl_isInst_2.s k) impl_isInst_2.L x := by kernel_rfl
theorem impl_isInst_2.sound : ∀ k, Sound Tryz.prog 186 (impl_isInst_2.s k) := sound_of mixed tab_ok (f := 186) (fn := Tryz.f186) (c := impl_isInst_2.c) (by kernel_rfl) (by kernel_rfl) (by kernel_rfl) ⟨[⟨false, [.int .i64]⟩], [], false, [⟨false, [.bool]⟩], [], []⟩ (by kernel_rfl) (by kernel_rfl) (fun k => (impl_isInst_2.s k).pf) impl_isInst_2.E (fun k => EntsOK.nil) (fun k => impl_isInst_2.L) (fun k => trivial) trivial (fun k => trivial) impl_isInst_2.eq
end
end Go.Proofs.YtebgkcjpocfmmaaGreat.V
namespace Go.Proofs.YtebgkcjpocfmmaaGreat.V
open Go
set_option linter.unusedVariables false
noncomputable section
/-! ### slices.IndexFunc[[]int64,int64]: function 183 -/
abbrev slices_IndexFunc_int64_int64_4.R := (((Int × Unit) × Unit) × Unit)
def slices_IndexFunc_int64_int64_4.l0_ (k : Nat) (l0 : (List Int) → Int → Int → Option slices_IndexFunc_int64_int64_4.R) (a0 : List Int) (a1 : Int) (a2 : Int) : Option slices_IndexFunc_int64_int64_4.R := bif decide (a2 < a1) then (bif (decide (0 ≤ a2)) && (decide (a2 < ((List.length a0 : Nat) : Int))) then (Option.bind (impl_isInst_2.f k (List.getD a0 (Int.toNat a2) 0)) fun r1 => bif r1.1.1.1 then (some (((a2, ()), ()), ())) else (l0 a0 a1 (IntKind.wrap .i64 (a2 + 1)))) else none) else (some (((-1, ()), ()), ()))
def slices_IndexFunc_int64_int64_4.all : Nat → ((List Int) → Int → Int → Option slices_IndexFunc_int64_int64_4.R) × Unit
  | 0 => (fun _ _ _ => none, ())
  | k + 1 => (slices_IndexFunc_int64_int64_4.l0_ k (slices_IndexFunc_int64_int64_4.all k).1, ())
def slices_IndexFunc_int64_int64_4.l0 (k : Nat) : (List Int) → Int → Int → Option slices_IndexFunc_int64_int64_4.R := (slices_IndexFunc_int64_int64_4.all k).1
def slices_IndexFunc_int64_int64_4.f (k : Nat) (a0 : List Int) : Option slices_IndexFunc_int64_int64_4.R := slices_IndexFunc_int64_int64_4.l0 k a0 ((List.length a0 : Nat) : Int) 0
def slices_IndexFunc_int64_int64_4.s (k : Nat) : FS := ⟨[⟨false, [.lst (.int .i64)]⟩, ⟨false, [.fn 186 []]⟩], [], false, [⟨false, [.int .i64]⟩], [], [], fun x => slices_IndexFunc_int64_int64_4.f k x.1.1.1⟩
def slices_IndexFunc_int64_int64_4.E (k : Nat) : Ents := [(⟨186, []⟩, impl_isInst_2.s k)]
def slices_IndexFunc_int64_int64_4.L0 (l : (List Int) → Int → Int → Option slices_IndexFunc_int64_int64_4.R) : LS slices_IndexFunc_int64_int64_4.R := ⟨[], [(0, ⟨false, [.lst (.int .i64)]⟩), (1, ⟨false, [.fn 186 []]⟩), (7, ⟨false, [.int .i64]⟩), (8, ⟨false, [.int .i64]⟩)], [], fun x => l x.1.1.1 x.1.2.2.1.1 x.1.2.2.2.1.1⟩
def slices_IndexFunc_int64_int64_4.L (l0 : (List Int) → Int → Int → Option slices_IndexFunc_int64_int64_4.R) : List (LS slices_IndexFunc_int64_int64_4.R) := [slices_IndexFunc_int64_int64_4.L0 l0]
def slices_IndexFunc_int64_int64_4.c : Code := Tryz.f183.body.getD .skip
theorem slices_IndexFunc_int64_int64_4.eq (k : Nat) (x) : (slices_IndexFunc_int64_int64_4.s k).pf x = execF tab (slices_IndexFunc_int64_int64_4.E k) Tryz.f183 slices_IndexFunc_int64_int64_4.c (slices_IndexFunc_int64_int64_4.s k) (slices_IndexFunc_int64_int64_4.L (slices_IndexFunc_int64_int64_4.l0 k)) x := by kernel_rfl
theorem slices_IndexFunc_int64_int64_4.r0 (l0 : (List Int) → Int → Int → Option slices_IndexFunc_int64_int64_4.R) (k : Nat) (x) : slices_IndexFunc_int64_int64_4.l0_ k l0 x.1.1.1 x.1.2.2.1.1 x.1.2.2.2.1.1 = roundOf tab (slices_IndexFunc_int64_int64_4.E k) (slices_IndexFunc_int64_int64_4.L l0) slices_IndexFunc_int64_int64_4.c (fin tab Tryz.f183 (slices_IndexFunc_int64_int64_4.s k)) 0 (slices_IndexFunc_int64_int64_4.L0 l0) x := by kernel_rfl
theorem slices_IndexFunc_int64_int64_4.sound : ∀ k, Sound Tryz.prog 183 (slices_IndexFunc_int64_int64_4.s k) := sound_of mixed tab_ok (f := 183) (fn := Tryz.f183) (c := slices_IndexFunc_int64_int64_4.c) (by kernel_rfl) (by kernel_rfl) (by kernel_rfl) ⟨[⟨false, [.lst (.int .i64)]⟩, ⟨false, [.fn 186 []]⟩], [], false, [⟨false, [.int .i64]⟩], [], []⟩ (by kernel_rfl) (by kernel_rfl) (fun k => (slices_IndexFunc_int64_int64_4.s k).pf) slices_IndexFunc_int64_int64_4.E (fun k => (EntsOK.cons (impl_isInst_2.sound k) EntsOK.nil)) (fun k => slices_IndexFunc_int64_int64_4.L (slices_IndexFunc_int64_int64_4.l0 k)) (fun k => ⟨rfl, trivial⟩) ⟨fun _ => rfl, trivial⟩ (fun k => ⟨⟨(slices_IndexFunc_int64_int64_4.L0 (slices_IndexFunc_int64_int64_4.l0 (k + 1))).l, rfl, fun x => slices_IndexFunc_int64_int64_4.r0 (slices_IndexFunc_int64_int64_4.l0 k) k x⟩, trivial⟩) slices_IndexFunc_int64_int64_4.eq
end
end Go.Proofs.YtebgkcjpocfmmaaGreat.V
namespace Go.Proofs.YtebgkcjpocfmmaaGreat.V
open Go
set_option linter.unusedVariables false
noncomputable section
/-! ### slices.ContainsFunc[[]int64,int64]: function 148 -/
abbrev slices_ContainsFunc_int64_int64_4.R := (((Bool × Unit) × Unit) × Unit)
def slices_ContainsFunc_int64_int64_4.f (k : Nat) (a0 : List Int) : Option slices_ContainsFunc_int64_int64_4.R := Option.bind (slices_IndexFunc_int64_int64_4.f k a0) fun r1 => some (((decide (0 ≤ r1.1.1.1), ()), ()), ())
def slices_ContainsFunc_int64_int64_4.s (k : Nat) : FS := ⟨[⟨false, [.lst (.int .i64)]⟩, ⟨false, [.fn 186 []]⟩], [], false, [⟨false, [.bool]⟩], [], [], fun x => slices_ContainsFunc_int64_int64_4.f k x.1.1.1⟩
def slices_ContainsFunc_int64_int64_4.E (k : Nat) : Ents := [(⟨183, [186]⟩, slices_IndexFunc_int64_int64_4.s k)]
def slices_ContainsFunc_int64_int64_4.L : List (LS slices_ContainsFunc_int64_int64_4.R) := []
def slices_ContainsFunc_int64_int64_4.c : Code := Tryz.f148.body.getD .skip
theorem slices_ContainsFunc_int64_int64_4.eq (k : Nat) (x) : (slices_ContainsFunc_int64_int64_4.s k).pf x = execF tab (slices_ContainsFunc_int64_int64_4.E k) Tryz.f148 slices_ContainsFunc_int64_int64_4.c (slices_ContainsFunc_int64_int64_4.s k) slices_ContainsFunc_int64_int64_4.L x := by kernel_rfl
theorem slices_ContainsFunc_int64_int64_4.sound : ∀ k, Sound Tryz.prog 148 (slices_ContainsFunc_int64_int64_4.s k) := sound_of mixed tab_ok (f := 148) (fn := Tryz.f148) (c := slices_ContainsFunc_int64_int64_4.c) (by kernel_rfl) (by kernel_rfl) (by kernel_rfl) ⟨[⟨false, [.lst (.int .i64)]⟩, ⟨false, [.fn 186 []]⟩], [], false, [⟨false, [.bool]⟩], [], []⟩ (by kernel_rfl) (by kernel_rfl) (fun k => (slices_ContainsFunc_int64_int64_4.s k).pf) slices_ContainsFunc_int64_int64_4.E (fun k => (EntsOK.cons (slices_IndexFunc_int64_int64_4.sound k) EntsOK.nil)) (fun k => slices_ContainsFunc_int64_int64_4.L) (fun k => trivial) trivial (fun k => trivial) slices_ContainsFunc_int64_int64_4.eq
end
end Go.Proofs.YtebgkcjpocfmmaaGreat.V
namespace Go.Proofs.YtebgkcjpocfmmaaGreat.V
open Go
set_option linter.unusedVariables false
noncomputable section
/-! ### impl.isWidth: function 187 -/
abbrev impl_isWidth.R := (((Bool × Unit) × Unit) × Unit)
def impl_isWidth.f (k : Nat) (a0 : tInstD) : Option impl_isWidth.R := bif decide (a0.1 = 24) then (bif decide (a0.1 = 24) then (some (((decide (a0.2.1 = 0), ()), ()), ())) else (bif decide (a0.1 = 23) then (some (((decide (a0.2.1 = 8), ()), ()), ())) else (Option.bind (impl_WidthOk.f k a0.2.1) fun r1 => some (((r1.1.1.1, ()), ()), ())))) else (bif decide (a0.1 = 25) then (some (((decide (a0.2.1 = 0), ()), ()), ())) else (bif decide (a0.1 = 23) then (some (((decide (a0.2.1 = 8), ()), ()), ())) else (Option.bind (impl_WidthOk.f k a0.2.1) fun r2 => some (((r2.1.1.1, ()), ()), ()))))
def impl_isWidth.s (k : Nat) : FS := ⟨[⟨true, [.int .i64, .int .i64, .int .i64, .int .i64, .int .i64, .int .i64, .lst (.int .i64)]⟩], [], false, [⟨false, [.bool]⟩], [], [], fun x => impl_isWidth.f k x.1.1⟩
def impl_isWidth.E (k : Nat) : Ents := [(⟨134, []⟩, impl_WidthOk.s k)]
def impl_isWidth.L : List (LS impl_isWidth.R) := []
def impl_isWidth.c : Code := Tryz.f187.body.getD .skip
theorem impl_isWidth.eq (k : Nat) (x) : (impl_isWidth.s k).pf x = execF tab (impl_isWidth.E k) Tryz.f187 impl_isWidth.c (impl_isWidth.s k) impl_isWidth.L x := by kernel_rfl
theorem impl_isWidth.sound : ∀ k, Sound Tryz.prog 187 (impl_isWidth.s k) := sound_of mixed tab_ok (f := 187) (fn := Tryz.f187) (c := impl_isWidth.c) (by kernel_rfl) (by kernel_rfl) (by kernel_rfl) ⟨[⟨true, [.int .i64, .int .i64, .int .i64, .int .i64, .int .i64, .int .i64, .lst (.int .i64)]⟩], [], false, [⟨false, [.bool]⟩], [], []⟩ (by kernel_rfl) (by kernel_rfl) (fun k => (impl_isWidth.s k).pf) impl_isWidth.E (fun k => (EntsOK.cons (impl_WidthOk.sound k) EntsOK.nil)) (fun k => impl_isWidth.L) (fun k => trivial) trivial (fun k => trivial) impl_isWidth.eq
end
end Go.Proofs.YtebgkcjpocfmmaaGreat.V
namespace Go.Proofs.YtebgkcjpocfmmaaGreat.V
open Go
set_option linter.unusedVariables false
noncomputable section
/-! ### impl.mask: function 139 -/
abbrev impl_mask.R := (((Int × Unit) × Unit) × Unit)
def impl_mask.f (k : Nat) (a0 : Int) : Option impl_mask.R := bif decide (0 ≤ a0) then (some (((IntKind.wrap .i64 ((V.shl .i64 1 a0) - 1), ()), ()), ())) else none
def impl_mask.s (k : Nat) : FS := ⟨[⟨false, [.int .i64]⟩], [], false, [⟨false, [.int .i64]⟩], [], [], fun x => impl_mask.f k x.1.1.1⟩
def impl_mask.E (k : Nat) : Ents := []
def impl_mask.L : List (LS impl_mask.R) := []
def impl_mask.c : Code := Tryz.f139.body.getD .skip
theorem impl_mask.eq (k : Nat) (x) : (impl_mask.s k).pf x = execF tab (impl_mask.E k) Tryz.f139 impl_mask.c (impl_mask.s k) impl_mask.L x := by kernel_rfl
theorem impl_mask.sound : ∀ k, Sound Tryz.prog 139 (impl_mask.s k) := sound_of mixed tab_ok (f := 139) (fn := Tryz.f139) (c := impl_mask.c) (by kernel_rfl) (by kernel_rfl) (by kernel_rfl) ⟨[⟨false, [.int .i64]⟩], [], false, [⟨false, [.int .i64]⟩], [], []⟩ (by kernel_rfl) (by kernel_rfl) (fun k => (impl_mask.s k).pf) impl_mask.E (fun k => EntsOK.nil) (fun k => impl_mask.L) (fun k => trivial) trivial (fun k => trivial) impl_mask.eq
end
end Go.Proofs.YtebgkcjpocfmmaaGreat.V
namespace Go.Proofs.YtebgkcjpocfmmaaGreat.V
open Go
set_option linter.unusedVariables false
noncomputable section
/-! ### impl.isValue: function 78 -/
abbrev impl_isValue.R := (((Bool × Unit) × Unit) × Unit)
def impl_isValue.f (k : Nat) (a0 : Int) (a1 : Int) : Option impl_isValue.R := Option.bind (impl_WidthOk.f k a0) fun r1 => bif r1.1.1.1 then (Option.bind (impl_mask.f k a0) fun r2 => Option.bind (impl_within.f k a1 0 r2.1.1.1) fun r3 => some (((r3.1.1.1, ()), ()), ())) else (some (((false, ()), ()), ()))
def impl_isValue.s (k : Nat) : FS := ⟨[⟨false, [.int .i64]⟩, ⟨false, [.int .i64]⟩], [], false, [⟨false, [.bool]⟩], [], [], fun x => impl_isValue.f k x.1.1.1 x.1.2.1.1⟩
def impl_isValue.E (k : Nat) : Ents := [(⟨134, []⟩, impl_WidthOk.s k), (⟨139, []⟩, impl_mask.s k), (⟨41, []⟩, impl_within.s k)]
def impl_isValue.L : List (LS impl_isValue.R) := []
def impl_isValue.c : Code := Tryz.f78.body.getD .skip
theorem impl_isValue.eq (k : Nat) (x) : (impl_isValue.s k).pf x = execF tab (impl_isValue.E k) Tryz.f78 impl_isValue.c (impl_isValue.s k) impl_isValue.L x := by kernel_rfl
theorem impl_isValue.sound : ∀ k, Sound Tryz.prog 78 (impl_isValue.s k) := sound_of mixed tab_ok (f := 78) (fn := Tryz.f78) (c := impl_isValue.c) (by kernel_rfl) (by kernel_rfl) (by kernel_rfl) ⟨[⟨false, [.int .i64]⟩, ⟨false, [.int .i64]⟩], [], false, [⟨false, [.bool]⟩], [], []⟩ (by kernel_rfl) (by kernel_rfl) (fun k => (impl_isValue.s k).pf) impl_isValue.E (fun k => (EntsOK.cons (impl_WidthOk.sound k) (EntsOK.cons (impl_mask.sound k) (EntsOK.cons (impl_within.sound k) EntsOK.nil)))) (fun k => impl_isValue.L) (fun k => trivial) trivial (fun k => trivial) impl_isValue.eq
end
end Go.Proofs.YtebgkcjpocfmmaaGreat.V
namespace Go.Proofs.YtebgkcjpocfmmaaGreat.V
open Go
set_option linter.unusedVariables false
noncomputable section
/-! ### impl.isImm: function 188 -/
abbrev impl_isImm.R := (((Bool × Unit) × Unit) × Unit)
def impl_isImm.f (k : Nat) (a0 : tInstD) (a1 : Int) : Option impl_isImm.R := bif decide (a0.1 = 21) then (Option.bind (impl_isValue.f k a0.2.1 a0.2.2.2.2.2.1) fun r1 => some (((r1.1.1.1, ()), ()), ())) else (bif decide (a0.1 = 26) then (Option.bind (impl_within.f k a0.2.2.2.2.2.1 0 (IntKind.wrap .i64 (a1 - 1))) fun r2 => some (((r2.1.1.1, ()), ()), ())) else (some (((decide (a0.2.2.2.2.2.1 = 0), ()), ()), ())))
def impl_isImm.s (k : Nat) : FS := ⟨[⟨true, [.int .i64, .int .i64, .int .i64, .int .i64, .int .i64, .int .i64, .lst (.int .i64)]⟩, ⟨false, [.int .i64]⟩], [], false, [⟨false, [.bool]⟩], [], [], fun x => impl_isImm.f k x.1.1 x.1.2.1.1⟩
def impl_isImm.E (k : Nat) : Ents := [(⟨78, []⟩, impl_isValue.s k), (⟨41, []⟩, impl_within.s k)]
def impl_isImm.L : List (LS impl_isImm.R) := []
def impl_isImm.c : Code := Tryz.f188.body.getD .skip
theorem impl_isImm.eq (k : Nat) (x) : (impl_isImm.s k).pf x = execF tab (impl_isImm.E k) Tryz.f188 impl_isImm.c (impl_isImm.s k) impl_isImm.L x := by kernel_rfl
theorem impl_isImm.sound : ∀ k, Sound Tryz.prog 188 (impl_isImm.s k) := sound_of mixed tab_ok (f := 188) (fn := Tryz.f188) (c := impl_isImm.c) (by kernel_rfl) (by kernel_rfl) (by kernel_rfl) ⟨[⟨true, [.int .i64, .int .i64, .int .i64, .int .i64, .int .i64, .int .i64, .lst (.int .i64)]⟩, ⟨false, [.int .i64]⟩], [], false, [⟨false, [.bool]⟩], [], []⟩ (by kernel_rfl) (by kernel_rfl) (fun k => (impl_isImm.s k).pf) impl_isImm.E (fun k => (EntsOK.cons (impl_isValue.sound k) (EntsOK.cons (impl_within.sound k) EntsOK.nil))) (fun k => impl_isImm.L) (fun k => trivial) trivial (fun k => trivial) impl_isImm.eq
end
end Go.Proofs.YtebgkcjpocfmmaaGreat.V
