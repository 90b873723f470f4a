/- PROVED HERE: what the functions that the law FnExactCopiesGone reaches do in memory, each as a plain Lean function, and what these tell: part 4 of 7 of the proof of that law; no condition beyond those written out at each theorem. -/
import Derived.Test.YtebgkcjpocfmmaaGreatZFnExactCopiesGone2
namespace Go.Proofs.YtebgkcjpocfmmaaGreat.V
open Go
set_option linter.unusedVariables false
noncomputable section
/-! ### spec.l9Inst: function 96 -/
namespace spec_l9Inst
abbrev R := (((Int × Int × Int × Int × Int × Int × (List Int) × Unit) × (Bool × Unit) × Unit) × Unit)
def f (k : Nat) (a0 : tFuncD) (a1 : Int) : Option R := Option.bind (spec_l2Place.f k a0 a1) fun r1 => bif decide (r1.1.1.1 < 0) then (some (((0, 0, 0, 0, 0, 0, ([] : List Int), ()), (false, ()), ()), ())) else (bif (decide (0 ≤ r1.1.1.1)) && (decide (r1.1.1.1 < ((List.length a0.2.2.1 : Nat) : Int))) then (bif decide (r1.1.2.1.1 < ((List.length ((List.getD a0.2.2.1 (Int.toNat r1.1.1.1) tBlockZ).1) : Nat) : Int)) then (some (((0, 0, 0, 0, 0, 0, ([] : List Int), ()), (false, ()), ()), ())) else (bif (decide (0 ≤ r1.1.1.1)) && (decide (r1.1.1.1 < ((List.length a0.2.2.1 : Nat) : Int))) then (bif (decide (0 ≤ IntKind.wrap .i64 (r1.1.2.1.1 - ((List.length ((List.getD a0.2.2.1 (Int.toNat r1.1.1.1) tBlockZ).1) : Nat) : Int)))) && (decide (IntKind.wrap .i64 (r1.1.2.1.1 - ((List.length ((List.getD a0.2.2.1 (Int.toNat r1.1.1.1) tBlockZ).1) : Nat) : Int)) < ((List.length ((List.getD a0.2.2.1 (Int.toNat r1.1.1.1) tBlockZ).2.1) : Nat) : Int))) then (some (((List.getD ((List.getD a0.2.2.1 (Int.toNat r1.1.1.1) tBlockZ).2.1) (Int.toNat (IntKind.wrap .i64 (r1.1.2.1.1 - ((List.length ((List.getD a0.2.2.1 (Int.toNat r1.1.1.1) tBlockZ).1) : Nat) : Int)))) tInstZ), (true, ()), ()), ())) else none) else none)) else none)
abbrev S : ShapeParts := ⟨[⟨true, [.lst (.int .i64), .int .i64, .lst tBlock]⟩, ⟨false, [.int .i64]⟩], [], true, [⟨true, [.int .i64, .int .i64, .int .i64, .int .i64, .int .i64, .int .i64, .lst (.int .i64)]⟩, ⟨false, [.bool]⟩], [], []⟩
def s (k : Nat) : FS := S.fs fun x => f k x.1.1 x.1.2.1.1
def E (k : Nat) : Ents := [(⟨53, []⟩, spec_l2Place.s k)]
def L : List (LS R) := []
def c : Code := Tryz.f96.body.getD .skip
theorem eq (k : Nat) (x) : (s k).pf x = execF tab (E k) Tryz.f96 c (s k) L x := by kernel_rfl
theorem sound : ∀ k, Sound Tryz.prog 96 (s k) := snd S (fun k => (s k).pf) E (fun k => (EntsOK.cons (spec_l2Place.sound k) EntsOK.nil)) (fun k => L) (fun k => trivial) eq
end spec_l9Inst
end
end Go.Proofs.YtebgkcjpocfmmaaGreat.V
namespace Go.Proofs.YtebgkcjpocfmmaaGreat.V
open Go
set_option linter.unusedVariables false
noncomputable section
/-! ### spec.l10Source: function 43 -/
namespace spec_l10Source
abbrev R := (((Int × Unit) × Unit) × Unit)
abbrev T0 : Type := Int → Int → tFuncD → Option R
def l0_ (k : Nat) (l0 : T0) (a0 : Int) (a1 : Int) (a2 : tFuncD) : Option R := bif decide (a1 < 60) then (Option.bind (spec_l9Inst.f k a2 a0) fun r1 => bif !r1.1.2.1.1 then (some (((a0, ()), ()), ())) else (bif !decide (r1.1.1.1 = 27) then (some (((a0, ()), ()), ())) else (l0 r1.1.1.2.2.1 (IntKind.wrap .i64 (a1 + 1)) a2))) else (some (((a0, ()), ()), ()))
def all : Nat → (T0) × Unit
  | 0 => (fun _ _ _ => none, ())
  | k + 1 => (l0_ k (all k).1, ())
def l0 (k : Nat) : T0 := (all k).1
def f (k : Nat) (a0 : tFuncD) (a1 : Int) : Option R := l0 k a1 0 a0
abbrev S : ShapeParts := ⟨[⟨true, [.lst (.int .i64), .int .i64, .lst tBlock]⟩, ⟨false, [.int .i64]⟩], [], false, [⟨false, [.int .i64]⟩], [], []⟩
def s (k : Nat) : FS := S.fs fun x => f k x.1.1 x.1.2.1.1
def E (k : Nat) : Ents := [(⟨96, []⟩, spec_l9Inst.s k)]
def L0 (l : T0) : LS R := ⟨[], [(1, ⟨false, [.int .i64]⟩), (2, ⟨false, [.ptr 100000 0]⟩), (5, ⟨false, [.int .i64]⟩)], [(100000, .box [.lst (.int .i64), .int .i64, .lst tBlock])], fun x => l x.1.1.1 x.1.2.2.1.1 x.2.1⟩
def L (l0 : T0) : List (LS R) := [L0 l0]
def c : Code := Tryz.f43.body.getD .skip
theorem eq (k : Nat) (x) : (s k).pf x = execF tab (E k) Tryz.f43 c (s k) (L (l0 k)) x := by kernel_rfl
theorem r0 (l0 : T0) (k : Nat) (x) : (L0 (l0_ k l0)).l x = roundOf tab (E k) (L l0) c (fin tab Tryz.f43 (s k)) 0 (L0 l0) x := by kernel_rfl
theorem sound : ∀ k, Sound Tryz.prog 43 (s k) := snd S (fun k => (s k).pf) E (fun k => (EntsOK.cons (spec_l9Inst.sound k) EntsOK.nil)) (fun k => L (l0 k)) (fun k => ⟨⟨(L0 (l0 (k + 1))).l, rfl, fun x => r0 (l0 k) k x⟩, trivial⟩) eq
end spec_l10Source
end
end Go.Proofs.YtebgkcjpocfmmaaGreat.V
namespace Go.Proofs.YtebgkcjpocfmmaaGreat.V
open Go
set_option linter.unusedVariables false
noncomputable section
/-! ### spec.l2CopyInst: function 126 -/
namespace spec_l2CopyInst
abbrev R := (((Int × Int × Int × Int × Int × Int × Unit × Unit) × Unit) × ((List Int) × Unit))
def f (k : Nat) (a0 : tInstD) : Option R := Option.bind (spec_l1Copy.f k a0.2.2.2.2.2.2.1) fun r1 => some (((a0.1, a0.2.1, a0.2.2.1, a0.2.2.2.1, a0.2.2.2.2.1, a0.2.2.2.2.2.1, (), ()), ()), (r1.2.1, ()))
abbrev S : ShapeParts := ⟨[⟨true, [.int .i64, .int .i64, .int .i64, .int .i64, .int .i64, .int .i64, .lst (.int .i64)]⟩], [], false, [⟨true, [.int .i64, .int .i64, .int .i64, .int .i64, .int .i64, .int .i64, .own 100]⟩], [(100, .row true (.int .i64))], []⟩
def s (k : Nat) : FS := S.fs fun x => f k x.1.1
def E (k : Nat) : Ents := [(⟨51, []⟩, spec_l1Copy.s k)]
def L : List (LS R) := []
def c : Code := Tryz.f126.body.getD .skip
theorem eq (k : Nat) (x) : (s k).pf x = execF tab (E k) Tryz.f126 c (s k) L x := by kernel_rfl
theorem sound : ∀ k, Sound Tryz.prog 126 (s k) := snd S (fun k => (s k).pf) E (fun k => (EntsOK.cons (spec_l1Copy.sound k) EntsOK.nil)) (fun k => L) (fun k => trivial) eq
end spec_l2CopyInst
end
end Go.Proofs.YtebgkcjpocfmmaaGreat.V
namespace Go.Proofs.YtebgkcjpocfmmaaGreat.V
open Go
set_option linter.unusedVariables false
noncomputable section
/-! ### spec.l2CopyBlock: function 107 -/
namespace spec_l2CopyBlock
abbrev R := (((Unit × Unit × Int × Int × Int × Int × Unit) × Unit) × ((List tPhiD) × (List tInstD) × Unit))
abbrev T0 : Type := Int → tBlockD → Int → Int → Int → Int → (List tPhiD) → (List tInstD) → Int → Int → Int → Int → (List tPhiD) → (List tInstD) → Option R
def l0_ (k : Nat) (l0 : T0) (l1 : T0) (a0 : Int) (a1 : tBlockD) (a2 : Int) (a3 : Int) (a4 : Int) (a5 : Int) (a6 : List tPhiD) (a7 : List tInstD) (a8 : Int) (a9 : Int) (a10 : Int) (a11 : Int) (a12 : List tPhiD) (a13 : List tInstD) : Option R := bif decide (a0 < ((List.length a1.1 : Nat) : Int)) then (bif (decide (0 ≤ a0)) && (decide (a0 < ((List.length a1.1 : Nat) : Int))) then (bif (decide (0 ≤ a0)) && (decide (a0 < ((List.length a1.1 : Nat) : Int))) then (Option.bind (spec_l1Copy.f k ((List.getD a1.1 (Int.toNat a0) tPhiZ).2.1)) fun r1 => bif decide ((List.length a12 + List.length [(((List.getD a1.1 (Int.toNat a0) tPhiZ).1, r1.2.1, ()) : tPhiD)]) * 32 ≤ 140737488355328) then (l0 (IntKind.wrap .i64 (a0 + 1)) a1 a2 a3 a4 a5 a6 a7 a8 a9 a10 a11 (a12 ++ [(((List.getD a1.1 (Int.toNat a0) tPhiZ).1, r1.2.1, ()) : tPhiD)]) a13) else none) else none) else none) else (l1 0 a1 a2 a3 a4 a5 a6 a7 a8 a9 a10 a11 a12 a13)
def l1_ (k : Nat) (l0 : T0) (l1 : T0) (a0 : Int) (a1 : tBlockD) (a2 : Int) (a3 : Int) (a4 : Int) (a5 : Int) (a6 : List tPhiD) (a7 : List tInstD) (a8 : Int) (a9 : Int) (a10 : Int) (a11 : Int) (a12 : List tPhiD) (a13 : List tInstD) : Option R := bif decide (a0 < ((List.length a1.2.1 : Nat) : Int)) then (bif (decide (0 ≤ a0)) && (decide (a0 < ((List.length a1.2.1 : Nat) : Int))) then (Option.bind (spec_l2CopyInst.f k (List.getD a1.2.1 (Int.toNat a0) tInstZ)) fun r1 => bif decide ((List.length a13 + List.length [((r1.1.1.1, r1.1.1.2.1, r1.1.1.2.2.1, r1.1.1.2.2.2.1, r1.1.1.2.2.2.2.1, r1.1.1.2.2.2.2.2.1, r1.2.1, ()) : tInstD)]) * 72 ≤ 140737488355328) then (l1 (IntKind.wrap .i64 (a0 + 1)) a1 a2 a3 a4 a5 a6 a7 a8 a9 a10 a11 a12 (a13 ++ [((r1.1.1.1, r1.1.1.2.1, r1.1.1.2.2.1, r1.1.1.2.2.2.1, r1.1.1.2.2.2.2.1, r1.1.1.2.2.2.2.2.1, r1.2.1, ()) : tInstD)])) else none) else none) else (some ((((), (), a8, a9, a10, a11, ()), ()), (a12, a13, ())))
def all : Nat → (T0) × (T0) × Unit
  | 0 => (fun _ _ _ _ _ _ _ _ _ _ _ _ _ _ => none, fun _ _ _ _ _ _ _ _ _ _ _ _ _ _ => none, ())
  | k + 1 => (l0_ k (all k).1 (all k).2.1, l1_ k (all k).1 (all k).2.1, ())
def l0 (k : Nat) : T0 := (all k).1
def l1 (k : Nat) : T0 := (all k).2.1
def f (k : Nat) (a0 : tBlockD) : Option R := l0 k 0 a0 0 0 0 0 ([] : List tPhiD) ([] : List tInstD) a0.2.2.1 a0.2.2.2.1 a0.2.2.2.2.1 a0.2.2.2.2.2.1 ([] : List tPhiD) ([] : List tInstD)
abbrev S : ShapeParts := ⟨[⟨true, [.lst tPhi, .lst tInst, .int .i64, .int .i64, .int .i64, .int .i64]⟩], [], false, [⟨true, [.own 100, .own 101, .int .i64, .int .i64, .int .i64, .int .i64]⟩], [(100, .row true tPhi), (101, .row true tInst)], []⟩
def s (k : Nat) : FS := S.fs fun x => f k x.1.1
def E (k : Nat) : Ents := [(⟨51, []⟩, spec_l1Copy.s k), (⟨126, []⟩, spec_l2CopyInst.s k)]
def L0 (l : T0) : LS R := ⟨[], [(1, ⟨false, [.ptr 100000 0]⟩), (2, ⟨false, [.ptr 100001 0]⟩), (3, ⟨false, [.ptr 100004 0]⟩), (4, ⟨false, [.int .i64]⟩)], [(100000, .box [.lst tPhi, .lst tInst, .int .i64, .int .i64, .int .i64, .int .i64]), (100001, .box [.own 100002, .own 100003, .int .i64, .int .i64, .int .i64, .int .i64]), (100002, .row true tPhi), (100003, .row true tInst), (100004, .box [.own 100005, .own 100006, .int .i64, .int .i64, .int .i64, .int .i64]), (100005, .row true tPhi), (100006, .row true tInst)], fun x => l x.1.2.2.2.1.1 x.2.1 x.2.2.1.2.2.1 x.2.2.1.2.2.2.1 x.2.2.1.2.2.2.2.1 x.2.2.1.2.2.2.2.2.1 x.2.2.2.1 x.2.2.2.2.1 x.2.2.2.2.2.1.2.2.1 x.2.2.2.2.2.1.2.2.2.1 x.2.2.2.2.2.1.2.2.2.2.1 x.2.2.2.2.2.1.2.2.2.2.2.1 x.2.2.2.2.2.2.1 x.2.2.2.2.2.2.2.1⟩
def L1 (l : T0) : LS R := ⟨[], [(1, ⟨false, [.ptr 100000 0]⟩), (2, ⟨false, [.ptr 100001 0]⟩), (3, ⟨false, [.ptr 100004 0]⟩), (5, ⟨false, [.int .i64]⟩)], [(100000, .box [.lst tPhi, .lst tInst, .int .i64, .int .i64, .int .i64, .int .i64]), (100001, .box [.own 100002, .own 100003, .int .i64, .int .i64, .int .i64, .int .i64]), (100002, .row true tPhi), (100003, .row true tInst), (100004, .box [.own 100005, .own 100006, .int .i64, .int .i64, .int .i64, .int .i64]), (100005, .row true tPhi), (100006, .row true tInst)], fun x => l x.1.2.2.2.1.1 x.2.1 x.2.2.1.2.2.1 x.2.2.1.2.2.2.1 x.2.2.1.2.2.2.2.1 x.2.2.1.2.2.2.2.2.1 x.2.2.2.1 x.2.2.2.2.1 x.2.2.2.2.2.1.2.2.1 x.2.2.2.2.2.1.2.2.2.1 x.2.2.2.2.2.1.2.2.2.2.1 x.2.2.2.2.2.1.2.2.2.2.2.1 x.2.2.2.2.2.2.1 x.2.2.2.2.2.2.2.1⟩
def L (l0 : T0) (l1 : T0) : List (LS R) := [L0 l0, L1 l1]
def c : Code := Tryz.f107.body.getD .skip
theorem eq (k : Nat) (x) : (s k).pf x = execF tab (E k) Tryz.f107 c (s k) (L (l0 k) (l1 k)) x := by kernel_rfl
theorem r0 (l0 : T0) (l1 : T0) (k : Nat) (x) : (L0 (l0_ k l0 l1)).l x = roundOf tab (E k) (L l0 l1) c (fin tab Tryz.f107 (s k)) 0 (L0 l0) x := by kernel_rfl
theorem r1 (l0 : T0) (l1 : T0) (k : Nat) (x) : (L1 (l1_ k l0 l1)).l x = roundOf tab (E k) (L l0 l1) c (fin tab Tryz.f107 (s k)) 1 (L1 l1) x := by kernel_rfl
theorem sound : ∀ k, Sound Tryz.prog 107 (s k) := snd S (fun k => (s k).pf) E (fun k => (EntsOK.cons (spec_l1Copy.sound k) (EntsOK.cons (spec_l2CopyInst.sound k) EntsOK.nil))) (fun k => L (l0 k) (l1 k)) (fun k => ⟨⟨(L0 (l0 (k + 1))).l, rfl, fun x => r0 (l0 k) (l1 k) k x⟩, ⟨(L1 (l1 (k + 1))).l, rfl, fun x => r1 (l0 k) (l1 k) k x⟩, trivial⟩) eq
end spec_l2CopyBlock
end
end Go.Proofs.YtebgkcjpocfmmaaGreat.V
namespace Go.Proofs.YtebgkcjpocfmmaaGreat.V
open Go
set_option linter.unusedVariables false
noncomputable section
/-! ### spec.l2CopyFunc: function 68 -/
namespace spec_l2CopyFunc
abbrev R := (((Unit × Int × Unit × Unit) × Unit) × ((List Int) × (List tBlockD) × Unit))
abbrev T0 : Type := Int → tFuncD → Int → (List Int) → (List tBlockD) → Int → (List Int) → (List tBlockD) → Option R
def l0_ (k : Nat) (l0 : T0) (a0 : Int) (a1 : tFuncD) (a2 : Int) (a3 : List Int) (a4 : List tBlockD) (a5 : Int) (a6 : List Int) (a7 : List tBlockD) : Option R := bif decide (a0 < ((List.length a1.2.2.1 : Nat) : Int)) then (bif (decide (0 ≤ a0)) && (decide (a0 < ((List.length a1.2.2.1 : Nat) : Int))) then (Option.bind (spec_l2CopyBlock.f k (List.getD a1.2.2.1 (Int.toNat a0) tBlockZ)) fun r1 => bif decide ((List.length a7 + List.length [((r1.2.1, r1.2.2.1, r1.1.1.2.2.1, r1.1.1.2.2.2.1, r1.1.1.2.2.2.2.1, r1.1.1.2.2.2.2.2.1, ()) : tBlockD)]) * 80 ≤ 140737488355328) then (l0 (IntKind.wrap .i64 (a0 + 1)) a1 a2 a3 a4 a5 a6 (a7 ++ [((r1.2.1, r1.2.2.1, r1.1.1.2.2.1, r1.1.1.2.2.2.1, r1.1.1.2.2.2.2.1, r1.1.1.2.2.2.2.2.1, ()) : tBlockD)])) else none) else none) else (some ((((), a5, (), ()), ()), (a6, a7, ())))
def all : Nat → (T0) × Unit
  | 0 => (fun _ _ _ _ _ _ _ _ => none, ())
  | k + 1 => (l0_ k (all k).1, ())
def l0 (k : Nat) : T0 := (all k).1
def f (k : Nat) (a0 : tFuncD) : Option R := Option.bind (spec_l1Copy.f k a0.1) fun r1 => l0 k 0 a0 0 ([] : List Int) ([] : List tBlockD) a0.2.1 r1.2.1 ([] : List tBlockD)
abbrev S : ShapeParts := ⟨[⟨true, [.lst (.int .i64), .int .i64, .lst tBlock]⟩], [], false, [⟨true, [.own 100, .int .i64, .own 101]⟩], [(100, .row true (.int .i64)), (101, .row true tBlock)], []⟩
def s (k : Nat) : FS := S.fs fun x => f k x.1.1
def E (k : Nat) : Ents := [(⟨51, []⟩, spec_l1Copy.s k), (⟨107, []⟩, spec_l2CopyBlock.s k)]
def L0 (l : T0) : LS R := ⟨[], [(1, ⟨false, [.ptr 100000 0]⟩), (2, ⟨false, [.ptr 100001 0]⟩), (3, ⟨false, [.ptr 100004 0]⟩), (4, ⟨false, [.int .i64]⟩)], [(100000, .box [.lst (.int .i64), .int .i64, .lst tBlock]), (100001, .box [.own 100002, .int .i64, .own 100003]), (100002, .row true (.int .i64)), (100003, .row true tBlock), (100004, .box [.own 100005, .int .i64, .own 100006]), (100005, .row true (.int .i64)), (100006, .row true tBlock)], fun x => l x.1.2.2.2.1.1 x.2.1 x.2.2.1.2.1 x.2.2.2.1 x.2.2.2.2.1 x.2.2.2.2.2.1.2.1 x.2.2.2.2.2.2.1 x.2.2.2.2.2.2.2.1⟩
def L (l0 : T0) : List (LS R) := [L0 l0]
def c : Code := Tryz.f68.body.getD .skip
theorem eq (k : Nat) (x) : (s k).pf x = execF tab (E k) Tryz.f68 c (s k) (L (l0 k)) x := by kernel_rfl
theorem r0 (l0 : T0) (k : Nat) (x) : (L0 (l0_ k l0)).l x = roundOf tab (E k) (L l0) c (fin tab Tryz.f68 (s k)) 0 (L0 l0) x := by kernel_rfl
theorem sound : ∀ k, Sound Tryz.prog 68 (s k) := snd S (fun k => (s k).pf) E (fun k => (EntsOK.cons (spec_l1Copy.sound k) (EntsOK.cons (spec_l2CopyBlock.sound k) EntsOK.nil))) (fun k => L (l0 k)) (fun k => ⟨⟨(L0 (l0 (k + 1))).l, rfl, fun x => r0 (l0 k) k x⟩, trivial⟩) eq
end spec_l2CopyFunc
end
end Go.Proofs.YtebgkcjpocfmmaaGreat.V
namespace Go.Proofs.YtebgkcjpocfmmaaGreat.V
open Go
set_option linter.unusedVariables false
noncomputable section
/-! ### spec.l8Inst: function 97 -/
namespace spec_l8Inst
abbrev R := (((Int × Int × Int × Int × Int × Int × Unit × Unit) × Unit) × ((List Int) × Unit))
abbrev T0 : Type := (List Int) → Int → tInstD → Int → Int → Int → Int → Int → Int → (List Int) → Int → Int → Int → Int → Int → Int → (List Int) → Option R
def l0_ (k : Nat) (l0 : T0) (a0 : List Int) (a1 : Int) (a2 : tInstD) (a3 : Int) (a4 : Int) (a5 : Int) (a6 : Int) (a7 : Int) (a8 : Int) (a9 : List Int) (a10 : Int) (a11 : Int) (a12 : Int) (a13 : Int) (a14 : Int) (a15 : Int) (a16 : List Int) : Option R := bif decide (a1 < ((List.length a16 : Nat) : Int)) then (bif (decide (0 ≤ a1)) && (decide (a1 < ((List.length a2.2.2.2.2.2.2.1 : Nat) : Int))) then (bif (decide (0 ≤ List.getD a2.2.2.2.2.2.2.1 (Int.toNat a1) 0)) && (decide (List.getD a2.2.2.2.2.2.2.1 (Int.toNat a1) 0 < ((List.length a0 : Nat) : Int))) then (bif (decide (0 ≤ a1)) && (decide (a1 < ((List.length a16 : Nat) : Int))) then (l0 a0 (IntKind.wrap .i64 (a1 + 1)) a2 a3 a4 a5 a6 a7 a8 a9 a10 a11 a12 a13 a14 a15 (List.set a16 (Int.toNat a1) (List.getD a0 (Int.toNat (List.getD a2.2.2.2.2.2.2.1 (Int.toNat a1) 0)) 0))) else none) else none) else none) else (some (((a10, a11, a12, a13, a14, a15, (), ()), ()), (a16, ())))
def all : Nat → (T0) × Unit
  | 0 => (fun _ _ _ _ _ _ _ _ _ _ _ _ _ _ _ _ _ => none, ())
  | k + 1 => (l0_ k (all k).1, ())
def l0 (k : Nat) : T0 := (all k).1
def f (k : Nat) (a0 : tInstD) (a1 : List Int) : Option R := Option.bind (spec_l2CopyInst.f k a0) fun r1 => Option.bind (spec_l2Operands.f k a0) fun r2 => bif decide (a0.1 = 26) then (l0 k a1 0 a0 0 0 0 0 0 0 ([] : List Int) r1.1.1.1 r1.1.1.2.1 r1.1.1.2.2.1 r1.1.1.2.2.2.1 r1.1.1.2.2.2.2.1 r1.1.1.2.2.2.2.2.1 r1.2.1) else (bif decide (0 < ((List.length r2.2.1 : Nat) : Int)) then (bif (decide (0 ≤ a0.2.2.1)) && (decide (a0.2.2.1 < ((List.length a1 : Nat) : Int))) then (bif decide (1 < ((List.length r2.2.1 : Nat) : Int)) then (bif (decide (0 ≤ a0.2.2.2.1)) && (decide (a0.2.2.2.1 < ((List.length a1 : Nat) : Int))) then (bif decide (2 < ((List.length r2.2.1 : Nat) : Int)) then (bif (decide (0 ≤ a0.2.2.2.2.1)) && (decide (a0.2.2.2.2.1 < ((List.length a1 : Nat) : Int))) then (some (((r1.1.1.1, r1.1.1.2.1, List.getD a1 (Int.toNat a0.2.2.1) 0, List.getD a1 (Int.toNat a0.2.2.2.1) 0, List.getD a1 (Int.toNat a0.2.2.2.2.1) 0, r1.1.1.2.2.2.2.2.1, (), ()), ()), (r1.2.1, ()))) else none) else (some (((r1.1.1.1, r1.1.1.2.1, List.getD a1 (Int.toNat a0.2.2.1) 0, List.getD a1 (Int.toNat a0.2.2.2.1) 0, r1.1.1.2.2.2.2.1, r1.1.1.2.2.2.2.2.1, (), ()), ()), (r1.2.1, ())))) else none) else (bif decide (2 < ((List.length r2.2.1 : Nat) : Int)) then (bif (decide (0 ≤ a0.2.2.2.2.1)) && (decide (a0.2.2.2.2.1 < ((List.length a1 : Nat) : Int))) then (some (((r1.1.1.1, r1.1.1.2.1, List.getD a1 (Int.toNat a0.2.2.1) 0, r1.1.1.2.2.2.1, List.getD a1 (Int.toNat a0.2.2.2.2.1) 0, r1.1.1.2.2.2.2.2.1, (), ()), ()), (r1.2.1, ()))) else none) else (some (((r1.1.1.1, r1.1.1.2.1, List.getD a1 (Int.toNat a0.2.2.1) 0, r1.1.1.2.2.2.1, r1.1.1.2.2.2.2.1, r1.1.1.2.2.2.2.2.1, (), ()), ()), (r1.2.1, ()))))) else none) else (bif decide (1 < ((List.length r2.2.1 : Nat) : Int)) then (bif (decide (0 ≤ a0.2.2.2.1)) && (decide (a0.2.2.2.1 < ((List.length a1 : Nat) : Int))) then (bif decide (2 < ((List.length r2.2.1 : Nat) : Int)) then (bif (decide (0 ≤ a0.2.2.2.2.1)) && (decide (a0.2.2.2.2.1 < ((List.length a1 : Nat) : Int))) then (some (((r1.1.1.1, r1.1.1.2.1, r1.1.1.2.2.1, List.getD a1 (Int.toNat a0.2.2.2.1) 0, List.getD a1 (Int.toNat a0.2.2.2.2.1) 0, r1.1.1.2.2.2.2.2.1, (), ()), ()), (r1.2.1, ()))) else none) else (some (((r1.1.1.1, r1.1.1.2.1, r1.1.1.2.2.1, List.getD a1 (Int.toNat a0.2.2.2.1) 0, r1.1.1.2.2.2.2.1, r1.1.1.2.2.2.2.2.1, (), ()), ()), (r1.2.1, ())))) else none) else (bif decide (2 < ((List.length r2.2.1 : Nat) : Int)) then (bif (decide (0 ≤ a0.2.2.2.2.1)) && (decide (a0.2.2.2.2.1 < ((List.length a1 : Nat) : Int))) then (some (((r1.1.1.1, r1.1.1.2.1, r1.1.1.2.2.1, r1.1.1.2.2.2.1, List.getD a1 (Int.toNat a0.2.2.2.2.1) 0, r1.1.1.2.2.2.2.2.1, (), ()), ()), (r1.2.1, ()))) else none) else (some (((r1.1.1.1, r1.1.1.2.1, r1.1.1.2.2.1, r1.1.1.2.2.2.1, r1.1.1.2.2.2.2.1, r1.1.1.2.2.2.2.2.1, (), ()), ()), (r1.2.1, ()))))))
abbrev S : ShapeParts := ⟨[⟨true, [.int .i64, .int .i64, .int .i64, .int .i64, .int .i64, .int .i64, .lst (.int .i64)]⟩, ⟨false, [.lst (.int .i64)]⟩], [], false, [⟨true, [.int .i64, .int .i64, .int .i64, .int .i64, .int .i64, .int .i64, .own 100]⟩], [(100, .row true (.int .i64))], []⟩
def s (k : Nat) : FS := S.fs fun x => f k x.1.1 x.1.2.1.1
def E (k : Nat) : Ents := [(⟨126, []⟩, spec_l2CopyInst.s k), (⟨54, []⟩, spec_l2Operands.s k)]
def L0 (l : T0) : LS R := ⟨[], [(1, ⟨false, [.lst (.int .i64)]⟩), (2, ⟨false, [.ptr 100000 0]⟩), (4, ⟨false, [.ptr 100001 0]⟩), (5, ⟨false, [.ptr 100003 0]⟩), (7, ⟨false, [.int .i64]⟩)], [(100000, .box [.int .i64, .int .i64, .int .i64, .int .i64, .int .i64, .int .i64, .lst (.int .i64)]), (100001, .box [.int .i64, .int .i64, .int .i64, .int .i64, .int .i64, .int .i64, .own 100002]), (100002, .row true (.int .i64)), (100003, .box [.int .i64, .int .i64, .int .i64, .int .i64, .int .i64, .int .i64, .own 100004]), (100004, .row true (.int .i64))], fun x => l x.1.1.1 x.1.2.2.2.2.1.1 x.2.1 x.2.2.1.1 x.2.2.1.2.1 x.2.2.1.2.2.1 x.2.2.1.2.2.2.1 x.2.2.1.2.2.2.2.1 x.2.2.1.2.2.2.2.2.1 x.2.2.2.1 x.2.2.2.2.1.1 x.2.2.2.2.1.2.1 x.2.2.2.2.1.2.2.1 x.2.2.2.2.1.2.2.2.1 x.2.2.2.2.1.2.2.2.2.1 x.2.2.2.2.1.2.2.2.2.2.1 x.2.2.2.2.2.1⟩
def L (l0 : T0) : List (LS R) := [L0 l0]
def c : Code := Tryz.f97.body.getD .skip
theorem eq (k : Nat) (x) : (s k).pf x = execF tab (E k) Tryz.f97 c (s k) (L (l0 k)) x := by kernel_rfl
theorem r0 (l0 : T0) (k : Nat) (x) : (L0 (l0_ k l0)).l x = roundOf tab (E k) (L l0) c (fin tab Tryz.f97 (s k)) 0 (L0 l0) x := by kernel_rfl
theorem sound : ∀ k, Sound Tryz.prog 97 (s k) := snd S (fun k => (s k).pf) E (fun k => (EntsOK.cons (spec_l2CopyInst.sound k) (EntsOK.cons (spec_l2Operands.sound k) EntsOK.nil))) (fun k => L (l0 k)) (fun k => ⟨⟨(L0 (l0 (k + 1))).l, rfl, fun x => r0 (l0 k) k x⟩, trivial⟩) eq
end spec_l8Inst
end
end Go.Proofs.YtebgkcjpocfmmaaGreat.V
namespace Go.Proofs.YtebgkcjpocfmmaaGreat.V
open Go
set_option linter.unusedVariables false
noncomputable section
/-! ### spec.l8Term: function 98 -/
namespace spec_l8Term
abbrev R := (((Int × Int × Int × Int × Unit) × Unit) × Unit)
def f (k : Nat) (a0 : tTermD) (a1 : List Int) : Option R := bif decide (a0.1 = 1) then (bif (decide (0 ≤ a0.2.1)) && (decide (a0.2.1 < ((List.length a1 : Nat) : Int))) then (some (((a0.1, List.getD a1 (Int.toNat a0.2.1) 0, a0.2.2.1, a0.2.2.2.1, ()), ()), ())) else none) else (bif decide (a0.1 = 3) then (bif (decide (0 ≤ a0.2.1)) && (decide (a0.2.1 < ((List.length a1 : Nat) : Int))) then (some (((a0.1, List.getD a1 (Int.toNat a0.2.1) 0, a0.2.2.1, a0.2.2.2.1, ()), ()), ())) else none) else (some ((a0, ()), ())))
abbrev S : ShapeParts := ⟨[⟨true, [.int .i64, .int .i64, .int .i64, .int .i64]⟩, ⟨false, [.lst (.int .i64)]⟩], [], false, [⟨true, [.int .i64, .int .i64, .int .i64, .int .i64]⟩], [], []⟩
def s (k : Nat) : FS := S.fs fun x => f k x.1.1 x.1.2.1.1
def E (k : Nat) : Ents := []
def L : List (LS R) := []
def c : Code := Tryz.f98.body.getD .skip
theorem eq (k : Nat) (x) : (s k).pf x = execF tab (E k) Tryz.f98 c (s k) L x := by kernel_rfl
theorem sound : ∀ k, Sound Tryz.prog 98 (s k) := snd S (fun k => (s k).pf) E (fun k => EntsOK.nil) (fun k => L) (fun k => trivial) eq
end spec_l8Term
end
end Go.Proofs.YtebgkcjpocfmmaaGreat.V
namespace Go.Proofs.YtebgkcjpocfmmaaGreat.V
open Go
set_option linter.unusedVariables false
noncomputable section
/-! ### spec.l8Subst: function 44 -/
namespace spec_l8Subst
abbrev R := (((Unit × Int × Unit × Unit) × Unit) × ((List Int) × (List tBlockD) × Unit))
abbrev T0 : Type := (List Int) → Int → tFuncD → Int → (List Int) → (List tBlockD) → Int → (List Int) → (List tBlockD) → Option R
abbrev T1 : Type := (List Int) → Int → Int → tFuncD → Int → (List Int) → (List tBlockD) → Int → (List Int) → (List tBlockD) → Nat → Int → Int → Int → Int → (List tPhiD) → (List tInstD) → Int → Int → Int → Int → Option R
abbrev T2 : Type := (List Int) → Int → Int → Int → tFuncD → Int → (List Int) → (List tBlockD) → Int → (List Int) → (List tBlockD) → Nat → Int → Int → Int → Int → (List tPhiD) → Nat → Int → (List Int) → (List tInstD) → Int → Int → Int → Int → Option R
def l0_ (k : Nat) (l0 : T0) (l1 : T1) (l2 : T2) (l3 : T1) (a0 : List Int) (a1 : Int) (a2 : tFuncD) (a3 : Int) (a4 : List Int) (a5 : List tBlockD) (a6 : Int) (a7 : List Int) (a8 : List tBlockD) : Option R := bif decide (a1 < ((List.length a2.2.2.1 : Nat) : Int)) then (bif (decide (0 ≤ a1)) && (decide (a1 < ((List.length a8 : Nat) : Int))) then (bif (decide (0 ≤ a1)) && (decide (a1 < ((List.length a8 : Nat) : Int))) then (bif decide (Int.toNat a1 = Int.toNat a1) then (l1 a0 a1 0 a2 a3 a4 a5 a6 a7 a8 (Int.toNat a1) ((List.getD a8 (Int.toNat a1) tBlockZ).2.2.1) ((List.getD a8 (Int.toNat a1) tBlockZ).2.2.2.1) ((List.getD a8 (Int.toNat a1) tBlockZ).2.2.2.2.1) ((List.getD a8 (Int.toNat a1) tBlockZ).2.2.2.2.2.1) ((List.getD a8 (Int.toNat a1) tBlockZ).1) ((List.getD a8 (Int.toNat a1) tBlockZ).2.1) ((List.getD a8 (Int.toNat a1) tBlockZ).2.2.1) ((List.getD a8 (Int.toNat a1) tBlockZ).2.2.2.1) ((List.getD a8 (Int.toNat a1) tBlockZ).2.2.2.2.1) ((List.getD a8 (Int.toNat a1) tBlockZ).2.2.2.2.2.1)) else none) else none) else none) else (some ((((), a6, (), ()), ()), (a7, a8, ())))
def l1_ (k : Nat) (l0 : T0) (l1 : T1) (l2 : T2) (l3 : T1) (a0 : List Int) (a1 : Int) (a2 : Int) (a3 : tFuncD) (a4 : Int) (a5 : List Int) (a6 : List tBlockD) (a7 : Int) (a8 : List Int) (a9 : List tBlockD) (a10 : Nat) (a11 : Int) (a12 : Int) (a13 : Int) (a14 : Int) (a15 : List tPhiD) (a16 : List tInstD) (a17 : Int) (a18 : Int) (a19 : Int) (a20 : Int) : Option R := bif decide (a2 < ((List.length a15 : Nat) : Int)) then (bif (decide (0 ≤ a2)) && (decide (a2 < ((List.length a15 : Nat) : Int))) then (l2 a0 a1 a2 0 a3 a4 a5 a6 a7 a8 a9 a10 a11 a12 a13 a14 a15 (Int.toNat a2) ((List.getD a15 (Int.toNat a2) tPhiZ).1) ((List.getD a15 (Int.toNat a2) tPhiZ).2.1) a16 a17 a18 a19 a20) else none) else (l3 a0 a1 0 a3 a4 a5 a6 a7 a8 a9 a10 a11 a12 a13 a14 a15 a16 a17 a18 a19 a20)
def l2_ (k : Nat) (l0 : T0) (l1 : T1) (l2 : T2) (l3 : T1) (a0 : List Int) (a1 : Int) (a2 : Int) (a3 : Int) (a4 : tFuncD) (a5 : Int) (a6 : List Int) (a7 : List tBlockD) (a8 : Int) (a9 : List Int) (a10 : List tBlockD) (a11 : Nat) (a12 : Int) (a13 : Int) (a14 : Int) (a15 : Int) (a16 : List tPhiD) (a17 : Nat) (a18 : Int) (a19 : List Int) (a20 : List tInstD) (a21 : Int) (a22 : Int) (a23 : Int) (a24 : Int) : Option R := bif (decide (0 ≤ a2)) && (decide (a2 < ((List.length a16 : Nat) : Int))) then (bif decide (Int.toNat a2 = a17) then (bif decide (a3 < ((List.length a19 : Nat) : Int)) then (bif (decide (0 ≤ a2)) && (decide (a2 < ((List.length a16 : Nat) : Int))) then (bif decide (Int.toNat a2 = a17) then (bif (decide (0 ≤ a2)) && (decide (a2 < ((List.length a16 : Nat) : Int))) then (bif decide (Int.toNat a2 = a17) then (bif (decide (0 ≤ a3)) && (decide (a3 < ((List.length a19 : Nat) : Int))) then (bif (decide (0 ≤ List.getD a19 (Int.toNat a3) 0)) && (decide (List.getD a19 (Int.toNat a3) 0 < ((List.length a0 : Nat) : Int))) then (bif (decide (0 ≤ a3)) && (decide (a3 < ((List.length a19 : Nat) : Int))) then (l2 a0 a1 a2 (IntKind.wrap .i64 (a3 + 1)) a4 a5 a6 a7 a8 a9 a10 a11 a12 a13 a14 a15 a16 a17 a18 (List.set a19 (Int.toNat a3) (List.getD a0 (Int.toNat (List.getD a19 (Int.toNat a3) 0)) 0)) a20 a21 a22 a23 a24) else none) else none) else none) else none) else none) else none) else none) else (l1 a0 a1 (IntKind.wrap .i64 (a2 + 1)) a4 a5 a6 a7 a8 a9 a10 a11 a12 a13 a14 a15 (List.set a16 a17 (a18, a19, ())) a20 a21 a22 a23 a24)) else none) else none
def l3_ (k : Nat) (l0 : T0) (l1 : T1) (l2 : T2) (l3 : T1) (a0 : List Int) (a1 : Int) (a2 : Int) (a3 : tFuncD) (a4 : Int) (a5 : List Int) (a6 : List tBlockD) (a7 : Int) (a8 : List Int) (a9 : List tBlockD) (a10 : Nat) (a11 : Int) (a12 : Int) (a13 : Int) (a14 : Int) (a15 : List tPhiD) (a16 : List tInstD) (a17 : Int) (a18 : Int) (a19 : Int) (a20 : Int) : Option R := bif decide (a2 < ((List.length a16 : Nat) : Int)) then (bif (decide (0 ≤ a2)) && (decide (a2 < ((List.length a16 : Nat) : Int))) then (bif (decide (0 ≤ a2)) && (decide (a2 < ((List.length a16 : Nat) : Int))) then (bif decide (Int.toNat a2 = Int.toNat a2) then (Option.bind (spec_l8Inst.f k (List.getD a16 (Int.toNat a2) tInstZ) a0) fun r1 => bif (decide (0 ≤ a2)) && (decide (a2 < ((List.length a16 : Nat) : Int))) then (bif decide (Int.toNat a2 = Int.toNat a2) then (l3 a0 a1 (IntKind.wrap .i64 (a2 + 1)) a3 a4 a5 a6 a7 a8 a9 a10 a11 a12 a13 a14 a15 (List.set a16 (Int.toNat a2) (r1.1.1.1, r1.1.1.2.1, r1.1.1.2.2.1, r1.1.1.2.2.2.1, r1.1.1.2.2.2.2.1, r1.1.1.2.2.2.2.2.1, r1.2.1, ())) a17 a18 a19 a20) else none) else none) else none) else none) else none) else (Option.bind (spec_l8Term.f k (a17, (a18, (a19, (a20, ())))) a0) fun r2 => bif (decide (0 ≤ a1)) && (decide (a1 < ((List.length a9 : Nat) : Int))) then (bif decide (Int.toNat a1 = a10) then (l0 a0 (IntKind.wrap .i64 (a1 + 1)) a3 a4 a5 a6 a7 a8 (List.set a9 a10 (a15, a16, r2.1.1.1, r2.1.1.2.1, r2.1.1.2.2.1, r2.1.1.2.2.2.1, ()))) else none) else none)
def all : Nat → (T0) × (T1) × (T2) × (T1) × Unit
  | 0 => (fun _ _ _ _ _ _ _ _ _ => none, fun _ _ _ _ _ _ _ _ _ _ _ _ _ _ _ _ _ _ _ _ _ => none, fun _ _ _ _ _ _ _ _ _ _ _ _ _ _ _ _ _ _ _ _ _ _ _ _ _ => none, fun _ _ _ _ _ _ _ _ _ _ _ _ _ _ _ _ _ _ _ _ _ => none, ())
  | k + 1 => (l0_ k (all k).1 (all k).2.1 (all k).2.2.1 (all k).2.2.2.1, l1_ k (all k).1 (all k).2.1 (all k).2.2.1 (all k).2.2.2.1, l2_ k (all k).1 (all k).2.1 (all k).2.2.1 (all k).2.2.2.1, l3_ k (all k).1 (all k).2.1 (all k).2.2.1 (all k).2.2.2.1, ())
def l0 (k : Nat) : T0 := (all k).1
def l1 (k : Nat) : T1 := (all k).2.1
def l2 (k : Nat) : T2 := (all k).2.2.1
def l3 (k : Nat) : T1 := (all k).2.2.2.1
def f (k : Nat) (a0 : tFuncD) (a1 : List Int) : Option R := Option.bind (spec_l2CopyFunc.f k a0) fun r1 => l0 k a1 0 a0 0 ([] : List Int) ([] : List tBlockD) r1.1.1.2.1 r1.2.1 r1.2.2.1
abbrev S : ShapeParts := ⟨[⟨true, [.lst (.int .i64), .int .i64, .lst tBlock]⟩, ⟨false, [.lst (.int .i64)]⟩], [], false, [⟨true, [.own 100, .int .i64, .own 101]⟩], [(100, .row true (.int .i64)), (101, .row true tBlock)], []⟩
def s (k : Nat) : FS := S.fs fun x => f k x.1.1 x.1.2.1.1
def E (k : Nat) : Ents := [(⟨68, []⟩, spec_l2CopyFunc.s k), (⟨97, []⟩, spec_l8Inst.s k), (⟨98, []⟩, spec_l8Term.s k), (⟨68, [999998, 5, 1, 100006, 6, 2000000]⟩, spec_l2CopyFunc.s k), (⟨68, [999998, 9, 1, 100007, 8, 2000100]⟩, spec_l2CopyFunc.s k), (⟨68, [999998, 8, 2, 100007]⟩, spec_l2CopyFunc.s k), (⟨68, [999998, 16, 1, 100008, 10, 2000200]⟩, spec_l2CopyFunc.s k), (⟨68, [999998, 15, 2, 100008]⟩, spec_l2CopyFunc.s k), (⟨68, [999998, 4, 2, 100006]⟩, spec_l2CopyFunc.s k)]
def L0 (l : T0) : LS R := ⟨[], [(1, ⟨false, [.lst (.int .i64)]⟩), (2, ⟨false, [.ptr 100000 0]⟩), (4, ⟨false, [.ptr 100001 0]⟩), (5, ⟨false, [.ptr 100004 0]⟩), (6, ⟨false, [.int .i64]⟩)], [(100000, .box [.lst (.int .i64), .int .i64, .lst tBlock]), (100001, .box [.own 100002, .int .i64, .own 100003]), (100002, .row true (.int .i64)), (100003, .row true tBlock), (100004, .box [.own 100005, .int .i64, .own 100006]), (100005, .row true (.int .i64)), (100006, .row true tBlock)], fun x => l x.1.1.1 x.1.2.2.2.2.1.1 x.2.1 x.2.2.1.2.1 x.2.2.2.1 x.2.2.2.2.1 x.2.2.2.2.2.1.2.1 x.2.2.2.2.2.2.1 x.2.2.2.2.2.2.2.1⟩
def L1 (l : T1) : LS R := ⟨[], [(1, ⟨false, [.lst (.int .i64)]⟩), (2, ⟨false, [.ptr 100000 0]⟩), (4, ⟨false, [.ptr 100001 0]⟩), (5, ⟨false, [.ptr 100004 0]⟩), (6, ⟨false, [.int .i64]⟩), (7, ⟨false, [.ptr 100009 0]⟩), (8, ⟨false, [.int .i64]⟩)], [(100000, .box [.lst (.int .i64), .int .i64, .lst tBlock]), (100001, .box [.own 100002, .int .i64, .own 100003]), (100002, .row true (.int .i64)), (100003, .row true tBlock), (100004, .box [.own 100005, .int .i64, .own 100006]), (100005, .row true (.int .i64)), (100006, .orow tBlock [.own 100007, .own 100008, .int .i64, .int .i64, .int .i64, .int .i64]), (100007, .row true tPhi), (100008, .row true tInst), (100009, .box [.own 100007, .own 100008, .int .i64, .int .i64, .int .i64, .int .i64])], fun x => l x.1.1.1 x.1.2.2.2.2.1.1 x.1.2.2.2.2.2.2.1.1 x.2.1 x.2.2.1.2.1 x.2.2.2.1 x.2.2.2.2.1 x.2.2.2.2.2.1.2.1 x.2.2.2.2.2.2.1 x.2.2.2.2.2.2.2.1.1.1 x.2.2.2.2.2.2.2.1.1.2 x.2.2.2.2.2.2.2.1.2.2.2.1 x.2.2.2.2.2.2.2.1.2.2.2.2.1 x.2.2.2.2.2.2.2.1.2.2.2.2.2.1 x.2.2.2.2.2.2.2.1.2.2.2.2.2.2.1 x.2.2.2.2.2.2.2.2.1 x.2.2.2.2.2.2.2.2.2.1 x.2.2.2.2.2.2.2.2.2.2.1.2.2.1 x.2.2.2.2.2.2.2.2.2.2.1.2.2.2.1 x.2.2.2.2.2.2.2.2.2.2.1.2.2.2.2.1 x.2.2.2.2.2.2.2.2.2.2.1.2.2.2.2.2.1⟩
def L2 (l : T2) : LS R := ⟨[], [(1, ⟨false, [.lst (.int .i64)]⟩), (2, ⟨false, [.ptr 100000 0]⟩), (4, ⟨false, [.ptr 100001 0]⟩), (5, ⟨false, [.ptr 100004 0]⟩), (6, ⟨false, [.int .i64]⟩), (7, ⟨false, [.ptr 100010 0]⟩), (8, ⟨false, [.int .i64]⟩), (9, ⟨false, [.int .i64]⟩)], [(100000, .box [.lst (.int .i64), .int .i64, .lst tBlock]), (100001, .box [.own 100002, .int .i64, .own 100003]), (100002, .row true (.int .i64)), (100003, .row true tBlock), (100004, .box [.own 100005, .int .i64, .own 100006]), (100005, .row true (.int .i64)), (100006, .orow tBlock [.own 100007, .own 100009, .int .i64, .int .i64, .int .i64, .int .i64]), (100007, .orow tPhi [.int .i64, .own 100008]), (100008, .row true (.int .i64)), (100009, .row true tInst), (100010, .box [.own 100007, .own 100009, .int .i64, .int .i64, .int .i64, .int .i64])], fun x => l x.1.1.1 x.1.2.2.2.2.1.1 x.1.2.2.2.2.2.2.1.1 x.1.2.2.2.2.2.2.2.1.1 x.2.1 x.2.2.1.2.1 x.2.2.2.1 x.2.2.2.2.1 x.2.2.2.2.2.1.2.1 x.2.2.2.2.2.2.1 x.2.2.2.2.2.2.2.1.1.1 x.2.2.2.2.2.2.2.1.1.2 x.2.2.2.2.2.2.2.1.2.2.2.1 x.2.2.2.2.2.2.2.1.2.2.2.2.1 x.2.2.2.2.2.2.2.1.2.2.2.2.2.1 x.2.2.2.2.2.2.2.1.2.2.2.2.2.2.1 x.2.2.2.2.2.2.2.2.1.1.1 x.2.2.2.2.2.2.2.2.1.1.2 x.2.2.2.2.2.2.2.2.1.2.1 x.2.2.2.2.2.2.2.2.2.1 x.2.2.2.2.2.2.2.2.2.2.1 x.2.2.2.2.2.2.2.2.2.2.2.1.2.2.1 x.2.2.2.2.2.2.2.2.2.2.2.1.2.2.2.1 x.2.2.2.2.2.2.2.2.2.2.2.1.2.2.2.2.1 x.2.2.2.2.2.2.2.2.2.2.2.1.2.2.2.2.2.1⟩
def L3 (l : T1) : LS R := ⟨[], [(1, ⟨false, [.lst (.int .i64)]⟩), (2, ⟨false, [.ptr 100000 0]⟩), (4, ⟨false, [.ptr 100001 0]⟩), (5, ⟨false, [.ptr 100004 0]⟩), (6, ⟨false, [.int .i64]⟩), (7, ⟨false, [.ptr 100009 0]⟩), (10, ⟨false, [.int .i64]⟩)], [(100000, .box [.lst (.int .i64), .int .i64, .lst tBlock]), (100001, .box [.own 100002, .int .i64, .own 100003]), (100002, .row true (.int .i64)), (100003, .row true tBlock), (100004, .box [.own 100005, .int .i64, .own 100006]), (100005, .row true (.int .i64)), (100006, .orow tBlock [.own 100007, .own 100008, .int .i64, .int .i64, .int .i64, .int .i64]), (100007, .row true tPhi), (100008, .row true tInst), (100009, .box [.own 100007, .own 100008, .int .i64, .int .i64, .int .i64, .int .i64])], fun x => l x.1.1.1 x.1.2.2.2.2.1.1 x.1.2.2.2.2.2.2.1.1 x.2.1 x.2.2.1.2.1 x.2.2.2.1 x.2.2.2.2.1 x.2.2.2.2.2.1.2.1 x.2.2.2.2.2.2.1 x.2.2.2.2.2.2.2.1.1.1 x.2.2.2.2.2.2.2.1.1.2 x.2.2.2.2.2.2.2.1.2.2.2.1 x.2.2.2.2.2.2.2.1.2.2.2.2.1 x.2.2.2.2.2.2.2.1.2.2.2.2.2.1 x.2.2.2.2.2.2.2.1.2.2.2.2.2.2.1 x.2.2.2.2.2.2.2.2.1 x.2.2.2.2.2.2.2.2.2.1 x.2.2.2.2.2.2.2.2.2.2.1.2.2.1 x.2.2.2.2.2.2.2.2.2.2.1.2.2.2.1 x.2.2.2.2.2.2.2.2.2.2.1.2.2.2.2.1 x.2.2.2.2.2.2.2.2.2.2.1.2.2.2.2.2.1⟩
def L (l0 : T0) (l1 : T1) (l2 : T2) (l3 : T1) : List (LS R) := [L0 l0, L1 l1, L2 l2, L3 l3]
def c : Code := Tryz.f44.body.getD .skip
theorem eq (k : Nat) (x) : (s k).pf x = execF tab (E k) Tryz.f44 c (s k) (L (l0 k) (l1 k) (l2 k) (l3 k)) x := by kernel_rfl
theorem r0 (l0 : T0) (l1 : T1) (l2 : T2) (l3 : T1) (k : Nat) (x) : (L0 (l0_ k l0 l1 l2 l3)).l x = roundOf tab (E k) (L l0 l1 l2 l3) c (fin tab Tryz.f44 (s k)) 0 (L0 l0) x := by kernel_rfl
theorem r1 (l0 : T0) (l1 : T1) (l2 : T2) (l3 : T1) (k : Nat) (x) : (L1 (l1_ k l0 l1 l2 l3)).l x = roundOf tab (E k) (L l0 l1 l2 l3) c (fin tab Tryz.f44 (s k)) 1 (L1 l1) x := by kernel_rfl
theorem r2 (l0 : T0) (l1 : T1) (l2 : T2) (l3 : T1) (k : Nat) (x) : (L2 (l2_ k l0 l1 l2 l3)).l x = roundOf tab (E k) (L l0 l1 l2 l3) c (fin tab Tryz.f44 (s k)) 2 (L2 l2) x := by kernel_rfl
theorem r3 (l0 : T0) (l1 : T1) (l2 : T2) (l3 : T1) (k : Nat) (x) : (L3 (l3_ k l0 l1 l2 l3)).l x = roundOf tab (E k) (L l0 l1 l2 l3) c (fin tab Tryz.f44 (s k)) 3 (L3 l3) x := by kernel_rfl
theorem sound : ∀ k, Sound Tryz.prog 44 (s k) := snd S (fun k => (s k).pf) E (fun k => (EntsOK.cons (spec_l2CopyFunc.sound k) (EntsOK.cons (spec_l8Inst.sound k) (EntsOK.cons (spec_l8Term.sound k) (EntsOK.cons (spec_l2CopyFunc.sound k) (EntsOK.cons (spec_l2CopyFunc.sound k) (EntsOK.cons (spec_l2CopyFunc.sound k) (EntsOK.cons (spec_l2CopyFunc.sound k) (EntsOK.cons (spec_l2CopyFunc.sound k) (EntsOK.cons (spec_l2CopyFunc.sound k) EntsOK.nil)))))))))) (fun k => L (l0 k) (l1 k) (l2 k) (l3 k)) (fun k => ⟨⟨(L0 (l0 (k + 1))).l, rfl, fun x => r0 (l0 k) (l1 k) (l2 k) (l3 k) k x⟩, ⟨(L1 (l1 (k + 1))).l, rfl, fun x => r1 (l0 k) (l1 k) (l2 k) (l3 k) k x⟩, ⟨(L2 (l2 (k + 1))).l, rfl, fun x => r2 (l0 k) (l1 k) (l2 k) (l3 k) k x⟩, ⟨(L3 (l3 (k + 1))).l, rfl, fun x => r3 (l0 k) (l1 k) (l2 k) (l3 k) k x⟩, trivial⟩) eq
end spec_l8Subst
end
end Go.Proofs.YtebgkcjpocfmmaaGreat.V
namespace Go.Proofs.YtebgkcjpocfmmaaGreat.V
open Go
set_option linter.unusedVariables false
noncomputable section
/-! ### spec.CopiesGone: function 21 -/
namespace spec_CopiesGone
abbrev R := (((Unit × Unit) × (Bool × Unit) × Unit) × ((List tFuncD) × Unit))
abbrev T0 : Type := Int → (List tFuncD) → (List tFuncD) → (List tFuncD) → Option R
abbrev T1 : Type := Int → Int → (List tFuncD) → (List tFuncD) → (List tFuncD) → tFuncD → (List Int) → Option R
def l0_ (k : Nat) (l0 : T0) (l1 : T1) (a0 : Int) (a1 : List tFuncD) (a2 : List tFuncD) (a3 : List tFuncD) : Option R := bif decide (a0 < ((List.length a1 : Nat) : Int)) then (bif (decide (0 ≤ a0)) && (decide (a0 < ((List.length a1 : Nat) : Int))) then (l1 a0 0 a1 a2 a3 (List.getD a1 (Int.toNat a0) tFuncZ) ([] : List Int)) else none) else (some ((((), ()), (true, ()), ()), (a3, ())))
def l1_ (k : Nat) (l0 : T0) (l1 : T1) (a0 : Int) (a1 : Int) (a2 : List tFuncD) (a3 : List tFuncD) (a4 : List tFuncD) (a5 : tFuncD) (a6 : List Int) : Option R := Option.bind (spec_CountOf.f k a5) fun r1 => bif decide (a1 < r1.1.1.1) then (Option.bind (spec_l10Source.f k a5 a1) fun r2 => bif decide ((List.length a6 + List.length [r2.1.1.1]) * 8 ≤ 140737488355328) then (l1 a0 (IntKind.wrap .i64 (a1 + 1)) a2 a3 a4 a5 (a6 ++ [r2.1.1.1])) else none) else (Option.bind (spec_l8Subst.f k a5 a6) fun r3 => bif decide ((List.length a4 + List.length [((r3.2.1, r3.1.1.2.1, r3.2.2.1, ()) : tFuncD)]) * 56 ≤ 140737488355328) then (l0 (IntKind.wrap .i64 (a0 + 1)) a2 a3 (a4 ++ [((r3.2.1, r3.1.1.2.1, r3.2.2.1, ()) : tFuncD)])) else none)
def all : Nat → (T0) × (T1) × Unit
  | 0 => (fun _ _ _ _ => none, fun _ _ _ _ _ _ _ => none, ())
  | k + 1 => (l0_ k (all k).1 (all k).2.1, l1_ k (all k).1 (all k).2.1, ())
def l0 (k : Nat) : T0 := (all k).1
def l1 (k : Nat) : T1 := (all k).2.1
def f (k : Nat) (a0 : tModuleD) : Option R := Option.bind (spec_Checked.f k (a0.1, ())) fun r1 => bif !decide (r1.1.1.1 = 0) then (some ((((), ()), (false, ()), ()), (([] : List tFuncD), ()))) else (l0 k 0 a0.1 ([] : List tFuncD) ([] : List tFuncD))
abbrev S : ShapeParts := ⟨[⟨true, [.lst tFunc]⟩], [], true, [⟨true, [.own 100]⟩, ⟨false, [.bool]⟩], [(100, .row true tFunc)], []⟩
def s (k : Nat) : FS := S.fs fun x => f k x.1.1
def E (k : Nat) : Ents := [(⟨19, []⟩, spec_Checked.s k), (⟨25, []⟩, spec_CountOf.s k), (⟨43, []⟩, spec_l10Source.s k), (⟨44, []⟩, spec_l8Subst.s k)]
def L0 (l : T0) : LS R := ⟨[], [(1, ⟨false, [.ptr 100000 0]⟩), (2, ⟨false, [.ptr 100001 0]⟩), (4, ⟨false, [.ptr 100003 0]⟩), (5, ⟨false, [.int .i64]⟩)], [(100000, .box [.lst tFunc]), (100001, .box [.own 100002]), (100002, .row true tFunc), (100003, .box [.own 100004]), (100004, .row true tFunc)], fun x => l x.1.2.2.2.1.1 x.2.1.1 x.2.2.2.1 x.2.2.2.2.2.1⟩
def L1 (l : T1) : LS R := ⟨[], [(1, ⟨false, [.ptr 100000 0]⟩), (2, ⟨false, [.ptr 100001 0]⟩), (4, ⟨false, [.ptr 100003 0]⟩), (5, ⟨false, [.int .i64]⟩), (6, ⟨false, [.ptr 100005 0]⟩), (7, ⟨false, [.own 100006]⟩), (8, ⟨false, [.int .i64]⟩)], [(100000, .box [.lst tFunc]), (100001, .box [.own 100002]), (100002, .row true tFunc), (100003, .box [.own 100004]), (100004, .row true tFunc), (100005, .box [.lst (.int .i64), .int .i64, .lst tBlock]), (100006, .row true (.int .i64))], fun x => l x.1.2.2.2.1.1 x.1.2.2.2.2.2.2.1.1 x.2.1.1 x.2.2.2.1 x.2.2.2.2.2.1 x.2.2.2.2.2.2.1 x.2.2.2.2.2.2.2.1⟩
def L (l0 : T0) (l1 : T1) : List (LS R) := [L0 l0, L1 l1]
def c : Code := Tryz.f21.body.getD .skip
theorem eq (k : Nat) (x) : (s k).pf x = execF tab (E k) Tryz.f21 c (s k) (L (l0 k) (l1 k)) x := by kernel_rfl
theorem r0 (l0 : T0) (l1 : T1) (k : Nat) (x) : (L0 (l0_ k l0 l1)).l x = roundOf tab (E k) (L l0 l1) c (fin tab Tryz.f21 (s k)) 0 (L0 l0) x := by kernel_rfl
theorem r1 (l0 : T0) (l1 : T1) (k : Nat) (x) : (L1 (l1_ k l0 l1)).l x = roundOf tab (E k) (L l0 l1) c (fin tab Tryz.f21 (s k)) 1 (L1 l1) x := by kernel_rfl
theorem sound : ∀ k, Sound Tryz.prog 21 (s k) := snd S (fun k => (s k).pf) E (fun k => (EntsOK.cons (spec_Checked.sound k) (EntsOK.cons (spec_CountOf.sound k) (EntsOK.cons (spec_l10Source.sound k) (EntsOK.cons (spec_l8Subst.sound k) EntsOK.nil))))) (fun k => L (l0 k) (l1 k)) (fun k => ⟨⟨(L0 (l0 (k + 1))).l, rfl, fun x => r0 (l0 k) (l1 k) k x⟩, ⟨(L1 (l1 (k + 1))).l, rfl, fun x => r1 (l0 k) (l1 k) k x⟩, trivial⟩) eq
end spec_CopiesGone
end
end Go.Proofs.YtebgkcjpocfmmaaGreat.V
namespace Go.Proofs.YtebgkcjpocfmmaaGreat.V
open Go
set_option linter.unusedVariables false
noncomputable section
/-! ### impl.within: function 41 -/
namespace impl_within
abbrev R := (((Bool × Unit) × Unit) × Unit)
def f (k : Nat) (a0 : Int) (a1 : Int) (a2 : Int) : Option R := bif decide (a1 ≤ a0) then (some (((decide (a0 ≤ a2), ()), ()), ())) else (some (((false, ()), ()), ()))
abbrev S : ShapeParts := ⟨[⟨false, [.int .i64]⟩, ⟨false, [.int .i64]⟩, ⟨false, [.int .i64]⟩], [], false, [⟨false, [.bool]⟩], [], []⟩
def s (k : Nat) : FS := S.fs fun x => f k x.1.1.1 x.1.2.1.1 x.1.2.2.1.1
def E (k : Nat) : Ents := []
def L : List (LS R) := []
def c : Code := Tryz.f41.body.getD .skip
theorem eq (k : Nat) (x) : (s k).pf x = execF tab (E k) Tryz.f41 c (s k) L x := by kernel_rfl
theorem sound : ∀ k, Sound Tryz.prog 41 (s k) := snd S (fun k => (s k).pf) E (fun k => EntsOK.nil) (fun k => L) (fun k => trivial) eq
end impl_within
end
end Go.Proofs.YtebgkcjpocfmmaaGreat.V
namespace Go.Proofs.YtebgkcjpocfmmaaGreat.V
open Go
set_option linter.unusedVariables false
noncomputable section
/-! ### impl.WidthOk: function 134 -/
namespace impl_WidthOk
abbrev R := (((Bool × Unit) × Unit) × Unit)
def f (k : Nat) (a0 : Int) : Option R := bif decide (a0 = 1) then (some (((true, ()), ()), ())) else (bif decide (a0 = 8) then (some (((true, ()), ()), ())) else (bif decide (a0 = 16) then (some (((true, ()), ()), ())) else (some (((decide (a0 = 32), ()), ()), ()))))
abbrev S : ShapeParts := ⟨[⟨false, [.int .i64]⟩], [], false, [⟨false, [.bool]⟩], [], []⟩
def s (k : Nat) : FS := S.fs fun x => f k x.1.1.1
def E (k : Nat) : Ents := []
def L : List (LS R) := []
def c : Code := Tryz.f134.body.getD .skip
theorem eq (k : Nat) (x) : (s k).pf x = execF tab (E k) Tryz.f134 c (s k) L x := by kernel_rfl
theorem sound : ∀ k, Sound Tryz.prog 134 (s k) := snd S (fun k => (s k).pf) E (fun k => EntsOK.nil) (fun k => L) (fun k => trivial) eq
end impl_WidthOk
end
end Go.Proofs.YtebgkcjpocfmmaaGreat.V
namespace Go.Proofs.YtebgkcjpocfmmaaGreat.V
open Go
set_option linter.unusedVariables false
noncomputable section
/-! ### impl.isFunc$1: function 149 -/
namespace impl_isFunc_1
abbrev R := (((Bool × Unit) × Unit) × Unit)
def f (k : Nat) (a0 : Int) : Option R := Option.bind (impl_WidthOk.f k a0) fun r1 => some (((!r1.1.1.1, ()), ()), ())
abbrev S : ShapeParts := ⟨[⟨false, [.int .i64]⟩], [], false, [⟨false, [.bool]⟩], [], []⟩
def s (k : Nat) : FS := S.fs fun x => f k x.1.1.1
def E (k : Nat) : Ents := [(⟨134, []⟩, impl_WidthOk.s k)]
def L : List (LS R) := []
def c : Code := Tryz.f149.body.getD .skip
theorem eq (k : Nat) (x) : (s k).pf x = execF tab (E k) Tryz.f149 c (s k) L x := by kernel_rfl
theorem sound : ∀ k, Sound Tryz.prog 149 (s k) := snd S (fun k => (s k).pf) E (fun k => (EntsOK.cons (impl_WidthOk.sound k) EntsOK.nil)) (fun k => L) (fun k => trivial) eq
end impl_isFunc_1
end
end Go.Proofs.YtebgkcjpocfmmaaGreat.V
namespace Go.Proofs.YtebgkcjpocfmmaaGreat.V
open Go
set_option linter.unusedVariables false
noncomputable section
/-! ### slices.IndexFunc[[]int64,int64]: function 183 -/
namespace slices_IndexFunc_int64_int64
abbrev R := (((Int × Unit) × Unit) × Unit)
abbrev T0 : Type := (List Int) → Int → Int → Option R
def l0_ (k : Nat) (l0 : T0) (a0 : List Int) (a1 : Int) (a2 : Int) : Option R := bif decide (a2 < a1) then (bif (decide (0 ≤ a2)) && (decide (a2 < ((List.length a0 : Nat) : Int))) then (Option.bind (impl_isFunc_1.f k (List.getD a0 (Int.toNat a2) 0)) fun r1 => bif r1.1.1.1 then (some (((a2, ()), ()), ())) else (l0 a0 a1 (IntKind.wrap .i64 (a2 + 1)))) else none) else (some (((-1, ()), ()), ()))
def all : Nat → (T0) × Unit
  | 0 => (fun _ _ _ => none, ())
  | k + 1 => (l0_ k (all k).1, ())
def l0 (k : Nat) : T0 := (all k).1
def f (k : Nat) (a0 : List Int) : Option R := l0 k a0 ((List.length a0 : Nat) : Int) 0
abbrev S : ShapeParts := ⟨[⟨false, [.lst (.int .i64)]⟩, ⟨false, [.fn 149 []]⟩], [], false, [⟨false, [.int .i64]⟩], [], []⟩
def s (k : Nat) : FS := S.fs fun x => f k x.1.1.1
def E (k : Nat) : Ents := [(⟨149, []⟩, impl_isFunc_1.s k)]
def L0 (l : T0) : LS R := ⟨[], [(0, ⟨false, [.lst (.int .i64)]⟩), (1, ⟨false, [.fn 149 []]⟩), (7, ⟨false, [.int .i64]⟩), (8, ⟨false, [.int .i64]⟩)], [], fun x => l x.1.1.1 x.1.2.2.1.1 x.1.2.2.2.1.1⟩
def L (l0 : T0) : List (LS R) := [L0 l0]
def c : Code := Tryz.f183.body.getD .skip
theorem eq (k : Nat) (x) : (s k).pf x = execF tab (E k) Tryz.f183 c (s k) (L (l0 k)) x := by kernel_rfl
theorem r0 (l0 : T0) (k : Nat) (x) : (L0 (l0_ k l0)).l x = roundOf tab (E k) (L l0) c (fin tab Tryz.f183 (s k)) 0 (L0 l0) x := by kernel_rfl
theorem sound : ∀ k, Sound Tryz.prog 183 (s k) := snd S (fun k => (s k).pf) E (fun k => (EntsOK.cons (impl_isFunc_1.sound k) EntsOK.nil)) (fun k => L (l0 k)) (fun k => ⟨⟨(L0 (l0 (k + 1))).l, rfl, fun x => r0 (l0 k) k x⟩, trivial⟩) eq
end slices_IndexFunc_int64_int64
end
end Go.Proofs.YtebgkcjpocfmmaaGreat.V
namespace Go.Proofs.YtebgkcjpocfmmaaGreat.V
open Go
set_option linter.unusedVariables false
noncomputable section
/-! ### slices.ContainsFunc[[]int64,int64]: function 148 -/
namespace slices_ContainsFunc_int64_int64
abbrev R := (((Bool × Unit) × Unit) × Unit)
def f (k : Nat) (a0 : List Int) : Option R := Option.bind (slices_IndexFunc_int64_int64.f k a0) fun r1 => some (((decide (0 ≤ r1.1.1.1), ()), ()), ())
abbrev S : ShapeParts := ⟨[⟨false, [.lst (.int .i64)]⟩, ⟨false, [.fn 149 []]⟩], [], false, [⟨false, [.bool]⟩], [], []⟩
def s (k : Nat) : FS := S.fs fun x => f k x.1.1.1
def E (k : Nat) : Ents := [(⟨183, [149]⟩, slices_IndexFunc_int64_int64.s k)]
def L : List (LS R) := []
def c : Code := Tryz.f148.body.getD .skip
theorem eq (k : Nat) (x) : (s k).pf x = execF tab (E k) Tryz.f148 c (s k) L x := by kernel_rfl
theorem sound : ∀ k, Sound Tryz.prog 148 (s k) := snd S (fun k => (s k).pf) E (fun k => (EntsOK.cons (slices_IndexFunc_int64_int64.sound k) EntsOK.nil)) (fun k => L) (fun k => trivial) eq
end slices_ContainsFunc_int64_int64
end
end Go.Proofs.YtebgkcjpocfmmaaGreat.V
namespace Go.Proofs.YtebgkcjpocfmmaaGreat.V
open Go
set_option linter.unusedVariables false
noncomputable section
/-! ### impl.CountOf: function 111 -/
namespace impl_CountOf
abbrev R := (((Int × Unit) × Unit) × Unit)
abbrev T0 : Type := Int → (List tBlockD) → Int → Int → Option R
def l0_ (k : Nat) (l0 : T0) (a0 : Int) (a1 : List tBlockD) (a2 : Int) (a3 : Int) : Option R := bif decide (a3 < a2) then (bif (decide (0 ≤ a3)) && (decide (a3 < ((List.length a1 : Nat) : Int))) then (l0 (IntKind.wrap .i64 (a0 + (IntKind.wrap .i64 (((List.length ((List.getD a1 (Int.toNat a3) tBlockZ).1) : Nat) : Int) + ((List.length ((List.getD a1 (Int.toNat a3) tBlockZ).2.1) : Nat) : Int))))) a1 a2 (IntKind.wrap .i64 (a3 + 1))) else none) else (some (((a0, ()), ()), ()))
def all : Nat → (T0) × Unit
  | 0 => (fun _ _ _ _ => none, ())
  | k + 1 => (l0_ k (all k).1, ())
def l0 (k : Nat) : T0 := (all k).1
def f (k : Nat) (a0 : tFuncD) : Option R := l0 k ((List.length a0.1 : Nat) : Int) a0.2.2.1 ((List.length a0.2.2.1 : Nat) : Int) 0
abbrev S : ShapeParts := ⟨[⟨true, [.lst (.int .i64), .int .i64, .lst tBlock]⟩], [], false, [⟨false, [.int .i64]⟩], [], []⟩
def s (k : Nat) : FS := S.fs fun x => f k x.1.1
def E (k : Nat) : Ents := []
def L0 (l : T0) : LS R := ⟨[], [(3, ⟨false, [.int .i64]⟩), (10, ⟨false, [.lst tBlock]⟩), (11, ⟨false, [.int .i64]⟩), (12, ⟨false, [.int .i64]⟩)], [], fun x => l x.1.1.1 x.1.2.1.1 x.1.2.2.1.1 x.1.2.2.2.1.1⟩
def L (l0 : T0) : List (LS R) := [L0 l0]
def c : Code := Tryz.f111.body.getD .skip
theorem eq (k : Nat) (x) : (s k).pf x = execF tab (E k) Tryz.f111 c (s k) (L (l0 k)) x := by kernel_rfl
theorem r0 (l0 : T0) (k : Nat) (x) : (L0 (l0_ k l0)).l x = roundOf tab (E k) (L l0) c (fin tab Tryz.f111 (s k)) 0 (L0 l0) x := by kernel_rfl
theorem sound : ∀ k, Sound Tryz.prog 111 (s k) := snd S (fun k => (s k).pf) E (fun k => EntsOK.nil) (fun k => L (l0 k)) (fun k => ⟨⟨(L0 (l0 (k + 1))).l, rfl, fun x => r0 (l0 k) k x⟩, trivial⟩) eq
end impl_CountOf
end
end Go.Proofs.YtebgkcjpocfmmaaGreat.V
namespace Go.Proofs.YtebgkcjpocfmmaaGreat.V
open Go
set_option linter.unusedVariables false
noncomputable section
/-! ### impl.isFunc$2$1: function 152 -/
namespace impl_isFunc_2_1
abbrev R := (((Bool × Unit) × Unit) × Unit)
def f (k : Nat) (a0 : Int) (a1 : Int) : Option R := Option.bind (impl_within.f k a0 0 (IntKind.wrap .i64 (a1 - 1))) fun r1 => some (((!r1.1.1.1, ()), ()), ())
abbrev S : ShapeParts := ⟨[⟨false, [.int .i64]⟩, ⟨false, [.ptr 0 0]⟩], [(0, .cbox [.int .i64])], false, [⟨false, [.bool]⟩], [], []⟩
def s (k : Nat) : FS := S.fs fun x => f k x.1.1.1 x.2.1.1
def E (k : Nat) : Ents := [(⟨41, []⟩, impl_within.s k)]
def L : List (LS R) := []
def c : Code := Tryz.f152.body.getD .skip
theorem eq (k : Nat) (x) : (s k).pf x = execF tab (E k) Tryz.f152 c (s k) L x := by kernel_rfl
theorem sound : ∀ k, Sound Tryz.prog 152 (s k) := snd S (fun k => (s k).pf) E (fun k => (EntsOK.cons (impl_within.sound k) EntsOK.nil)) (fun k => L) (fun k => trivial) eq
end impl_isFunc_2_1
end
end Go.Proofs.YtebgkcjpocfmmaaGreat.V
namespace Go.Proofs.YtebgkcjpocfmmaaGreat.V
open Go
set_option linter.unusedVariables false
noncomputable section
/-! ### slices.IndexFunc[[]int64,int64]: function 183 -/
namespace slices_IndexFunc_int64_int64_2
abbrev R := (((Int × Unit) × Unit) × Unit)
abbrev T0 : Type := (List Int) → Int → Int → Int → Option R
def l0_ (k : Nat) (l0 : T0) (a0 : List Int) (a1 : Int) (a2 : Int) (a3 : Int) : Option R := bif decide (a2 < a1) then (bif (decide (0 ≤ a2)) && (decide (a2 < ((List.length a0 : Nat) : Int))) then (Option.bind (impl_isFunc_2_1.f k (List.getD a0 (Int.toNat a2) 0) a3) fun r1 => bif r1.1.1.1 then (some (((a2, ()), ()), ())) else (l0 a0 a1 (IntKind.wrap .i64 (a2 + 1)) a3)) else none) else (some (((-1, ()), ()), ()))
def all : Nat → (T0) × Unit
  | 0 => (fun _ _ _ _ => none, ())
  | k + 1 => (l0_ k (all k).1, ())
def l0 (k : Nat) : T0 := (all k).1
def f (k : Nat) (a0 : List Int) (a1 : Int) : Option R := l0 k a0 ((List.length a0 : Nat) : Int) 0 a1
abbrev S : ShapeParts := ⟨[⟨false, [.lst (.int .i64)]⟩, ⟨false, [.fn 152 [(0, 0)]]⟩], [(0, .cbox [.int .i64])], false, [⟨false, [.int .i64]⟩], [], []⟩
def s (k : Nat) : FS := S.fs fun x => f k x.1.1.1 x.2.1.1
def E (k : Nat) : Ents := [(⟨152, []⟩, impl_isFunc_2_1.s k)]
def L0 (l : T0) : LS R := ⟨[], [(0, ⟨false, [.lst (.int .i64)]⟩), (1, ⟨false, [.fn 152 [(0, 0)]]⟩), (7, ⟨false, [.int .i64]⟩), (8, ⟨false, [.int .i64]⟩)], [(0, .cbox [.int .i64])], fun x => l x.1.1.1 x.1.2.2.1.1 x.1.2.2.2.1.1 x.2.1.1⟩
def L (l0 : T0) : List (LS R) := [L0 l0]
def c : Code := Tryz.f183.body.getD .skip
theorem eq (k : Nat) (x) : (s k).pf x = execF tab (E k) Tryz.f183 c (s k) (L (l0 k)) x := by kernel_rfl
theorem r0 (l0 : T0) (k : Nat) (x) : (L0 (l0_ k l0)).l x = roundOf tab (E k) (L l0) c (fin tab Tryz.f183 (s k)) 0 (L0 l0) x := by kernel_rfl
theorem sound : ∀ k, Sound Tryz.prog 183 (s k) := snd S (fun k => (s k).pf) E (fun k => (EntsOK.cons (impl_isFunc_2_1.sound k) EntsOK.nil)) (fun k => L (l0 k)) (fun k => ⟨⟨(L0 (l0 (k + 1))).l, rfl, fun x => r0 (l0 k) k x⟩, trivial⟩) eq
end slices_IndexFunc_int64_int64_2
end
end Go.Proofs.YtebgkcjpocfmmaaGreat.V
namespace Go.Proofs.YtebgkcjpocfmmaaGreat.V
open Go
set_option linter.unusedVariables false
noncomputable section
/-! ### slices.ContainsFunc[[]int64,int64]: function 148 -/
namespace slices_ContainsFunc_int64_int64_2
abbrev R := (((Bool × Unit) × Unit) × Unit)
def f (k : Nat) (a0 : List Int) (a1 : Int) : Option R := Option.bind (slices_IndexFunc_int64_int64_2.f k a0 a1) fun r1 => some (((decide (0 ≤ r1.1.1.1), ()), ()), ())
abbrev S : ShapeParts := ⟨[⟨false, [.lst (.int .i64)]⟩, ⟨false, [.fn 152 [(0, 0)]]⟩], [(0, .cbox [.int .i64])], false, [⟨false, [.bool]⟩], [], []⟩
def s (k : Nat) : FS := S.fs fun x => f k x.1.1.1 x.2.1.1
def E (k : Nat) : Ents := [(⟨183, [152]⟩, slices_IndexFunc_int64_int64_2.s k)]
def L : List (LS R) := []
def c : Code := Tryz.f148.body.getD .skip
theorem eq (k : Nat) (x) : (s k).pf x = execF tab (E k) Tryz.f148 c (s k) L x := by kernel_rfl
theorem sound : ∀ k, Sound Tryz.prog 148 (s k) := snd S (fun k => (s k).pf) E (fun k => (EntsOK.cons (slices_IndexFunc_int64_int64_2.sound k) EntsOK.nil)) (fun k => L) (fun k => trivial) eq
end slices_ContainsFunc_int64_int64_2
end
end Go.Proofs.YtebgkcjpocfmmaaGreat.V
namespace Go.Proofs.YtebgkcjpocfmmaaGreat.V
open Go
set_option linter.unusedVariables false
noncomputable section
/-! ### impl.isFunc$2: function 151 -/
namespace impl_isFunc_2
abbrev R := (((Bool × Unit) × Unit) × Unit)
def f (k : Nat) (a0 : tPhiD) (a1 : Int) : Option R := Option.bind (impl_WidthOk.f k a0.1) fun r1 => bif !r1.1.1.1 then (some (((true, ()), ()), ())) else (bif decide (10 < ((List.length a0.2.1 : Nat) : Int)) then (some (((true, ()), ()), ())) else (Option.bind (slices_ContainsFunc_int64_int64_2.f k a0.2.1 a1) fun r2 => some (((r2.1.1.1, ()), ()), ())))
abbrev S : ShapeParts := ⟨[⟨true, [.int .i64, .lst (.int .i64)]⟩, ⟨false, [.ptr 0 0]⟩], [(0, .cbox [.int .i64])], false, [⟨false, [.bool]⟩], [], []⟩
def s (k : Nat) : FS := S.fs fun x => f k x.1.1 x.2.1.1
def E (k : Nat) : Ents := [(⟨134, []⟩, impl_WidthOk.s k), (⟨148, [152]⟩, slices_ContainsFunc_int64_int64_2.s k)]
def L : List (LS R) := []
def c : Code := Tryz.f151.body.getD .skip
theorem eq (k : Nat) (x) : (s k).pf x = execF tab (E k) Tryz.f151 c (s k) L x := by kernel_rfl
theorem sound : ∀ k, Sound Tryz.prog 151 (s k) := snd S (fun k => (s k).pf) E (fun k => (EntsOK.cons (impl_WidthOk.sound k) (EntsOK.cons (slices_ContainsFunc_int64_int64_2.sound k) EntsOK.nil))) (fun k => L) (fun k => trivial) eq
end impl_isFunc_2
end
end Go.Proofs.YtebgkcjpocfmmaaGreat.V
namespace Go.Proofs.YtebgkcjpocfmmaaGreat.V
open Go
set_option linter.unusedVariables false
noncomputable section
/-! ### slices.IndexFunc[[]impl.Phi,impl.Phi]: function 184 -/
namespace slices_IndexFunc_impl_Phi_impl_Phi
abbrev R := (((Int × Unit) × Unit) × Unit)
abbrev T0 : Type := (List tPhiD) → Int → Int → Int → Option R
def l0_ (k : Nat) (l0 : T0) (a0 : List tPhiD) (a1 : Int) (a2 : Int) (a3 : Int) : Option R := bif decide (a2 < a1) then (bif (decide (0 ≤ a2)) && (decide (a2 < ((List.length a0 : Nat) : Int))) then (Option.bind (impl_isFunc_2.f k (List.getD a0 (Int.toNat a2) tPhiZ) a3) fun r1 => bif r1.1.1.1 then (some (((a2, ()), ()), ())) else (l0 a0 a1 (IntKind.wrap .i64 (a2 + 1)) a3)) else none) else (some (((-1, ()), ()), ()))
def all : Nat → (T0) × Unit
  | 0 => (fun _ _ _ _ => none, ())
  | k + 1 => (l0_ k (all k).1, ())
def l0 (k : Nat) : T0 := (all k).1
def f (k : Nat) (a0 : List tPhiD) (a1 : Int) : Option R := l0 k a0 ((List.length a0 : Nat) : Int) 0 a1
abbrev S : ShapeParts := ⟨[⟨false, [.lst tPhi]⟩, ⟨false, [.fn 151 [(0, 0)]]⟩], [(0, .cbox [.int .i64])], false, [⟨false, [.int .i64]⟩], [], []⟩
def s (k : Nat) : FS := S.fs fun x => f k x.1.1.1 x.2.1.1
def E (k : Nat) : Ents := [(⟨151, []⟩, impl_isFunc_2.s k)]
def L0 (l : T0) : LS R := ⟨[], [(0, ⟨false, [.lst tPhi]⟩), (1, ⟨false, [.fn 151 [(0, 0)]]⟩), (7, ⟨false, [.int .i64]⟩), (8, ⟨false, [.int .i64]⟩)], [(0, .cbox [.int .i64])], fun x => l x.1.1.1 x.1.2.2.1.1 x.1.2.2.2.1.1 x.2.1.1⟩
def L (l0 : T0) : List (LS R) := [L0 l0]
def c : Code := Tryz.f184.body.getD .skip
theorem eq (k : Nat) (x) : (s k).pf x = execF tab (E k) Tryz.f184 c (s k) (L (l0 k)) x := by kernel_rfl
theorem r0 (l0 : T0) (k : Nat) (x) : (L0 (l0_ k l0)).l x = roundOf tab (E k) (L l0) c (fin tab Tryz.f184 (s k)) 0 (L0 l0) x := by kernel_rfl
theorem sound : ∀ k, Sound Tryz.prog 184 (s k) := snd S (fun k => (s k).pf) E (fun k => (EntsOK.cons (impl_isFunc_2.sound k) EntsOK.nil)) (fun k => L (l0 k)) (fun k => ⟨⟨(L0 (l0 (k + 1))).l, rfl, fun x => r0 (l0 k) k x⟩, trivial⟩) eq
end slices_IndexFunc_impl_Phi_impl_Phi
end
end Go.Proofs.YtebgkcjpocfmmaaGreat.V
namespace Go.Proofs.YtebgkcjpocfmmaaGreat.V
open Go
set_option linter.unusedVariables false
noncomputable section
/-! ### slices.ContainsFunc[[]impl.Phi,impl.Phi]: function 150 -/
namespace slices_ContainsFunc_impl_Phi_impl_Phi
abbrev R := (((Bool × Unit) × Unit) × Unit)
def f (k : Nat) (a0 : List tPhiD) (a1 : Int) : Option R := Option.bind (slices_IndexFunc_impl_Phi_impl_Phi.f k a0 a1) fun r1 => some (((decide (0 ≤ r1.1.1.1), ()), ()), ())
abbrev S : ShapeParts := ⟨[⟨false, [.lst tPhi]⟩, ⟨false, [.fn 151 [(0, 0)]]⟩], [(0, .cbox [.int .i64])], false, [⟨false, [.bool]⟩], [], []⟩
def s (k : Nat) : FS := S.fs fun x => f k x.1.1.1 x.2.1.1
def E (k : Nat) : Ents := [(⟨184, [151]⟩, slices_IndexFunc_impl_Phi_impl_Phi.s k)]
def L : List (LS R) := []
def c : Code := Tryz.f150.body.getD .skip
theorem eq (k : Nat) (x) : (s k).pf x = execF tab (E k) Tryz.f150 c (s k) L x := by kernel_rfl
theorem sound : ∀ k, Sound Tryz.prog 150 (s k) := snd S (fun k => (s k).pf) E (fun k => (EntsOK.cons (slices_IndexFunc_impl_Phi_impl_Phi.sound k) EntsOK.nil)) (fun k => L) (fun k => trivial) eq
end slices_ContainsFunc_impl_Phi_impl_Phi
end
end Go.Proofs.YtebgkcjpocfmmaaGreat.V
namespace Go.Proofs.YtebgkcjpocfmmaaGreat.V
open Go
set_option linter.unusedVariables false
noncomputable section
/-! ### impl.isBinary: function 71 -/
namespace impl_isBinary
abbrev R := (((Bool × Unit) × Unit) × Unit)
def f (k : Nat) (a0 : Int) : Option R := Option.bind (impl_within.f k a0 1 17) fun r1 => some (((r1.1.1.1, ()), ()), ())
abbrev S : ShapeParts := ⟨[⟨false, [.int .i64]⟩], [], false, [⟨false, [.bool]⟩], [], []⟩
def s (k : Nat) : FS := S.fs fun x => f k x.1.1.1
def E (k : Nat) : Ents := [(⟨41, []⟩, impl_within.s k)]
def L : List (LS R) := []
def c : Code := Tryz.f71.body.getD .skip
theorem eq (k : Nat) (x) : (s k).pf x = execF tab (E k) Tryz.f71 c (s k) L x := by kernel_rfl
theorem sound : ∀ k, Sound Tryz.prog 71 (s k) := snd S (fun k => (s k).pf) E (fun k => (EntsOK.cons (impl_within.sound k) EntsOK.nil)) (fun k => L) (fun k => trivial) eq
end impl_isBinary
end
end Go.Proofs.YtebgkcjpocfmmaaGreat.V
namespace Go.Proofs.YtebgkcjpocfmmaaGreat.V
open Go
set_option linter.unusedVariables false
noncomputable section
/-! ### impl.isCast: function 73 -/
namespace impl_isCast
abbrev R := (((Bool × Unit) × Unit) × Unit)
def f (k : Nat) (a0 : Int) : Option R := Option.bind (impl_within.f k a0 18 20) fun r1 => some (((r1.1.1.1, ()), ()), ())
abbrev S : ShapeParts := ⟨[⟨false, [.int .i64]⟩], [], false, [⟨false, [.bool]⟩], [], []⟩
def s (k : Nat) : FS := S.fs fun x => f k x.1.1.1
def E (k : Nat) : Ents := [(⟨41, []⟩, impl_within.s k)]
def L : List (LS R) := []
def c : Code := Tryz.f73.body.getD .skip
theorem eq (k : Nat) (x) : (s k).pf x = execF tab (E k) Tryz.f73 c (s k) L x := by kernel_rfl
theorem sound : ∀ k, Sound Tryz.prog 73 (s k) := snd S (fun k => (s k).pf) E (fun k => (EntsOK.cons (impl_within.sound k) EntsOK.nil)) (fun k => L) (fun k => trivial) eq
end impl_isCast
end
end Go.Proofs.YtebgkcjpocfmmaaGreat.V
namespace Go.Proofs.YtebgkcjpocfmmaaGreat.V
open Go
set_option linter.unusedVariables false
noncomputable section
/-! ### impl.OperandsOf: function 164 -/
namespace impl_OperandsOf
abbrev R := (((Unit × Unit) × Unit) × ((List Int) × Unit))
def f (k : Nat) (a0 : tInstD) : Option R := Option.bind (impl_isBinary.f k a0.1) fun r1 => bif r1.1.1.1 then (some ((((), ()), ()), ([a0.2.2.1, a0.2.2.2.1], ()))) else (bif decide (a0.1 = 24) then (some ((((), ()), ()), ([a0.2.2.1, a0.2.2.2.1], ()))) else (Option.bind (impl_isCast.f k a0.1) fun r2 => bif r2.1.1.1 then (some ((((), ()), ()), ([a0.2.2.1], ()))) else (bif decide (a0.1 = 23) then (some ((((), ()), ()), ([a0.2.2.1], ()))) else (bif decide (a0.1 = 25) then (some ((((), ()), ()), ([a0.2.2.1], ()))) else (bif decide (a0.1 = 27) then (some ((((), ()), ()), ([a0.2.2.1], ()))) else (bif decide (a0.1 = 22) then (some ((((), ()), ()), ([a0.2.2.1, a0.2.2.2.1, a0.2.2.2.2.1], ()))) else (bif decide (a0.1 = 26) then (Option.bind (slices_Clone_int64_int64.f k a0.2.2.2.2.2.2.1) fun r3 => some ((((), ()), ()), (r3.2.1, ()))) else (some ((((), ()), ()), (([] : List Int), ()))))))))))
abbrev S : ShapeParts := ⟨[⟨true, [.int .i64, .int .i64, .int .i64, .int .i64, .int .i64, .int .i64, .lst (.int .i64)]⟩], [], false, [⟨false, [.own 100]⟩], [(100, .row true (.int .i64))], []⟩
def s (k : Nat) : FS := S.fs fun x => f k x.1.1
def E (k : Nat) : Ents := [(⟨71, []⟩, impl_isBinary.s k), (⟨73, []⟩, impl_isCast.s k), (⟨166, []⟩, slices_Clone_int64_int64.s k)]
def L : List (LS R) := []
def c : Code := Tryz.f164.body.getD .skip
theorem eq (k : Nat) (x) : (s k).pf x = execF tab (E k) Tryz.f164 c (s k) L x := by kernel_rfl
theorem sound : ∀ k, Sound Tryz.prog 164 (s k) := snd S (fun k => (s k).pf) E (fun k => (EntsOK.cons (impl_isBinary.sound k) (EntsOK.cons (impl_isCast.sound k) (EntsOK.cons (slices_Clone_int64_int64.sound k) EntsOK.nil)))) (fun k => L) (fun k => trivial) eq
end impl_OperandsOf
end
end Go.Proofs.YtebgkcjpocfmmaaGreat.V
namespace Go.Proofs.YtebgkcjpocfmmaaGreat.V
open Go
set_option linter.unusedVariables false
noncomputable section
/-! ### impl.isInst$1: function 185 -/
namespace impl_isInst_1
abbrev R := (((Bool × Unit) × Unit) × Unit)
def f (k : Nat) (a0 : Int) (a1 : Int) : Option R := Option.bind (impl_within.f k a0 0 (IntKind.wrap .i64 (a1 - 1))) fun r1 => some (((!r1.1.1.1, ()), ()), ())
abbrev S : ShapeParts := ⟨[⟨false, [.int .i64]⟩, ⟨false, [.ptr 0 0]⟩], [(0, .cbox [.int .i64])], false, [⟨false, [.bool]⟩], [], []⟩
def s (k : Nat) : FS := S.fs fun x => f k x.1.1.1 x.2.1.1
def E (k : Nat) : Ents := [(⟨41, []⟩, impl_within.s k)]
def L : List (LS R) := []
def c : Code := Tryz.f185.body.getD .skip
theorem eq (k : Nat) (x) : (s k).pf x = execF tab (E k) Tryz.f185 c (s k) L x := by kernel_rfl
theorem sound : ∀ k, Sound Tryz.prog 185 (s k) := snd S (fun k => (s k).pf) E (fun k => (EntsOK.cons (impl_within.sound k) EntsOK.nil)) (fun k => L) (fun k => trivial) eq
end impl_isInst_1
end
end Go.Proofs.YtebgkcjpocfmmaaGreat.V
namespace Go.Proofs.YtebgkcjpocfmmaaGreat.V
open Go
set_option linter.unusedVariables false
noncomputable section
/-! ### slices.IndexFunc[[]int64,int64]: function 183 -/
namespace slices_IndexFunc_int64_int64_3
abbrev R := (((Int × Unit) × Unit) × Unit)
abbrev T0 : Type := (List Int) → Int → Int → Int → Option R
def l0_ (k : Nat) (l0 : T0) (a0 : List Int) (a1 : Int) (a2 : Int) (a3 : Int) : Option R := bif decide (a2 < a1) then (bif (decide (0 ≤ a2)) && (decide (a2 < ((List.length a0 : Nat) : Int))) then (Option.bind (impl_isInst_1.f k (List.getD a0 (Int.toNat a2) 0) a3) fun r1 => bif r1.1.1.1 then (some (((a2, ()), ()), ())) else (l0 a0 a1 (IntKind.wrap .i64 (a2 + 1)) a3)) else none) else (some (((-1, ()), ()), ()))
def all : Nat → (T0) × Unit
  | 0 => (fun _ _ _ _ => none, ())
  | k + 1 => (l0_ k (all k).1, ())
def l0 (k : Nat) : T0 := (all k).1
def f (k : Nat) (a0 : List Int) (a1 : Int) : Option R := l0 k a0 ((List.length a0 : Nat) : Int) 0 a1
abbrev S : ShapeParts := ⟨[⟨false, [.lst (.int .i64)]⟩, ⟨false, [.fn 185 [(0, 0)]]⟩], [(0, .cbox [.int .i64])], false, [⟨false, [.int .i64]⟩], [], []⟩
def s (k : Nat) : FS := S.fs fun x => f k x.1.1.1 x.2.1.1
def E (k : Nat) : Ents := [(⟨185, []⟩, impl_isInst_1.s k)]
def L0 (l : T0) : LS R := ⟨[], [(0, ⟨false, [.lst (.int .i64)]⟩), (1, ⟨false, [.fn 185 [(0, 0)]]⟩), (7, ⟨false, [.int .i64]⟩), (8, ⟨false, [.int .i64]⟩)], [(0, .cbox [.int .i64])], fun x => l x.1.1.1 x.1.2.2.1.1 x.1.2.2.2.1.1 x.2.1.1⟩
def L (l0 : T0) : List (LS R) := [L0 l0]
def c : Code := Tryz.f183.body.getD .skip
theorem eq (k : Nat) (x) : (s k).pf x = execF tab (E k) Tryz.f183 c (s k) (L (l0 k)) x := by kernel_rfl
theorem r0 (l0 : T0) (k : Nat) (x) : (L0 (l0_ k l0)).l x = roundOf tab (E k) (L l0) c (fin tab Tryz.f183 (s k)) 0 (L0 l0) x := by kernel_rfl
theorem sound : ∀ k, Sound Tryz.prog 183 (s k) := snd S (fun k => (s k).pf) E (fun k => (EntsOK.cons (impl_isInst_1.sound k) EntsOK.nil)) (fun k => L (l0 k)) (fun k => ⟨⟨(L0 (l0 (k + 1))).l, rfl, fun x => r0 (l0 k) k x⟩, trivial⟩) eq
end slices_IndexFunc_int64_int64_3
end
end Go.Proofs.YtebgkcjpocfmmaaGreat.V
namespace Go.Proofs.YtebgkcjpocfmmaaGreat.V
open Go
set_option linter.unusedVariables false
noncomputable section
/-! ### slices.ContainsFunc[[]int64,int64]: function 148 -/
namespace slices_ContainsFunc_int64_int64_3
abbrev R := (((Bool × Unit) × Unit) × Unit)
def f (k : Nat) (a0 : List Int) (a1 : Int) : Option R := Option.bind (slices_IndexFunc_int64_int64_3.f k a0 a1) fun r1 => some (((decide (0 ≤ r1.1.1.1), ()), ()), ())
abbrev S : ShapeParts := ⟨[⟨false, [.lst (.int .i64)]⟩, ⟨false, [.fn 185 [(0, 0)]]⟩], [(0, .cbox [.int .i64])], false, [⟨false, [.bool]⟩], [], []⟩
def s (k : Nat) : FS := S.fs fun x => f k x.1.1.1 x.2.1.1
def E (k : Nat) : Ents := [(⟨183, [185]⟩, slices_IndexFunc_int64_int64_3.s k)]
def L : List (LS R) := []
def c : Code := Tryz.f148.body.getD .skip
theorem eq (k : Nat) (x) : (s k).pf x = execF tab (E k) Tryz.f148 c (s k) L x := by kernel_rfl
theorem sound : ∀ k, Sound Tryz.prog 148 (s k) := snd S (fun k => (s k).pf) E (fun k => (EntsOK.cons (slices_IndexFunc_int64_int64_3.sound k) EntsOK.nil)) (fun k => L) (fun k => trivial) eq
end slices_ContainsFunc_int64_int64_3
end
end Go.Proofs.YtebgkcjpocfmmaaGreat.V
namespace Go.Proofs.YtebgkcjpocfmmaaGreat.V
open Go
set_option linter.unusedVariables false
noncomputable section
/-! ### impl.isInst$2: function 186 -/
namespace impl_isInst_2
abbrev R := (((Bool × Unit) × Unit) × Unit)
def f (k : Nat) (a0 : Int) : Option R := some (((!decide (a0 = 0), ()), ()), ())
abbrev S : ShapeParts := ⟨[⟨false, [.int .i64]⟩], [], false, [⟨false, [.bool]⟩], [], []⟩
def s (k : Nat) : FS := S.fs fun x => f k x.1.1.1
def E (k : Nat) : Ents := []
def L : List (LS R) := []
def c : Code := Tryz.f186.body.getD .skip
theorem eq (k : Nat) (x) : (s k).pf x = execF tab (E k) Tryz.f186 c (s k) L x := by kernel_rfl
theorem sound : ∀ k, Sound Tryz.prog 186 (s k) := snd S (fun k => (s k).pf) E (fun k => EntsOK.nil) (fun k => L) (fun k => trivial) eq
end impl_isInst_2
end
end Go.Proofs.YtebgkcjpocfmmaaGreat.V
namespace Go.Proofs.YtebgkcjpocfmmaaGreat.V
open Go
set_option linter.unusedVariables false
noncomputable section
/-! ### slices.IndexFunc[[]int64,int64]: function 183 -/
namespace slices_IndexFunc_int64_int64_4
abbrev R := (((Int × Unit) × Unit) × Unit)
abbrev T0 : Type := (List Int) → Int → Int → Option R
def l0_ (k : Nat) (l0 : T0) (a0 : List Int) (a1 : Int) (a2 : Int) : Option R := bif decide (a2 < a1) then (bif (decide (0 ≤ a2)) && (decide (a2 < ((List.length a0 : Nat) : Int))) then (Option.bind (impl_isInst_2.f k (List.getD a0 (Int.toNat a2) 0)) fun r1 => bif r1.1.1.1 then (some (((a2, ()), ()), ())) else (l0 a0 a1 (IntKind.wrap .i64 (a2 + 1)))) else none) else (some (((-1, ()), ()), ()))
def all : Nat → (T0) × Unit
  | 0 => (fun _ _ _ => none, ())
  | k + 1 => (l0_ k (all k).1, ())
def l0 (k : Nat) : T0 := (all k).1
def f (k : Nat) (a0 : List Int) : Option R := l0 k a0 ((List.length a0 : Nat) : Int) 0
abbrev S : ShapeParts := ⟨[⟨false, [.lst (.int .i64)]⟩, ⟨false, [.fn 186 []]⟩], [], false, [⟨false, [.int .i64]⟩], [], []⟩
def s (k : Nat) : FS := S.fs fun x => f k x.1.1.1
def E (k : Nat) : Ents := [(⟨186, []⟩, impl_isInst_2.s k)]
def L0 (l : T0) : LS R := ⟨[], [(0, ⟨false, [.lst (.int .i64)]⟩), (1, ⟨false, [.fn 186 []]⟩), (7, ⟨false, [.int .i64]⟩), (8, ⟨false, [.int .i64]⟩)], [], fun x => l x.1.1.1 x.1.2.2.1.1 x.1.2.2.2.1.1⟩
def L (l0 : T0) : List (LS R) := [L0 l0]
def c : Code := Tryz.f183.body.getD .skip
theorem eq (k : Nat) (x) : (s k).pf x = execF tab (E k) Tryz.f183 c (s k) (L (l0 k)) x := by kernel_rfl
theorem r0 (l0 : T0) (k : Nat) (x) : (L0 (l0_ k l0)).l x = roundOf tab (E k) (L l0) c (fin tab Tryz.f183 (s k)) 0 (L0 l0) x := by kernel_rfl
theorem sound : ∀ k, Sound Tryz.prog 183 (s k) := snd S (fun k => (s k).pf) E (fun k => (EntsOK.cons (impl_isInst_2.sound k) EntsOK.nil)) (fun k => L (l0 k)) (fun k => ⟨⟨(L0 (l0 (k + 1))).l, rfl, fun x => r0 (l0 k) k x⟩, trivial⟩) eq
end slices_IndexFunc_int64_int64_4
end
end Go.Proofs.YtebgkcjpocfmmaaGreat.V
namespace Go.Proofs.YtebgkcjpocfmmaaGreat.V
open Go
set_option linter.unusedVariables false
noncomputable section
/-! ### slices.ContainsFunc[[]int64,int64]: function 148 -/
namespace slices_ContainsFunc_int64_int64_4
abbrev R := (((Bool × Unit) × Unit) × Unit)
def f (k : Nat) (a0 : List Int) : Option R := Option.bind (slices_IndexFunc_int64_int64_4.f k a0) fun r1 => some (((decide (0 ≤ r1.1.1.1), ()), ()), ())
abbrev S : ShapeParts := ⟨[⟨false, [.lst (.int .i64)]⟩, ⟨false, [.fn 186 []]⟩], [], false, [⟨false, [.bool]⟩], [], []⟩
def s (k : Nat) : FS := S.fs fun x => f k x.1.1.1
def E (k : Nat) : Ents := [(⟨183, [186]⟩, slices_IndexFunc_int64_int64_4.s k)]
def L : List (LS R) := []
def c : Code := Tryz.f148.body.getD .skip
theorem eq (k : Nat) (x) : (s k).pf x = execF tab (E k) Tryz.f148 c (s k) L x := by kernel_rfl
theorem sound : ∀ k, Sound Tryz.prog 148 (s k) := snd S (fun k => (s k).pf) E (fun k => (EntsOK.cons (slices_IndexFunc_int64_int64_4.sound k) EntsOK.nil)) (fun k => L) (fun k => trivial) eq
end slices_ContainsFunc_int64_int64_4
end
end Go.Proofs.YtebgkcjpocfmmaaGreat.V
namespace Go.Proofs.YtebgkcjpocfmmaaGreat.V
open Go
set_option linter.unusedVariables false
noncomputable section
/-! ### impl.isWidth: function 187 -/
namespace impl_isWidth
abbrev R := (((Bool × Unit) × Unit) × Unit)
def f (k : Nat) (a0 : tInstD) : Option R := bif decide (a0.1 = 24) then (bif decide (a0.1 = 24) then (some (((decide (a0.2.1 = 0), ()), ()), ())) else (bif decide (a0.1 = 23) then (some (((decide (a0.2.1 = 8), ()), ()), ())) else (Option.bind (impl_WidthOk.f k a0.2.1) fun r1 => some (((r1.1.1.1, ()), ()), ())))) else (bif decide (a0.1 = 25) then (some (((decide (a0.2.1 = 0), ()), ()), ())) else (bif decide (a0.1 = 23) then (some (((decide (a0.2.1 = 8), ()), ()), ())) else (Option.bind (impl_WidthOk.f k a0.2.1) fun r2 => some (((r2.1.1.1, ()), ()), ()))))
abbrev S : ShapeParts := ⟨[⟨true, [.int .i64, .int .i64, .int .i64, .int .i64, .int .i64, .int .i64, .lst (.int .i64)]⟩], [], false, [⟨false, [.bool]⟩], [], []⟩
def s (k : Nat) : FS := S.fs fun x => f k x.1.1
def E (k : Nat) : Ents := [(⟨134, []⟩, impl_WidthOk.s k)]
def L : List (LS R) := []
def c : Code := Tryz.f187.body.getD .skip
theorem eq (k : Nat) (x) : (s k).pf x = execF tab (E k) Tryz.f187 c (s k) L x := by kernel_rfl
theorem sound : ∀ k, Sound Tryz.prog 187 (s k) := snd S (fun k => (s k).pf) E (fun k => (EntsOK.cons (impl_WidthOk.sound k) EntsOK.nil)) (fun k => L) (fun k => trivial) eq
end impl_isWidth
end
end Go.Proofs.YtebgkcjpocfmmaaGreat.V
namespace Go.Proofs.YtebgkcjpocfmmaaGreat.V
open Go
set_option linter.unusedVariables false
noncomputable section
/-! ### impl.mask: function 139 -/
namespace impl_mask
abbrev R := (((Int × Unit) × Unit) × Unit)
def f (k : Nat) (a0 : Int) : Option R := bif decide (0 ≤ a0) then (some (((IntKind.wrap .i64 ((V.shl .i64 1 a0) - 1), ()), ()), ())) else none
abbrev S : ShapeParts := ⟨[⟨false, [.int .i64]⟩], [], false, [⟨false, [.int .i64]⟩], [], []⟩
def s (k : Nat) : FS := S.fs fun x => f k x.1.1.1
def E (k : Nat) : Ents := []
def L : List (LS R) := []
def c : Code := Tryz.f139.body.getD .skip
theorem eq (k : Nat) (x) : (s k).pf x = execF tab (E k) Tryz.f139 c (s k) L x := by kernel_rfl
theorem sound : ∀ k, Sound Tryz.prog 139 (s k) := snd S (fun k => (s k).pf) E (fun k => EntsOK.nil) (fun k => L) (fun k => trivial) eq
end impl_mask
end
end Go.Proofs.YtebgkcjpocfmmaaGreat.V
namespace Go.Proofs.YtebgkcjpocfmmaaGreat.V
open Go
set_option linter.unusedVariables false
noncomputable section
/-! ### impl.isValue: function 78 -/
namespace impl_isValue
abbrev R := (((Bool × Unit) × Unit) × Unit)
def f (k : Nat) (a0 : Int) (a1 : Int) : Option R := Option.bind (impl_WidthOk.f k a0) fun r1 => bif r1.1.1.1 then (Option.bind (impl_mask.f k a0) fun r2 => Option.bind (impl_within.f k a1 0 r2.1.1.1) fun r3 => some (((r3.1.1.1, ()), ()), ())) else (some (((false, ()), ()), ()))
abbrev S : ShapeParts := ⟨[⟨false, [.int .i64]⟩, ⟨false, [.int .i64]⟩], [], false, [⟨false, [.bool]⟩], [], []⟩
def s (k : Nat) : FS := S.fs fun x => f k x.1.1.1 x.1.2.1.1
def E (k : Nat) : Ents := [(⟨134, []⟩, impl_WidthOk.s k), (⟨139, []⟩, impl_mask.s k), (⟨41, []⟩, impl_within.s k)]
def L : List (LS R) := []
def c : Code := Tryz.f78.body.getD .skip
theorem eq (k : Nat) (x) : (s k).pf x = execF tab (E k) Tryz.f78 c (s k) L x := by kernel_rfl
theorem sound : ∀ k, Sound Tryz.prog 78 (s k) := snd S (fun k => (s k).pf) E (fun k => (EntsOK.cons (impl_WidthOk.sound k) (EntsOK.cons (impl_mask.sound k) (EntsOK.cons (impl_within.sound k) EntsOK.nil)))) (fun k => L) (fun k => trivial) eq
end impl_isValue
end
end Go.Proofs.YtebgkcjpocfmmaaGreat.V
namespace Go.Proofs.YtebgkcjpocfmmaaGreat.V
open Go
set_option linter.unusedVariables false
noncomputable section
/-! ### impl.isImm: function 188 -/
namespace impl_isImm
abbrev R := (((Bool × Unit) × Unit) × Unit)
def f (k : Nat) (a0 : tInstD) (a1 : Int) : Option R := bif decide (a0.1 = 21) then (Option.bind (impl_isValue.f k a0.2.1 a0.2.2.2.2.2.1) fun r1 => some (((r1.1.1.1, ()), ()), ())) else (bif decide (a0.1 = 26) then (Option.bind (impl_within.f k a0.2.2.2.2.2.1 0 (IntKind.wrap .i64 (a1 - 1))) fun r2 => some (((r2.1.1.1, ()), ()), ())) else (some (((decide (a0.2.2.2.2.2.1 = 0), ()), ()), ())))
abbrev S : ShapeParts := ⟨[⟨true, [.int .i64, .int .i64, .int .i64, .int .i64, .int .i64, .int .i64, .lst (.int .i64)]⟩, ⟨false, [.int .i64]⟩], [], false, [⟨false, [.bool]⟩], [], []⟩
def s (k : Nat) : FS := S.fs fun x => f k x.1.1 x.1.2.1.1
def E (k : Nat) : Ents := [(⟨78, []⟩, impl_isValue.s k), (⟨41, []⟩, impl_within.s k)]
def L : List (LS R) := []
def c : Code := Tryz.f188.body.getD .skip
theorem eq (k : Nat) (x) : (s k).pf x = execF tab (E k) Tryz.f188 c (s k) L x := by kernel_rfl
theorem sound : ∀ k, Sound Tryz.prog 188 (s k) := snd S (fun k => (s k).pf) E (fun k => (EntsOK.cons (impl_isValue.sound k) (EntsOK.cons (impl_within.sound k) EntsOK.nil))) (fun k => L) (fun k => trivial) eq
end impl_isImm
end
end Go.Proofs.YtebgkcjpocfmmaaGreat.V
namespace Go.Proofs.YtebgkcjpocfmmaaGreat.V
open Go
set_option linter.unusedVariables false
noncomputable section
/-! ### impl.isInst: function 154 -/
namespace impl_isInst
abbrev R := (((Bool × Unit) × Unit) × Unit)
def f (k : Nat) (a0 : tInstD) (a1 : Int) (a2 : Int) : Option R := Option.bind (impl_within.f k a0.1 1 27) fun r1 => bif !r1.1.1.1 then (some (((false, ()), ()), ())) else (bif decide (4 < ((List.length a0.2.2.2.2.2.2.1 : Nat) : Int)) then (some (((false, ()), ()), ())) else (bif decide (0 < ((List.length a0.2.2.2.2.2.2.1 : Nat) : Int)) then (bif !decide (a0.1 = 26) then (some (((false, ()), ()), ())) else (Option.bind (impl_OperandsOf.f k a0) fun r2 => Option.bind (slices_ContainsFunc_int64_int64_3.f k r2.2.1 a1) fun r3 => bif r3.1.1.1 then (some (((false, ()), ()), ())) else (bif decide (a0.1 = 26) then (bif (decide (0 ≤ 0)) && (decide (0 ≤ ((List.length [a0.2.2.1, a0.2.2.2.1, a0.2.2.2.2.1] : Nat) : Int))) then (Option.bind (slices_ContainsFunc_int64_int64_4.f k [a0.2.2.1, a0.2.2.2.1, a0.2.2.2.2.1]) fun r4 => bif r4.1.1.1 then (some (((false, ()), ()), ())) else (Option.bind (impl_isWidth.f k a0) fun r5 => bif r5.1.1.1 then (Option.bind (impl_isImm.f k a0 a2) fun r6 => some (((r6.1.1.1, ()), ()), ())) else (some (((false, ()), ()), ())))) else none) else (bif (decide (0 ≤ ((List.length r2.2.1 : Nat) : Int))) && (decide (((List.length r2.2.1 : Nat) : Int) ≤ ((List.length [a0.2.2.1, a0.2.2.2.1, a0.2.2.2.2.1] : Nat) : Int))) then (Option.bind (slices_ContainsFunc_int64_int64_4.f k (List.drop (Int.toNat ((List.length r2.2.1 : Nat) : Int)) [a0.2.2.1, a0.2.2.2.1, a0.2.2.2.2.1])) fun r7 => bif r7.1.1.1 then (some (((false, ()), ()), ())) else (Option.bind (impl_isWidth.f k a0) fun r8 => bif r8.1.1.1 then (Option.bind (impl_isImm.f k a0 a2) fun r9 => some (((r9.1.1.1, ()), ()), ())) else (some (((false, ()), ()), ())))) else none)))) else (Option.bind (impl_OperandsOf.f k a0) fun r10 => Option.bind (slices_ContainsFunc_int64_int64_3.f k r10.2.1 a1) fun r11 => bif r11.1.1.1 then (some (((false, ()), ()), ())) else (bif decide (a0.1 = 26) then (bif (decide (0 ≤ 0)) && (decide (0 ≤ ((List.length [a0.2.2.1, a0.2.2.2.1, a0.2.2.2.2.1] : Nat) : Int))) then (Option.bind (slices_ContainsFunc_int64_int64_4.f k [a0.2.2.1, a0.2.2.2.1, a0.2.2.2.2.1]) fun r12 => bif r12.1.1.1 then (some (((false, ()), ()), ())) else (Option.bind (impl_isWidth.f k a0) fun r13 => bif r13.1.1.1 then (Option.bind (impl_isImm.f k a0 a2) fun r14 => some (((r14.1.1.1, ()), ()), ())) else (some (((false, ()), ()), ())))) else none) else (bif (decide (0 ≤ ((List.length r10.2.1 : Nat) : Int))) && (decide (((List.length r10.2.1 : Nat) : Int) ≤ ((List.length [a0.2.2.1, a0.2.2.2.1, a0.2.2.2.2.1] : Nat) : Int))) then (Option.bind (slices_ContainsFunc_int64_int64_4.f k (List.drop (Int.toNat ((List.length r10.2.1 : Nat) : Int)) [a0.2.2.1, a0.2.2.2.1, a0.2.2.2.2.1])) fun r15 => bif r15.1.1.1 then (some (((false, ()), ()), ())) else (Option.bind (impl_isWidth.f k a0) fun r16 => bif r16.1.1.1 then (Option.bind (impl_isImm.f k a0 a2) fun r17 => some (((r17.1.1.1, ()), ()), ())) else (some (((false, ()), ()), ())))) else none)))))
abbrev S : ShapeParts := ⟨[⟨true, [.int .i64, .int .i64, .int .i64, .int .i64, .int .i64, .int .i64, .lst (.int .i64)]⟩, ⟨false, [.int .i64]⟩, ⟨false, [.int .i64]⟩], [], false, [⟨false, [.bool]⟩], [], []⟩
def s (k : Nat) : FS := S.fs fun x => f k x.1.1 x.1.2.1.1 x.1.2.2.1.1
def E (k : Nat) : Ents := [(⟨41, []⟩, impl_within.s k), (⟨164, []⟩, impl_OperandsOf.s k), (⟨148, [185]⟩, slices_ContainsFunc_int64_int64_3.s k), (⟨148, [186]⟩, slices_ContainsFunc_int64_int64_4.s k), (⟨187, []⟩, impl_isWidth.s k), (⟨188, []⟩, impl_isImm.s k)]
def L : List (LS R) := []
def c : Code := Tryz.f154.body.getD .skip
theorem eq (k : Nat) (x) : (s k).pf x = execF tab (E k) Tryz.f154 c (s k) L x := by kernel_rfl
theorem sound : ∀ k, Sound Tryz.prog 154 (s k) := snd S (fun k => (s k).pf) E (fun k => (EntsOK.cons (impl_within.sound k) (EntsOK.cons (impl_OperandsOf.sound k) (EntsOK.cons (slices_ContainsFunc_int64_int64_3.sound k) (EntsOK.cons (slices_ContainsFunc_int64_int64_4.sound k) (EntsOK.cons (impl_isWidth.sound k) (EntsOK.cons (impl_isImm.sound k) EntsOK.nil))))))) (fun k => L) (fun k => trivial) eq
end impl_isInst
end
end Go.Proofs.YtebgkcjpocfmmaaGreat.V
namespace Go.Proofs.YtebgkcjpocfmmaaGreat.V
open Go
set_option linter.unusedVariables false
noncomputable section
/-! ### impl.isFunc$3: function 153 -/
namespace impl_isFunc_3
abbrev R := (((Bool × Unit) × Unit) × Unit)
def f (k : Nat) (a0 : tInstD) (a1 : Int) (a2 : Int) : Option R := Option.bind (impl_isInst.f k a0 a1 a2) fun r1 => some (((!r1.1.1.1, ()), ()), ())
abbrev S : ShapeParts := ⟨[⟨true, [.int .i64, .int .i64, .int .i64, .int .i64, .int .i64, .int .i64, .lst (.int .i64)]⟩, ⟨false, [.ptr 0 0]⟩, ⟨false, [.ptr 1 0]⟩], [(0, .cbox [.int .i64]), (1, .cbox [.int .i64])], false, [⟨false, [.bool]⟩], [], []⟩
def s (k : Nat) : FS := S.fs fun x => f k x.1.1 x.2.1.1 x.2.2.1.1
def E (k : Nat) : Ents := [(⟨154, []⟩, impl_isInst.s k)]
def L : List (LS R) := []
def c : Code := Tryz.f153.body.getD .skip
theorem eq (k : Nat) (x) : (s k).pf x = execF tab (E k) Tryz.f153 c (s k) L x := by kernel_rfl
theorem sound : ∀ k, Sound Tryz.prog 153 (s k) := snd S (fun k => (s k).pf) E (fun k => (EntsOK.cons (impl_isInst.sound k) EntsOK.nil)) (fun k => L) (fun k => trivial) eq
end impl_isFunc_3
end
end Go.Proofs.YtebgkcjpocfmmaaGreat.V
namespace Go.Proofs.YtebgkcjpocfmmaaGreat.V
open Go
set_option linter.unusedVariables false
noncomputable section
/-! ### slices.IndexFunc[[]impl.Inst,impl.Inst]: function 161 -/
namespace slices_IndexFunc_impl_Inst_impl_Inst
abbrev R := (((Int × Unit) × Unit) × Unit)
abbrev T0 : Type := (List tInstD) → Int → Int → Int → Int → Option R
def l0_ (k : Nat) (l0 : T0) (a0 : List tInstD) (a1 : Int) (a2 : Int) (a3 : Int) (a4 : Int) : Option R := bif decide (a2 < a1) then (bif (decide (0 ≤ a2)) && (decide (a2 < ((List.length a0 : Nat) : Int))) then (Option.bind (impl_isFunc_3.f k (List.getD a0 (Int.toNat a2) tInstZ) a3 a4) fun r1 => bif r1.1.1.1 then (some (((a2, ()), ()), ())) else (l0 a0 a1 (IntKind.wrap .i64 (a2 + 1)) a3 a4)) else none) else (some (((-1, ()), ()), ()))
def all : Nat → (T0) × Unit
  | 0 => (fun _ _ _ _ _ => none, ())
  | k + 1 => (l0_ k (all k).1, ())
def l0 (k : Nat) : T0 := (all k).1
def f (k : Nat) (a0 : List tInstD) (a1 : Int) (a2 : Int) : Option R := l0 k a0 ((List.length a0 : Nat) : Int) 0 a1 a2
abbrev S : ShapeParts := ⟨[⟨false, [.lst tInst]⟩, ⟨false, [.fn 153 [(0, 0), (1, 0)]]⟩], [(0, .cbox [.int .i64]), (1, .cbox [.int .i64])], false, [⟨false, [.int .i64]⟩], [], []⟩
def s (k : Nat) : FS := S.fs fun x => f k x.1.1.1 x.2.1.1 x.2.2.1.1
def E (k : Nat) : Ents := [(⟨153, []⟩, impl_isFunc_3.s k)]
def L0 (l : T0) : LS R := ⟨[], [(0, ⟨false, [.lst tInst]⟩), (1, ⟨false, [.fn 153 [(0, 0), (1, 0)]]⟩), (7, ⟨false, [.int .i64]⟩), (8, ⟨false, [.int .i64]⟩)], [(0, .cbox [.int .i64]), (1, .cbox [.int .i64])], fun x => l x.1.1.1 x.1.2.2.1.1 x.1.2.2.2.1.1 x.2.1.1 x.2.2.1.1⟩
def L (l0 : T0) : List (LS R) := [L0 l0]
def c : Code := Tryz.f161.body.getD .skip
theorem eq (k : Nat) (x) : (s k).pf x = execF tab (E k) Tryz.f161 c (s k) (L (l0 k)) x := by kernel_rfl
theorem r0 (l0 : T0) (k : Nat) (x) : (L0 (l0_ k l0)).l x = roundOf tab (E k) (L l0) c (fin tab Tryz.f161 (s k)) 0 (L0 l0) x := by kernel_rfl
theorem sound : ∀ k, Sound Tryz.prog 161 (s k) := snd S (fun k => (s k).pf) E (fun k => (EntsOK.cons (impl_isFunc_3.sound k) EntsOK.nil)) (fun k => L (l0 k)) (fun k => ⟨⟨(L0 (l0 (k + 1))).l, rfl, fun x => r0 (l0 k) k x⟩, trivial⟩) eq
end slices_IndexFunc_impl_Inst_impl_Inst
end
end Go.Proofs.YtebgkcjpocfmmaaGreat.V
namespace Go.Proofs.YtebgkcjpocfmmaaGreat.V
open Go
set_option linter.unusedVariables false
noncomputable section
/-! ### slices.ContainsFunc[[]impl.Inst,impl.Inst]: function 91 -/
namespace slices_ContainsFunc_impl_Inst_impl_Inst
abbrev R := (((Bool × Unit) × Unit) × Unit)
def f (k : Nat) (a0 : List tInstD) (a1 : Int) (a2 : Int) : Option R := Option.bind (slices_IndexFunc_impl_Inst_impl_Inst.f k a0 a1 a2) fun r1 => some (((decide (0 ≤ r1.1.1.1), ()), ()), ())
abbrev S : ShapeParts := ⟨[⟨false, [.lst tInst]⟩, ⟨false, [.fn 153 [(0, 0), (1, 0)]]⟩], [(0, .cbox [.int .i64]), (1, .cbox [.int .i64])], false, [⟨false, [.bool]⟩], [], []⟩
def s (k : Nat) : FS := S.fs fun x => f k x.1.1.1 x.2.1.1 x.2.2.1.1
def E (k : Nat) : Ents := [(⟨161, [153]⟩, slices_IndexFunc_impl_Inst_impl_Inst.s k)]
def L : List (LS R) := []
def c : Code := Tryz.f91.body.getD .skip
theorem eq (k : Nat) (x) : (s k).pf x = execF tab (E k) Tryz.f91 c (s k) L x := by kernel_rfl
theorem sound : ∀ k, Sound Tryz.prog 91 (s k) := snd S (fun k => (s k).pf) E (fun k => (EntsOK.cons (slices_IndexFunc_impl_Inst_impl_Inst.sound k) EntsOK.nil)) (fun k => L) (fun k => trivial) eq
end slices_ContainsFunc_impl_Inst_impl_Inst
end
end Go.Proofs.YtebgkcjpocfmmaaGreat.V
namespace Go.Proofs.YtebgkcjpocfmmaaGreat.V
open Go
set_option linter.unusedVariables false
noncomputable section
/-! ### impl.isTerm$1: function 189 -/
namespace impl_isTerm_1
abbrev R := (((Bool × Unit) × Unit) × Unit)
def f (k : Nat) (a0 : Int) (a1 : tFuncD) : Option R := Option.bind (impl_within.f k a0 0 (IntKind.wrap .i64 (((List.length a1.2.2.1 : Nat) : Int) - 1))) fun r1 => some (((r1.1.1.1, ()), ()), ())
abbrev S : ShapeParts := ⟨[⟨false, [.int .i64]⟩, ⟨false, [.ptr 0 0]⟩], [(0, .cbox [.lst (.int .i64), .int .i64, .lst tBlock])], false, [⟨false, [.bool]⟩], [], []⟩
def s (k : Nat) : FS := S.fs fun x => f k x.1.1.1 x.2.1
def E (k : Nat) : Ents := [(⟨41, []⟩, impl_within.s k)]
def L : List (LS R) := []
def c : Code := Tryz.f189.body.getD .skip
theorem eq (k : Nat) (x) : (s k).pf x = execF tab (E k) Tryz.f189 c (s k) L x := by kernel_rfl
theorem sound : ∀ k, Sound Tryz.prog 189 (s k) := snd S (fun k => (s k).pf) E (fun k => (EntsOK.cons (impl_within.sound k) EntsOK.nil)) (fun k => L) (fun k => trivial) eq
end impl_isTerm_1
end
end Go.Proofs.YtebgkcjpocfmmaaGreat.V
namespace Go.Proofs.YtebgkcjpocfmmaaGreat.V
open Go
set_option linter.unusedVariables false
noncomputable section
/-! ### impl.isTerm: function 155 -/
namespace impl_isTerm
abbrev R := (((Bool × Unit) × Unit) × Unit)
def f (k : Nat) (a0 : tFuncD) (a1 : tTermD) (a2 : Int) : Option R := bif decide (a1.1 = 1) then (Option.bind (impl_within.f k a1.2.1 0 (IntKind.wrap .i64 (a2 - 1))) fun r1 => bif r1.1.1.1 then (bif decide (a1.2.2.1 = 0) then (some (((decide (a1.2.2.2.1 = 0), ()), ()), ())) else (some (((false, ()), ()), ()))) else (some (((false, ()), ()), ()))) else (bif decide (a1.1 = 2) then (bif decide (a1.2.1 = 0) then (Option.bind (impl_isTerm_1.f k a1.2.2.1 a0) fun r2 => bif r2.1.1.1 then (some (((decide (a1.2.2.2.1 = 0), ()), ()), ())) else (some (((false, ()), ()), ()))) else (some (((false, ()), ()), ()))) else (bif decide (a1.1 = 3) then (Option.bind (impl_within.f k a1.2.1 0 (IntKind.wrap .i64 (a2 - 1))) fun r3 => bif r3.1.1.1 then (Option.bind (impl_isTerm_1.f k a1.2.2.1 a0) fun r4 => bif r4.1.1.1 then (Option.bind (impl_isTerm_1.f k a1.2.2.2.1 a0) fun r5 => bif r5.1.1.1 then (some (((!decide (a1.2.2.1 = a1.2.2.2.1), ()), ()), ())) else (some (((false, ()), ()), ()))) else (some (((false, ()), ()), ()))) else (some (((false, ()), ()), ()))) else (bif decide (a1.1 = 4) then (bif decide (a1.2.1 = 0) then (bif decide (a1.2.2.1 = 0) then (some (((decide (a1.2.2.2.1 = 0), ()), ()), ())) else (some (((false, ()), ()), ()))) else (some (((false, ()), ()), ()))) else (some (((false, ()), ()), ())))))
abbrev S : ShapeParts := ⟨[⟨true, [.lst (.int .i64), .int .i64, .lst tBlock]⟩, ⟨true, [.int .i64, .int .i64, .int .i64, .int .i64]⟩, ⟨false, [.int .i64]⟩], [], false, [⟨false, [.bool]⟩], [], []⟩
def s (k : Nat) : FS := S.fs fun x => f k x.1.1 x.1.2.1 x.1.2.2.1.1
def E (k : Nat) : Ents := [(⟨41, []⟩, impl_within.s k), (⟨189, []⟩, impl_isTerm_1.s k)]
def L : List (LS R) := []
def c : Code := Tryz.f155.body.getD .skip
theorem eq (k : Nat) (x) : (s k).pf x = execF tab (E k) Tryz.f155 c (s k) L x := by kernel_rfl
theorem sound : ∀ k, Sound Tryz.prog 155 (s k) := snd S (fun k => (s k).pf) E (fun k => (EntsOK.cons (impl_within.sound k) (EntsOK.cons (impl_isTerm_1.sound k) EntsOK.nil))) (fun k => L) (fun k => trivial) eq
end impl_isTerm
end
end Go.Proofs.YtebgkcjpocfmmaaGreat.V
namespace Go.Proofs.YtebgkcjpocfmmaaGreat.V
open Go
set_option linter.unusedVariables false
noncomputable section
/-! ### impl.isFunc: function 87 -/
namespace impl_isFunc
abbrev R := (((Bool × Unit) × Unit) × Unit)
abbrev T0 : Type := (List tBlockD) → Int → Int → tFuncD → Int → Int → Option R
def l0_ (k : Nat) (l0 : T0) (a0 : List tBlockD) (a1 : Int) (a2 : Int) (a3 : tFuncD) (a4 : Int) (a5 : Int) : Option R := bif decide (a2 < a1) then (bif (decide (0 ≤ a2)) && (decide (a2 < ((List.length a0 : Nat) : Int))) then (Option.bind (slices_ContainsFunc_impl_Phi_impl_Phi.f k ((List.getD a0 (Int.toNat a2) tBlockZ).1) a5) fun r1 => bif r1.1.1.1 then (some (((false, ()), ()), ())) else (Option.bind (slices_ContainsFunc_impl_Inst_impl_Inst.f k ((List.getD a0 (Int.toNat a2) tBlockZ).2.1) a5 a4) fun r2 => bif r2.1.1.1 then (some (((false, ()), ()), ())) else (Option.bind (impl_isTerm.f k a3 ((List.getD a0 (Int.toNat a2) tBlockZ).2.2) a5) fun r3 => bif !r3.1.1.1 then (some (((false, ()), ()), ())) else (l0 a0 a1 (IntKind.wrap .i64 (a2 + 1)) a3 a4 a5)))) else none) else (some (((true, ()), ()), ()))
def all : Nat → (T0) × Unit
  | 0 => (fun _ _ _ _ _ _ => none, ())
  | k + 1 => (l0_ k (all k).1, ())
def l0 (k : Nat) : T0 := (all k).1
def f (k : Nat) (a0 : tFuncD) (a1 : Int) : Option R := bif decide (4 < ((List.length a0.1 : Nat) : Int)) then (some (((false, ()), ()), ())) else (Option.bind (impl_WidthOk.f k a0.2.1) fun r1 => bif !r1.1.1.1 then (some (((false, ()), ()), ())) else (Option.bind (impl_within.f k ((List.length a0.2.2.1 : Nat) : Int) 1 10) fun r2 => bif !r2.1.1.1 then (some (((false, ()), ()), ())) else (Option.bind (slices_ContainsFunc_int64_int64.f k a0.1) fun r3 => bif r3.1.1.1 then (some (((false, ()), ()), ())) else (Option.bind (impl_CountOf.f k a0) fun r4 => bif decide (60 < r4.1.1.1) then (some (((false, ()), ()), ())) else (l0 k a0.2.2.1 ((List.length a0.2.2.1 : Nat) : Int) 0 a0 a1 r4.1.1.1)))))
abbrev S : ShapeParts := ⟨[⟨true, [.lst (.int .i64), .int .i64, .lst tBlock]⟩, ⟨false, [.int .i64]⟩], [], false, [⟨false, [.bool]⟩], [], []⟩
def s (k : Nat) : FS := S.fs fun x => f k x.1.1 x.1.2.1.1
def E (k : Nat) : Ents := [(⟨134, []⟩, impl_WidthOk.s k), (⟨41, []⟩, impl_within.s k), (⟨148, [149]⟩, slices_ContainsFunc_int64_int64.s k), (⟨111, []⟩, impl_CountOf.s k), (⟨150, [151]⟩, slices_ContainsFunc_impl_Phi_impl_Phi.s k), (⟨91, [153]⟩, slices_ContainsFunc_impl_Inst_impl_Inst.s k), (⟨155, []⟩, impl_isTerm.s k)]
def L0 (l : T0) : LS R := ⟨[], [(2, ⟨false, [.ptr 100000 0]⟩), (3, ⟨false, [.ptr 100001 0]⟩), (5, ⟨false, [.ptr 100002 0]⟩), (35, ⟨false, [.lst tBlock]⟩), (36, ⟨false, [.int .i64]⟩), (37, ⟨false, [.int .i64]⟩)], [(100000, .box [.lst (.int .i64), .int .i64, .lst tBlock]), (100001, .box [.int .i64]), (100002, .box [.int .i64])], fun x => l x.1.2.2.2.1.1 x.1.2.2.2.2.1.1 x.1.2.2.2.2.2.1.1 x.2.1 x.2.2.1.1 x.2.2.2.1.1⟩
def L (l0 : T0) : List (LS R) := [L0 l0]
def c : Code := Tryz.f87.body.getD .skip
theorem eq (k : Nat) (x) : (s k).pf x = execF tab (E k) Tryz.f87 c (s k) (L (l0 k)) x := by kernel_rfl
theorem r0 (l0 : T0) (k : Nat) (x) : (L0 (l0_ k l0)).l x = roundOf tab (E k) (L l0) c (fin tab Tryz.f87 (s k)) 0 (L0 l0) x := by kernel_rfl
theorem sound : ∀ k, Sound Tryz.prog 87 (s k) := snd S (fun k => (s k).pf) E (fun k => (EntsOK.cons (impl_WidthOk.sound k) (EntsOK.cons (impl_within.sound k) (EntsOK.cons (slices_ContainsFunc_int64_int64.sound k) (EntsOK.cons (impl_CountOf.sound k) (EntsOK.cons (slices_ContainsFunc_impl_Phi_impl_Phi.sound k) (EntsOK.cons (slices_ContainsFunc_impl_Inst_impl_Inst.sound k) (EntsOK.cons (impl_isTerm.sound k) EntsOK.nil)))))))) (fun k => L (l0 k)) (fun k => ⟨⟨(L0 (l0 (k + 1))).l, rfl, fun x => r0 (l0 k) k x⟩, trivial⟩) eq
end impl_isFunc
end
end Go.Proofs.YtebgkcjpocfmmaaGreat.V
namespace Go.Proofs.YtebgkcjpocfmmaaGreat.V
open Go
set_option linter.unusedVariables false
noncomputable section
/-! ### impl.ShapeOk$1: function 86 -/
namespace impl_ShapeOk_1
abbrev R := (((Bool × Unit) × Unit) × Unit)
def f (k : Nat) (a0 : tFuncD) (a1 : Int) : Option R := Option.bind (impl_isFunc.f k a0 a1) fun r1 => some (((!r1.1.1.1, ()), ()), ())
abbrev S : ShapeParts := ⟨[⟨true, [.lst (.int .i64), .int .i64, .lst tBlock]⟩, ⟨false, [.ptr 0 0]⟩], [(0, .cbox [.int .i64])], false, [⟨false, [.bool]⟩], [], []⟩
def s (k : Nat) : FS := S.fs fun x => f k x.1.1 x.2.1.1
def E (k : Nat) : Ents := [(⟨87, []⟩, impl_isFunc.s k)]
def L : List (LS R) := []
def c : Code := Tryz.f86.body.getD .skip
theorem eq (k : Nat) (x) : (s k).pf x = execF tab (E k) Tryz.f86 c (s k) L x := by kernel_rfl
theorem sound : ∀ k, Sound Tryz.prog 86 (s k) := snd S (fun k => (s k).pf) E (fun k => (EntsOK.cons (impl_isFunc.sound k) EntsOK.nil)) (fun k => L) (fun k => trivial) eq
end impl_ShapeOk_1
end
end Go.Proofs.YtebgkcjpocfmmaaGreat.V
namespace Go.Proofs.YtebgkcjpocfmmaaGreat.V
open Go
set_option linter.unusedVariables false
noncomputable section
/-! ### slices.IndexFunc[[]impl.Func,impl.Func]: function 147 -/
namespace slices_IndexFunc_impl_Func_impl_Func
abbrev R := (((Int × Unit) × Unit) × Unit)
abbrev T0 : Type := (List tFuncD) → Int → Int → Int → Option R
def l0_ (k : Nat) (l0 : T0) (a0 : List tFuncD) (a1 : Int) (a2 : Int) (a3 : Int) : Option R := bif decide (a2 < a1) then (bif (decide (0 ≤ a2)) && (decide (a2 < ((List.length a0 : Nat) : Int))) then (Option.bind (impl_ShapeOk_1.f k (List.getD a0 (Int.toNat a2) tFuncZ) a3) fun r1 => bif r1.1.1.1 then (some (((a2, ()), ()), ())) else (l0 a0 a1 (IntKind.wrap .i64 (a2 + 1)) a3)) else none) else (some (((-1, ()), ()), ()))
def all : Nat → (T0) × Unit
  | 0 => (fun _ _ _ _ => none, ())
  | k + 1 => (l0_ k (all k).1, ())
def l0 (k : Nat) : T0 := (all k).1
def f (k : Nat) (a0 : List tFuncD) (a1 : Int) : Option R := l0 k a0 ((List.length a0 : Nat) : Int) 0 a1
abbrev S : ShapeParts := ⟨[⟨false, [.lst tFunc]⟩, ⟨false, [.fn 86 [(0, 0)]]⟩], [(0, .cbox [.int .i64])], false, [⟨false, [.int .i64]⟩], [], []⟩
def s (k : Nat) : FS := S.fs fun x => f k x.1.1.1 x.2.1.1
def E (k : Nat) : Ents := [(⟨86, []⟩, impl_ShapeOk_1.s k)]
def L0 (l : T0) : LS R := ⟨[], [(0, ⟨false, [.lst tFunc]⟩), (1, ⟨false, [.fn 86 [(0, 0)]]⟩), (7, ⟨false, [.int .i64]⟩), (8, ⟨false, [.int .i64]⟩)], [(0, .cbox [.int .i64])], fun x => l x.1.1.1 x.1.2.2.1.1 x.1.2.2.2.1.1 x.2.1.1⟩
def L (l0 : T0) : List (LS R) := [L0 l0]
def c : Code := Tryz.f147.body.getD .skip
theorem eq (k : Nat) (x) : (s k).pf x = execF tab (E k) Tryz.f147 c (s k) (L (l0 k)) x := by kernel_rfl
theorem r0 (l0 : T0) (k : Nat) (x) : (L0 (l0_ k l0)).l x = roundOf tab (E k) (L l0) c (fin tab Tryz.f147 (s k)) 0 (L0 l0) x := by kernel_rfl
theorem sound : ∀ k, Sound Tryz.prog 147 (s k) := snd S (fun k => (s k).pf) E (fun k => (EntsOK.cons (impl_ShapeOk_1.sound k) EntsOK.nil)) (fun k => L (l0 k)) (fun k => ⟨⟨(L0 (l0 (k + 1))).l, rfl, fun x => r0 (l0 k) k x⟩, trivial⟩) eq
end slices_IndexFunc_impl_Func_impl_Func
end
end Go.Proofs.YtebgkcjpocfmmaaGreat.V
namespace Go.Proofs.YtebgkcjpocfmmaaGreat.V
open Go
set_option linter.unusedVariables false
noncomputable section
/-! ### slices.ContainsFunc[[]impl.Func,impl.Func]: function 85 -/
namespace slices_ContainsFunc_impl_Func_impl_Func
abbrev R := (((Bool × Unit) × Unit) × Unit)
def f (k : Nat) (a0 : List tFuncD) (a1 : Int) : Option R := Option.bind (slices_IndexFunc_impl_Func_impl_Func.f k a0 a1) fun r1 => some (((decide (0 ≤ r1.1.1.1), ()), ()), ())
abbrev S : ShapeParts := ⟨[⟨false, [.lst tFunc]⟩, ⟨false, [.fn 86 [(0, 0)]]⟩], [(0, .cbox [.int .i64])], false, [⟨false, [.bool]⟩], [], []⟩
def s (k : Nat) : FS := S.fs fun x => f k x.1.1.1 x.2.1.1
def E (k : Nat) : Ents := [(⟨147, [86]⟩, slices_IndexFunc_impl_Func_impl_Func.s k)]
def L : List (LS R) := []
def c : Code := Tryz.f85.body.getD .skip
theorem eq (k : Nat) (x) : (s k).pf x = execF tab (E k) Tryz.f85 c (s k) L x := by kernel_rfl
theorem sound : ∀ k, Sound Tryz.prog 85 (s k) := snd S (fun k => (s k).pf) E (fun k => (EntsOK.cons (slices_IndexFunc_impl_Func_impl_Func.sound k) EntsOK.nil)) (fun k => L) (fun k => trivial) eq
end slices_ContainsFunc_impl_Func_impl_Func
end
end Go.Proofs.YtebgkcjpocfmmaaGreat.V
namespace Go.Proofs.YtebgkcjpocfmmaaGreat.V
open Go
set_option linter.unusedVariables false
noncomputable section
/-! ### impl.ShapeOk: function 40 -/
namespace impl_ShapeOk
abbrev R := (((Bool × Unit) × Unit) × Unit)
def f (k : Nat) (a0 : tModuleD) : Option R := Option.bind (impl_within.f k ((List.length a0.1 : Nat) : Int) 1 3) fun r1 => bif r1.1.1.1 then (Option.bind (slices_ContainsFunc_impl_Func_impl_Func.f k a0.1 ((List.length a0.1 : Nat) : Int)) fun r2 => some (((!r2.1.1.1, ()), ()), ())) else (some (((false, ()), ()), ()))
abbrev S : ShapeParts := ⟨[⟨true, [.lst tFunc]⟩], [], false, [⟨false, [.bool]⟩], [], []⟩
def s (k : Nat) : FS := S.fs fun x => f k x.1.1
def E (k : Nat) : Ents := [(⟨41, []⟩, impl_within.s k), (⟨85, [86]⟩, slices_ContainsFunc_impl_Func_impl_Func.s k)]
def L : List (LS R) := []
def c : Code := Tryz.f40.body.getD .skip
theorem eq (k : Nat) (x) : (s k).pf x = execF tab (E k) Tryz.f40 c (s k) L x := by kernel_rfl
theorem sound : ∀ k, Sound Tryz.prog 40 (s k) := snd S (fun k => (s k).pf) E (fun k => (EntsOK.cons (impl_within.sound k) (EntsOK.cons (slices_ContainsFunc_impl_Func_impl_Func.sound k) EntsOK.nil))) (fun k => L) (fun k => trivial) eq
end impl_ShapeOk
end
end Go.Proofs.YtebgkcjpocfmmaaGreat.V
namespace Go.Proofs.YtebgkcjpocfmmaaGreat.V
open Go
set_option linter.unusedVariables false
noncomputable section
/-! ### impl.leadsTo: function 162 -/
namespace impl_leadsTo
abbrev R := (((Unit × Unit) × Unit) × ((List Int) × Unit))
def f (k : Nat) (a0 : tTermD) : Option R := bif decide (a0.1 = 2) then (some ((((), ()), ()), ([a0.2.2.1], ()))) else (bif decide (a0.1 = 3) then (some ((((), ()), ()), ([a0.2.2.1, a0.2.2.2.1], ()))) else (some ((((), ()), ()), (([] : List Int), ()))))
abbrev S : ShapeParts := ⟨[⟨true, [.int .i64, .int .i64, .int .i64, .int .i64]⟩], [], false, [⟨false, [.own 100]⟩], [(100, .row true (.int .i64))], []⟩
def s (k : Nat) : FS := S.fs fun x => f k x.1.1
def E (k : Nat) : Ents := []
def L : List (LS R) := []
def c : Code := Tryz.f162.body.getD .skip
theorem eq (k : Nat) (x) : (s k).pf x = execF tab (E k) Tryz.f162 c (s k) L x := by kernel_rfl
theorem sound : ∀ k, Sound Tryz.prog 162 (s k) := snd S (fun k => (s k).pf) E (fun k => EntsOK.nil) (fun k => L) (fun k => trivial) eq
end impl_leadsTo
end
end Go.Proofs.YtebgkcjpocfmmaaGreat.V
namespace Go.Proofs.YtebgkcjpocfmmaaGreat.V
open Go
set_option linter.unusedVariables false
noncomputable section
/-! ### slices.Index[[]int64,int64]: function 204 -/
namespace slices_Index_int64_int64
abbrev R := (((Int × Unit) × Unit) × Unit)
abbrev T0 : Type := (List Int) → Int → Int → Int → Option R
def l0_ (k : Nat) (l0 : T0) (a0 : List Int) (a1 : Int) (a2 : Int) (a3 : Int) : Option R := bif decide (a3 < a2) then (bif (decide (0 ≤ a3)) && (decide (a3 < ((List.length a0 : Nat) : Int))) then (bif decide (a1 = List.getD a0 (Int.toNat a3) 0) then (some (((a3, ()), ()), ())) else (l0 a0 a1 a2 (IntKind.wrap .i64 (a3 + 1)))) else none) else (some (((-1, ()), ()), ()))
def all : Nat → (T0) × Unit
  | 0 => (fun _ _ _ _ => none, ())
  | k + 1 => (l0_ k (all k).1, ())
def l0 (k : Nat) : T0 := (all k).1
def f (k : Nat) (a0 : List Int) (a1 : Int) : Option R := l0 k a0 a1 ((List.length a0 : Nat) : Int) 0
abbrev S : ShapeParts := ⟨[⟨false, [.lst (.int .i64)]⟩, ⟨false, [.int .i64]⟩], [], false, [⟨false, [.int .i64]⟩], [], []⟩
def s (k : Nat) : FS := S.fs fun x => f k x.1.1.1 x.1.2.1.1
def E (k : Nat) : Ents := []
def L0 (l : T0) : LS R := ⟨[], [(0, ⟨false, [.lst (.int .i64)]⟩), (1, ⟨false, [.int .i64]⟩), (7, ⟨false, [.int .i64]⟩), (8, ⟨false, [.int .i64]⟩)], [], fun x => l x.1.1.1 x.1.2.1.1 x.1.2.2.1.1 x.1.2.2.2.1.1⟩
def L (l0 : T0) : List (LS R) := [L0 l0]
def c : Code := Tryz.f204.body.getD .skip
theorem eq (k : Nat) (x) : (s k).pf x = execF tab (E k) Tryz.f204 c (s k) (L (l0 k)) x := by kernel_rfl
theorem r0 (l0 : T0) (k : Nat) (x) : (L0 (l0_ k l0)).l x = roundOf tab (E k) (L l0) c (fin tab Tryz.f204 (s k)) 0 (L0 l0) x := by kernel_rfl
theorem sound : ∀ k, Sound Tryz.prog 204 (s k) := snd S (fun k => (s k).pf) E (fun k => EntsOK.nil) (fun k => L (l0 k)) (fun k => ⟨⟨(L0 (l0 (k + 1))).l, rfl, fun x => r0 (l0 k) k x⟩, trivial⟩) eq
end slices_Index_int64_int64
end
end Go.Proofs.YtebgkcjpocfmmaaGreat.V
namespace Go.Proofs.YtebgkcjpocfmmaaGreat.V
open Go
set_option linter.unusedVariables false
noncomputable section
/-! ### slices.Contains[[]int64,int64]: function 179 -/
namespace slices_Contains_int64_int64
abbrev R := (((Bool × Unit) × Unit) × Unit)
def f (k : Nat) (a0 : List Int) (a1 : Int) : Option R := Option.bind (slices_Index_int64_int64.f k a0 a1) fun r1 => some (((decide (0 ≤ r1.1.1.1), ()), ()), ())
abbrev S : ShapeParts := ⟨[⟨false, [.lst (.int .i64)]⟩, ⟨false, [.int .i64]⟩], [], false, [⟨false, [.bool]⟩], [], []⟩
def s (k : Nat) : FS := S.fs fun x => f k x.1.1.1 x.1.2.1.1
def E (k : Nat) : Ents := [(⟨204, []⟩, slices_Index_int64_int64.s k)]
def L : List (LS R) := []
def c : Code := Tryz.f179.body.getD .skip
theorem eq (k : Nat) (x) : (s k).pf x = execF tab (E k) Tryz.f179 c (s k) L x := by kernel_rfl
theorem sound : ∀ k, Sound Tryz.prog 179 (s k) := snd S (fun k => (s k).pf) E (fun k => (EntsOK.cons (slices_Index_int64_int64.sound k) EntsOK.nil)) (fun k => L) (fun k => trivial) eq
end slices_Contains_int64_int64
end
end Go.Proofs.YtebgkcjpocfmmaaGreat.V
namespace Go.Proofs.YtebgkcjpocfmmaaGreat.V
open Go
set_option linter.unusedVariables false
noncomputable section
/-! ### impl.predsOf: function 156 -/
namespace impl_predsOf
abbrev R := (((Unit × Unit) × Unit) × ((List Int) × Unit))
abbrev T0 : Type := Int → (List tBlockD) → Int → Int → (List Int) → Option R
def l0_ (k : Nat) (l0 : T0) (a0 : Int) (a1 : List tBlockD) (a2 : Int) (a3 : Int) (a4 : List Int) : Option R := bif decide (a3 < a2) then (bif (decide (0 ≤ a3)) && (decide (a3 < ((List.length a1 : Nat) : Int))) then (Option.bind (impl_leadsTo.f k ((List.getD a1 (Int.toNat a3) tBlockZ).2.2)) fun r1 => Option.bind (slices_Contains_int64_int64.f k r1.2.1 a0) fun r2 => bif r2.1.1.1 then (bif decide ((List.length a4 + List.length [a3]) * 8 ≤ 140737488355328) then (l0 a0 a1 a2 (IntKind.wrap .i64 (a3 + 1)) (a4 ++ [a3])) else none) else (l0 a0 a1 a2 (IntKind.wrap .i64 (a3 + 1)) a4)) else none) else (some ((((), ()), ()), (a4, ())))
def all : Nat → (T0) × Unit
  | 0 => (fun _ _ _ _ _ => none, ())
  | k + 1 => (l0_ k (all k).1, ())
def l0 (k : Nat) : T0 := (all k).1
def f (k : Nat) (a0 : tFuncD) (a1 : Int) : Option R := l0 k a1 a0.2.2.1 ((List.length a0.2.2.1 : Nat) : Int) 0 ([] : List Int)
abbrev S : ShapeParts := ⟨[⟨true, [.lst (.int .i64), .int .i64, .lst tBlock]⟩, ⟨false, [.int .i64]⟩], [], false, [⟨false, [.own 100]⟩], [(100, .row true (.int .i64))], []⟩
def s (k : Nat) : FS := S.fs fun x => f k x.1.1 x.1.2.1.1
def E (k : Nat) : Ents := [(⟨162, []⟩, impl_leadsTo.s k), (⟨179, []⟩, slices_Contains_int64_int64.s k)]
def L0 (l : T0) : LS R := ⟨[], [(1, ⟨false, [.int .i64]⟩), (5, ⟨false, [.own 100000]⟩), (10, ⟨false, [.lst tBlock]⟩), (11, ⟨false, [.int .i64]⟩), (12, ⟨false, [.int .i64]⟩)], [(100000, .row true (.int .i64))], fun x => l x.1.1.1 x.1.2.2.1.1 x.1.2.2.2.1.1 x.1.2.2.2.2.1.1 x.2.1⟩
def L (l0 : T0) : List (LS R) := [L0 l0]
def c : Code := Tryz.f156.body.getD .skip
theorem eq (k : Nat) (x) : (s k).pf x = execF tab (E k) Tryz.f156 c (s k) (L (l0 k)) x := by kernel_rfl
theorem r0 (l0 : T0) (k : Nat) (x) : (L0 (l0_ k l0)).l x = roundOf tab (E k) (L l0) c (fin tab Tryz.f156 (s k)) 0 (L0 l0) x := by kernel_rfl
theorem sound : ∀ k, Sound Tryz.prog 156 (s k) := snd S (fun k => (s k).pf) E (fun k => (EntsOK.cons (impl_leadsTo.sound k) (EntsOK.cons (slices_Contains_int64_int64.sound k) EntsOK.nil))) (fun k => L (l0 k)) (fun k => ⟨⟨(L0 (l0 (k + 1))).l, rfl, fun x => r0 (l0 k) k x⟩, trivial⟩) eq
end impl_predsOf
end
end Go.Proofs.YtebgkcjpocfmmaaGreat.V
namespace Go.Proofs.YtebgkcjpocfmmaaGreat.V
open Go
set_option linter.unusedVariables false
noncomputable section
/-! ### impl.isEntry: function 88 -/
namespace impl_isEntry
abbrev R := (((Bool × Unit) × Unit) × Unit)
def f (k : Nat) (a0 : tFuncD) : Option R := bif (decide (0 ≤ 0)) && (decide (0 < ((List.length a0.2.2.1 : Nat) : Int))) then (bif decide (((List.length ((List.getD a0.2.2.1 0 tBlockZ).1) : Nat) : Int) = 0) then (Option.bind (impl_predsOf.f k a0 0) fun r1 => some (((decide (((List.length r1.2.1 : Nat) : Int) = 0), ()), ()), ())) else (some (((false, ()), ()), ()))) else none
abbrev S : ShapeParts := ⟨[⟨true, [.lst (.int .i64), .int .i64, .lst tBlock]⟩], [], false, [⟨false, [.bool]⟩], [], []⟩
def s (k : Nat) : FS := S.fs fun x => f k x.1.1
def E (k : Nat) : Ents := [(⟨156, []⟩, impl_predsOf.s k)]
def L : List (LS R) := []
def c : Code := Tryz.f88.body.getD .skip
theorem eq (k : Nat) (x) : (s k).pf x = execF tab (E k) Tryz.f88 c (s k) L x := by kernel_rfl
theorem sound : ∀ k, Sound Tryz.prog 88 (s k) := snd S (fun k => (s k).pf) E (fun k => (EntsOK.cons (impl_predsOf.sound k) EntsOK.nil)) (fun k => L) (fun k => trivial) eq
end impl_isEntry
end
end Go.Proofs.YtebgkcjpocfmmaaGreat.V
namespace Go.Proofs.YtebgkcjpocfmmaaGreat.V
open Go
set_option linter.unusedVariables false
noncomputable section
/-! ### impl.arePhis$1: function 157 -/
namespace impl_arePhis_1
abbrev R := (((Bool × Unit) × Unit) × Unit)
def f (k : Nat) (a0 : tPhiD) (a1 : Int) : Option R := some (((!decide (((List.length a0.2.1 : Nat) : Int) = a1), ()), ()), ())
abbrev S : ShapeParts := ⟨[⟨true, [.int .i64, .lst (.int .i64)]⟩, ⟨false, [.ptr 0 0]⟩], [(0, .cbox [.int .i64])], false, [⟨false, [.bool]⟩], [], []⟩
def s (k : Nat) : FS := S.fs fun x => f k x.1.1 x.2.1.1
def E (k : Nat) : Ents := []
def L : List (LS R) := []
def c : Code := Tryz.f157.body.getD .skip
theorem eq (k : Nat) (x) : (s k).pf x = execF tab (E k) Tryz.f157 c (s k) L x := by kernel_rfl
theorem sound : ∀ k, Sound Tryz.prog 157 (s k) := snd S (fun k => (s k).pf) E (fun k => EntsOK.nil) (fun k => L) (fun k => trivial) eq
end impl_arePhis_1
end
end Go.Proofs.YtebgkcjpocfmmaaGreat.V
namespace Go.Proofs.YtebgkcjpocfmmaaGreat.V
open Go
set_option linter.unusedVariables false
noncomputable section
/-! ### slices.IndexFunc[[]impl.Phi,impl.Phi]: function 184 -/
namespace slices_IndexFunc_impl_Phi_impl_Phi_2
abbrev R := (((Int × Unit) × Unit) × Unit)
abbrev T0 : Type := (List tPhiD) → Int → Int → Int → Option R
def l0_ (k : Nat) (l0 : T0) (a0 : List tPhiD) (a1 : Int) (a2 : Int) (a3 : Int) : Option R := bif decide (a2 < a1) then (bif (decide (0 ≤ a2)) && (decide (a2 < ((List.length a0 : Nat) : Int))) then (Option.bind (impl_arePhis_1.f k (List.getD a0 (Int.toNat a2) tPhiZ) a3) fun r1 => bif r1.1.1.1 then (some (((a2, ()), ()), ())) else (l0 a0 a1 (IntKind.wrap .i64 (a2 + 1)) a3)) else none) else (some (((-1, ()), ()), ()))
def all : Nat → (T0) × Unit
  | 0 => (fun _ _ _ _ => none, ())
  | k + 1 => (l0_ k (all k).1, ())
def l0 (k : Nat) : T0 := (all k).1
def f (k : Nat) (a0 : List tPhiD) (a1 : Int) : Option R := l0 k a0 ((List.length a0 : Nat) : Int) 0 a1
abbrev S : ShapeParts := ⟨[⟨false, [.lst tPhi]⟩, ⟨false, [.fn 157 [(0, 0)]]⟩], [(0, .cbox [.int .i64])], false, [⟨false, [.int .i64]⟩], [], []⟩
def s (k : Nat) : FS := S.fs fun x => f k x.1.1.1 x.2.1.1
def E (k : Nat) : Ents := [(⟨157, []⟩, impl_arePhis_1.s k)]
def L0 (l : T0) : LS R := ⟨[], [(0, ⟨false, [.lst tPhi]⟩), (1, ⟨false, [.fn 157 [(0, 0)]]⟩), (7, ⟨false, [.int .i64]⟩), (8, ⟨false, [.int .i64]⟩)], [(0, .cbox [.int .i64])], fun x => l x.1.1.1 x.1.2.2.1.1 x.1.2.2.2.1.1 x.2.1.1⟩
def L (l0 : T0) : List (LS R) := [L0 l0]
def c : Code := Tryz.f184.body.getD .skip
theorem eq (k : Nat) (x) : (s k).pf x = execF tab (E k) Tryz.f184 c (s k) (L (l0 k)) x := by kernel_rfl
theorem r0 (l0 : T0) (k : Nat) (x) : (L0 (l0_ k l0)).l x = roundOf tab (E k) (L l0) c (fin tab Tryz.f184 (s k)) 0 (L0 l0) x := by kernel_rfl
theorem sound : ∀ k, Sound Tryz.prog 184 (s k) := snd S (fun k => (s k).pf) E (fun k => (EntsOK.cons (impl_arePhis_1.sound k) EntsOK.nil)) (fun k => L (l0 k)) (fun k => ⟨⟨(L0 (l0 (k + 1))).l, rfl, fun x => r0 (l0 k) k x⟩, trivial⟩) eq
end slices_IndexFunc_impl_Phi_impl_Phi_2
end
end Go.Proofs.YtebgkcjpocfmmaaGreat.V
namespace Go.Proofs.YtebgkcjpocfmmaaGreat.V
open Go
set_option linter.unusedVariables false
noncomputable section
/-! ### slices.ContainsFunc[[]impl.Phi,impl.Phi]: function 150 -/
namespace slices_ContainsFunc_impl_Phi_impl_Phi_2
abbrev R := (((Bool × Unit) × Unit) × Unit)
def f (k : Nat) (a0 : List tPhiD) (a1 : Int) : Option R := Option.bind (slices_IndexFunc_impl_Phi_impl_Phi_2.f k a0 a1) fun r1 => some (((decide (0 ≤ r1.1.1.1), ()), ()), ())
abbrev S : ShapeParts := ⟨[⟨false, [.lst tPhi]⟩, ⟨false, [.fn 157 [(0, 0)]]⟩], [(0, .cbox [.int .i64])], false, [⟨false, [.bool]⟩], [], []⟩
def s (k : Nat) : FS := S.fs fun x => f k x.1.1.1 x.2.1.1
def E (k : Nat) : Ents := [(⟨184, [157]⟩, slices_IndexFunc_impl_Phi_impl_Phi_2.s k)]
def L : List (LS R) := []
def c : Code := Tryz.f150.body.getD .skip
theorem eq (k : Nat) (x) : (s k).pf x = execF tab (E k) Tryz.f150 c (s k) L x := by kernel_rfl
theorem sound : ∀ k, Sound Tryz.prog 150 (s k) := snd S (fun k => (s k).pf) E (fun k => (EntsOK.cons (slices_IndexFunc_impl_Phi_impl_Phi_2.sound k) EntsOK.nil)) (fun k => L) (fun k => trivial) eq
end slices_ContainsFunc_impl_Phi_impl_Phi_2
end
end Go.Proofs.YtebgkcjpocfmmaaGreat.V
namespace Go.Proofs.YtebgkcjpocfmmaaGreat.V
open Go
set_option linter.unusedVariables false
noncomputable section
/-! ### impl.arePhis: function 89 -/
namespace impl_arePhis
abbrev R := (((Bool × Unit) × Unit) × Unit)
abbrev T0 : Type := (List tBlockD) → Int → Int → tFuncD → Option R
def l0_ (k : Nat) (l0 : T0) (a0 : List tBlockD) (a1 : Int) (a2 : Int) (a3 : tFuncD) : Option R := bif decide (a2 < a1) then (bif (decide (0 ≤ a2)) && (decide (a2 < ((List.length a0 : Nat) : Int))) then (Option.bind (impl_predsOf.f k a3 a2) fun r1 => Option.bind (slices_ContainsFunc_impl_Phi_impl_Phi_2.f k ((List.getD a0 (Int.toNat a2) tBlockZ).1) ((List.length r1.2.1 : Nat) : Int)) fun r2 => bif r2.1.1.1 then (some (((false, ()), ()), ())) else (l0 a0 a1 (IntKind.wrap .i64 (a2 + 1)) a3)) else none) else (some (((true, ()), ()), ()))
def all : Nat → (T0) × Unit
  | 0 => (fun _ _ _ _ => none, ())
  | k + 1 => (l0_ k (all k).1, ())
def l0 (k : Nat) : T0 := (all k).1
def f (k : Nat) (a0 : tFuncD) : Option R := l0 k a0.2.2.1 ((List.length a0.2.2.1 : Nat) : Int) 0 a0
abbrev S : ShapeParts := ⟨[⟨true, [.lst (.int .i64), .int .i64, .lst tBlock]⟩], [], false, [⟨false, [.bool]⟩], [], []⟩
def s (k : Nat) : FS := S.fs fun x => f k x.1.1
def E (k : Nat) : Ents := [(⟨156, []⟩, impl_predsOf.s k), (⟨150, [157]⟩, slices_ContainsFunc_impl_Phi_impl_Phi_2.s k)]
def L0 (l : T0) : LS R := ⟨[], [(1, ⟨false, [.ptr 100000 0]⟩), (7, ⟨false, [.lst tBlock]⟩), (8, ⟨false, [.int .i64]⟩), (9, ⟨false, [.int .i64]⟩)], [(100000, .box [.lst (.int .i64), .int .i64, .lst tBlock])], fun x => l x.1.2.1.1 x.1.2.2.1.1 x.1.2.2.2.1.1 x.2.1⟩
def L (l0 : T0) : List (LS R) := [L0 l0]
def c : Code := Tryz.f89.body.getD .skip
theorem eq (k : Nat) (x) : (s k).pf x = execF tab (E k) Tryz.f89 c (s k) (L (l0 k)) x := by kernel_rfl
theorem r0 (l0 : T0) (k : Nat) (x) : (L0 (l0_ k l0)).l x = roundOf tab (E k) (L l0) c (fin tab Tryz.f89 (s k)) 0 (L0 l0) x := by kernel_rfl
theorem sound : ∀ k, Sound Tryz.prog 89 (s k) := snd S (fun k => (s k).pf) E (fun k => (EntsOK.cons (impl_predsOf.sound k) (EntsOK.cons (slices_ContainsFunc_impl_Phi_impl_Phi_2.sound k) EntsOK.nil))) (fun k => L (l0 k)) (fun k => ⟨⟨(L0 (l0 (k + 1))).l, rfl, fun x => r0 (l0 k) k x⟩, trivial⟩) eq
end impl_arePhis
end
end Go.Proofs.YtebgkcjpocfmmaaGreat.V
namespace Go.Proofs.YtebgkcjpocfmmaaGreat.V
open Go
set_option linter.unusedVariables false
noncomputable section
/-! ### impl.isId: function 180 -/
namespace impl_isId
abbrev R := (((Bool × Unit) × Unit) × Unit)
def f (k : Nat) (a0 : tFuncD) (a1 : Int) : Option R := Option.bind (impl_CountOf.f k a0) fun r1 => Option.bind (impl_within.f k a1 0 (IntKind.wrap .i64 (r1.1.1.1 - 1))) fun r2 => some (((r2.1.1.1, ()), ()), ())
abbrev S : ShapeParts := ⟨[⟨true, [.lst (.int .i64), .int .i64, .lst tBlock]⟩, ⟨false, [.int .i64]⟩], [], false, [⟨false, [.bool]⟩], [], []⟩
def s (k : Nat) : FS := S.fs fun x => f k x.1.1 x.1.2.1.1
def E (k : Nat) : Ents := [(⟨111, []⟩, impl_CountOf.s k), (⟨41, []⟩, impl_within.s k)]
def L : List (LS R) := []
def c : Code := Tryz.f180.body.getD .skip
theorem eq (k : Nat) (x) : (s k).pf x = execF tab (E k) Tryz.f180 c (s k) L x := by kernel_rfl
theorem sound : ∀ k, Sound Tryz.prog 180 (s k) := snd S (fun k => (s k).pf) E (fun k => (EntsOK.cons (impl_CountOf.sound k) (EntsOK.cons (impl_within.sound k) EntsOK.nil))) (fun k => L) (fun k => trivial) eq
end impl_isId
end
end Go.Proofs.YtebgkcjpocfmmaaGreat.V
namespace Go.Proofs.YtebgkcjpocfmmaaGreat.V
open Go
set_option linter.unusedVariables false
noncomputable section
/-! ### impl.PlaceOf: function 137 -/
namespace impl_PlaceOf
abbrev R := (((Int × Unit) × (Int × Unit) × Unit) × Unit)
abbrev T0 : Type := Int → Int → (List tBlockD) → Int → Int → Option R
def l0_ (k : Nat) (l0 : T0) (a0 : Int) (a1 : Int) (a2 : List tBlockD) (a3 : Int) (a4 : Int) : Option R := bif decide (a4 < a3) then (bif (decide (0 ≤ a4)) && (decide (a4 < ((List.length a2 : Nat) : Int))) then (bif decide (a0 < IntKind.wrap .i64 (a1 + (IntKind.wrap .i64 (((List.length ((List.getD a2 (Int.toNat a4) tBlockZ).1) : Nat) : Int) + ((List.length ((List.getD a2 (Int.toNat a4) tBlockZ).2.1) : Nat) : Int))))) then (some (((a4, ()), (IntKind.wrap .i64 (a0 - a1), ()), ()), ())) else (l0 a0 (IntKind.wrap .i64 (a1 + (IntKind.wrap .i64 (((List.length ((List.getD a2 (Int.toNat a4) tBlockZ).1) : Nat) : Int) + ((List.length ((List.getD a2 (Int.toNat a4) tBlockZ).2.1) : Nat) : Int))))) a2 a3 (IntKind.wrap .i64 (a4 + 1)))) else none) else (some (((-2, ()), (0, ()), ()), ()))
def all : Nat → (T0) × Unit
  | 0 => (fun _ _ _ _ _ => none, ())
  | k + 1 => (l0_ k (all k).1, ())
def l0 (k : Nat) : T0 := (all k).1
def f (k : Nat) (a0 : tFuncD) (a1 : Int) : Option R := Option.bind (impl_isId.f k a0 a1) fun r1 => bif !r1.1.1.1 then (some (((-2, ()), (0, ()), ()), ())) else (bif decide (a1 < ((List.length a0.1 : Nat) : Int)) then (some (((-1, ()), (a1, ()), ()), ())) else (l0 k a1 ((List.length a0.1 : Nat) : Int) a0.2.2.1 ((List.length a0.2.2.1 : Nat) : Int) 0))
abbrev S : ShapeParts := ⟨[⟨true, [.lst (.int .i64), .int .i64, .lst tBlock]⟩, ⟨false, [.int .i64]⟩], [], true, [⟨false, [.int .i64]⟩, ⟨false, [.int .i64]⟩], [], []⟩
def s (k : Nat) : FS := S.fs fun x => f k x.1.1 x.1.2.1.1
def E (k : Nat) : Ents := [(⟨180, []⟩, impl_isId.s k)]
def L0 (l : T0) : LS R := ⟨[], [(1, ⟨false, [.int .i64]⟩), (6, ⟨false, [.int .i64]⟩), (22, ⟨false, [.lst tBlock]⟩), (23, ⟨false, [.int .i64]⟩), (24, ⟨false, [.int .i64]⟩)], [], fun x => l x.1.1.1 x.1.2.1.1 x.1.2.2.1.1 x.1.2.2.2.1.1 x.1.2.2.2.2.1.1⟩
def L (l0 : T0) : List (LS R) := [L0 l0]
def c : Code := Tryz.f137.body.getD .skip
theorem eq (k : Nat) (x) : (s k).pf x = execF tab (E k) Tryz.f137 c (s k) (L (l0 k)) x := by kernel_rfl
theorem r0 (l0 : T0) (k : Nat) (x) : (L0 (l0_ k l0)).l x = roundOf tab (E k) (L l0) c (fin tab Tryz.f137 (s k)) 0 (L0 l0) x := by kernel_rfl
theorem sound : ∀ k, Sound Tryz.prog 137 (s k) := snd S (fun k => (s k).pf) E (fun k => (EntsOK.cons (impl_isId.sound k) EntsOK.nil)) (fun k => L (l0 k)) (fun k => ⟨⟨(L0 (l0 (k + 1))).l, rfl, fun x => r0 (l0 k) k x⟩, trivial⟩) eq
end impl_PlaceOf
end
end Go.Proofs.YtebgkcjpocfmmaaGreat.V
namespace Go.Proofs.YtebgkcjpocfmmaaGreat.V
open Go
set_option linter.unusedVariables false
noncomputable section
/-! ### impl.instOf: function 102 -/
namespace impl_instOf
abbrev R := (((Int × Int × Int × Int × Int × Int × (List Int) × Unit) × (Bool × Unit) × Unit) × Unit)
def f (k : Nat) (a0 : tFuncD) (a1 : Int) : Option R := Option.bind (impl_PlaceOf.f k a0 a1) fun r1 => bif decide (r1.1.1.1 < 0) then (some (((0, 0, 0, 0, 0, 0, ([] : List Int), ()), (false, ()), ()), ())) else (bif (decide (0 ≤ r1.1.1.1)) && (decide (r1.1.1.1 < ((List.length a0.2.2.1 : Nat) : Int))) then (bif decide (r1.1.2.1.1 < ((List.length ((List.getD a0.2.2.1 (Int.toNat r1.1.1.1) tBlockZ).1) : Nat) : Int)) then (some (((0, 0, 0, 0, 0, 0, ([] : List Int), ()), (false, ()), ()), ())) else (bif (decide (0 ≤ r1.1.1.1)) && (decide (r1.1.1.1 < ((List.length a0.2.2.1 : Nat) : Int))) then (bif (decide (0 ≤ r1.1.1.1)) && (decide (r1.1.1.1 < ((List.length a0.2.2.1 : Nat) : Int))) then (bif (decide (0 ≤ IntKind.wrap .i64 (r1.1.2.1.1 - ((List.length ((List.getD a0.2.2.1 (Int.toNat r1.1.1.1) tBlockZ).1) : Nat) : Int)))) && (decide (IntKind.wrap .i64 (r1.1.2.1.1 - ((List.length ((List.getD a0.2.2.1 (Int.toNat r1.1.1.1) tBlockZ).1) : Nat) : Int)) < ((List.length ((List.getD a0.2.2.1 (Int.toNat r1.1.1.1) tBlockZ).2.1) : Nat) : Int))) then (some (((List.getD ((List.getD a0.2.2.1 (Int.toNat r1.1.1.1) tBlockZ).2.1) (Int.toNat (IntKind.wrap .i64 (r1.1.2.1.1 - ((List.length ((List.getD a0.2.2.1 (Int.toNat r1.1.1.1) tBlockZ).1) : Nat) : Int)))) tInstZ), (true, ()), ()), ())) else none) else none) else none)) else none)
abbrev S : ShapeParts := ⟨[⟨true, [.lst (.int .i64), .int .i64, .lst tBlock]⟩, ⟨false, [.int .i64]⟩], [], true, [⟨true, [.int .i64, .int .i64, .int .i64, .int .i64, .int .i64, .int .i64, .lst (.int .i64)]⟩, ⟨false, [.bool]⟩], [], []⟩
def s (k : Nat) : FS := S.fs fun x => f k x.1.1 x.1.2.1.1
def E (k : Nat) : Ents := [(⟨137, []⟩, impl_PlaceOf.s k)]
def L : List (LS R) := []
def c : Code := Tryz.f102.body.getD .skip
theorem eq (k : Nat) (x) : (s k).pf x = execF tab (E k) Tryz.f102 c (s k) L x := by kernel_rfl
theorem sound : ∀ k, Sound Tryz.prog 102 (s k) := snd S (fun k => (s k).pf) E (fun k => (EntsOK.cons (impl_PlaceOf.sound k) EntsOK.nil)) (fun k => L) (fun k => trivial) eq
end impl_instOf
end
end Go.Proofs.YtebgkcjpocfmmaaGreat.V
namespace Go.Proofs.YtebgkcjpocfmmaaGreat.V
open Go
set_option linter.unusedVariables false
noncomputable section
/-! ### impl.ResultWidth: function 181 -/
namespace impl_ResultWidth
abbrev R := (((Int × Unit) × Unit) × Unit)
def f (k : Nat) (a0 : Int) (a1 : Int) : Option R := Option.bind (impl_isBinary.f k a0) fun r1 => bif !r1.1.1.1 then (some (((0, ()), ()), ())) else (Option.bind (impl_WidthOk.f k a1) fun r2 => bif !r2.1.1.1 then (some (((0, ()), ()), ())) else (bif decide (14 ≤ a0) then (some (((1, ()), ()), ())) else (some (((a1, ()), ()), ()))))
abbrev S : ShapeParts := ⟨[⟨false, [.int .i64]⟩, ⟨false, [.int .i64]⟩], [], false, [⟨false, [.int .i64]⟩], [], []⟩
def s (k : Nat) : FS := S.fs fun x => f k x.1.1.1 x.1.2.1.1
def E (k : Nat) : Ents := [(⟨71, []⟩, impl_isBinary.s k), (⟨134, []⟩, impl_WidthOk.s k)]
def L : List (LS R) := []
def c : Code := Tryz.f181.body.getD .skip
theorem eq (k : Nat) (x) : (s k).pf x = execF tab (E k) Tryz.f181 c (s k) L x := by kernel_rfl
theorem sound : ∀ k, Sound Tryz.prog 181 (s k) := snd S (fun k => (s k).pf) E (fun k => (EntsOK.cons (impl_isBinary.sound k) (EntsOK.cons (impl_WidthOk.sound k) EntsOK.nil))) (fun k => L) (fun k => trivial) eq
end impl_ResultWidth
end
end Go.Proofs.YtebgkcjpocfmmaaGreat.V
namespace Go.Proofs.YtebgkcjpocfmmaaGreat.V
open Go
set_option linter.unusedVariables false
noncomputable section
/-! ### impl.widthOf: function 138 -/
namespace impl_widthOf
abbrev R := (((Int × Unit) × Unit) × Unit)
def f (k : Nat) (a0 : tInstD) : Option R := Option.bind (impl_isBinary.f k a0.1) fun r1 => bif r1.1.1.1 then (Option.bind (impl_ResultWidth.f k a0.1 a0.2.1) fun r2 => some (((r2.1.1.1, ()), ()), ())) else (bif decide (a0.1 = 24) then (some (((0, ()), ()), ())) else (bif decide (a0.1 = 25) then (some (((0, ()), ()), ())) else (some (((a0.2.1, ()), ()), ()))))
abbrev S : ShapeParts := ⟨[⟨true, [.int .i64, .int .i64, .int .i64, .int .i64, .int .i64, .int .i64, .lst (.int .i64)]⟩], [], false, [⟨false, [.int .i64]⟩], [], []⟩
def s (k : Nat) : FS := S.fs fun x => f k x.1.1
def E (k : Nat) : Ents := [(⟨71, []⟩, impl_isBinary.s k), (⟨181, []⟩, impl_ResultWidth.s k)]
def L : List (LS R) := []
def c : Code := Tryz.f138.body.getD .skip
theorem eq (k : Nat) (x) : (s k).pf x = execF tab (E k) Tryz.f138 c (s k) L x := by kernel_rfl
theorem sound : ∀ k, Sound Tryz.prog 138 (s k) := snd S (fun k => (s k).pf) E (fun k => (EntsOK.cons (impl_isBinary.sound k) (EntsOK.cons (impl_ResultWidth.sound k) EntsOK.nil))) (fun k => L) (fun k => trivial) eq
end impl_widthOf
end
end Go.Proofs.YtebgkcjpocfmmaaGreat.V
namespace Go.Proofs.YtebgkcjpocfmmaaGreat.V
open Go
set_option linter.unusedVariables false
noncomputable section
/-! ### impl.TypeOf: function 75 -/
namespace impl_TypeOf
abbrev R := (((Int × Unit) × Unit) × Unit)
def f (k : Nat) (a0 : tFuncD) (a1 : Int) : Option R := Option.bind (impl_PlaceOf.f k a0 a1) fun r1 => bif decide (r1.1.1.1 = -2) then (some (((-1, ()), ()), ())) else (bif decide (r1.1.1.1 = -1) then (bif (decide (0 ≤ r1.1.2.1.1)) && (decide (r1.1.2.1.1 < ((List.length a0.1 : Nat) : Int))) then (some (((List.getD a0.1 (Int.toNat r1.1.2.1.1) 0, ()), ()), ())) else none) else (bif (decide (0 ≤ r1.1.1.1)) && (decide (r1.1.1.1 < ((List.length a0.2.2.1 : Nat) : Int))) then (bif decide (r1.1.2.1.1 < ((List.length ((List.getD a0.2.2.1 (Int.toNat r1.1.1.1) tBlockZ).1) : Nat) : Int)) then (bif (decide (0 ≤ r1.1.1.1)) && (decide (r1.1.1.1 < ((List.length a0.2.2.1 : Nat) : Int))) then (bif (decide (0 ≤ r1.1.2.1.1)) && (decide (r1.1.2.1.1 < ((List.length ((List.getD a0.2.2.1 (Int.toNat r1.1.1.1) tBlockZ).1) : Nat) : Int))) then (some ((((List.getD ((List.getD a0.2.2.1 (Int.toNat r1.1.1.1) tBlockZ).1) (Int.toNat r1.1.2.1.1) tPhiZ).1, ()), ()), ())) else none) else none) else (Option.bind (impl_instOf.f k a0 a1) fun r2 => Option.bind (impl_widthOf.f k r2.1.1) fun r3 => some (((r3.1.1.1, ()), ()), ()))) else none))
abbrev S : ShapeParts := ⟨[⟨true, [.lst (.int .i64), .int .i64, .lst tBlock]⟩, ⟨false, [.int .i64]⟩], [], false, [⟨false, [.int .i64]⟩], [], []⟩
def s (k : Nat) : FS := S.fs fun x => f k x.1.1 x.1.2.1.1
def E (k : Nat) : Ents := [(⟨137, []⟩, impl_PlaceOf.s k), (⟨102, []⟩, impl_instOf.s k), (⟨138, []⟩, impl_widthOf.s k)]
def L : List (LS R) := []
def c : Code := Tryz.f75.body.getD .skip
theorem eq (k : Nat) (x) : (s k).pf x = execF tab (E k) Tryz.f75 c (s k) L x := by kernel_rfl
theorem sound : ∀ k, Sound Tryz.prog 75 (s k) := snd S (fun k => (s k).pf) E (fun k => (EntsOK.cons (impl_PlaceOf.sound k) (EntsOK.cons (impl_instOf.sound k) (EntsOK.cons (impl_widthOf.sound k) EntsOK.nil)))) (fun k => L) (fun k => trivial) eq
end impl_TypeOf
end
end Go.Proofs.YtebgkcjpocfmmaaGreat.V
namespace Go.Proofs.YtebgkcjpocfmmaaGreat.V
open Go
set_option linter.unusedVariables false
noncomputable section
/-! ### impl.areTypes$1: function 158 -/
namespace impl_areTypes_1
abbrev R := (((Bool × Unit) × Unit) × Unit)
def f (k : Nat) (a0 : Int) (a1 : tFuncD) (a2 : tPhiD) : Option R := Option.bind (impl_TypeOf.f k a1 a0) fun r1 => some (((!decide (r1.1.1.1 = a2.1), ()), ()), ())
abbrev S : ShapeParts := ⟨[⟨false, [.int .i64]⟩, ⟨false, [.ptr 0 0]⟩, ⟨false, [.ptr 1 0]⟩], [(0, .cbox [.lst (.int .i64), .int .i64, .lst tBlock]), (1, .cbox [.int .i64, .lst (.int .i64)])], false, [⟨false, [.bool]⟩], [], []⟩
def s (k : Nat) : FS := S.fs fun x => f k x.1.1.1 x.2.1 x.2.2.1
def E (k : Nat) : Ents := [(⟨75, []⟩, impl_TypeOf.s k)]
def L : List (LS R) := []
def c : Code := Tryz.f158.body.getD .skip
theorem eq (k : Nat) (x) : (s k).pf x = execF tab (E k) Tryz.f158 c (s k) L x := by kernel_rfl
theorem sound : ∀ k, Sound Tryz.prog 158 (s k) := snd S (fun k => (s k).pf) E (fun k => (EntsOK.cons (impl_TypeOf.sound k) EntsOK.nil)) (fun k => L) (fun k => trivial) eq
end impl_areTypes_1
end
end Go.Proofs.YtebgkcjpocfmmaaGreat.V
namespace Go.Proofs.YtebgkcjpocfmmaaGreat.V
open Go
set_option linter.unusedVariables false
noncomputable section
/-! ### slices.IndexFunc[[]int64,int64]: function 183 -/
namespace slices_IndexFunc_int64_int64_5
abbrev R := (((Int × Unit) × Unit) × Unit)
abbrev T0 : Type := (List Int) → Int → Int → tFuncD → tPhiD → Option R
def l0_ (k : Nat) (l0 : T0) (a0 : List Int) (a1 : Int) (a2 : Int) (a3 : tFuncD) (a4 : tPhiD) : Option R := bif decide (a2 < a1) then (bif (decide (0 ≤ a2)) && (decide (a2 < ((List.length a0 : Nat) : Int))) then (Option.bind (impl_areTypes_1.f k (List.getD a0 (Int.toNat a2) 0) a3 a4) fun r1 => bif r1.1.1.1 then (some (((a2, ()), ()), ())) else (l0 a0 a1 (IntKind.wrap .i64 (a2 + 1)) a3 a4)) else none) else (some (((-1, ()), ()), ()))
def all : Nat → (T0) × Unit
  | 0 => (fun _ _ _ _ _ => none, ())
  | k + 1 => (l0_ k (all k).1, ())
def l0 (k : Nat) : T0 := (all k).1
def f (k : Nat) (a0 : List Int) (a1 : tFuncD) (a2 : tPhiD) : Option R := l0 k a0 ((List.length a0 : Nat) : Int) 0 a1 a2
abbrev S : ShapeParts := ⟨[⟨false, [.lst (.int .i64)]⟩, ⟨false, [.fn 158 [(0, 0), (1, 0)]]⟩], [(0, .cbox [.lst (.int .i64), .int .i64, .lst tBlock]), (1, .cbox [.int .i64, .lst (.int .i64)])], false, [⟨false, [.int .i64]⟩], [], []⟩
def s (k : Nat) : FS := S.fs fun x => f k x.1.1.1 x.2.1 x.2.2.1
def E (k : Nat) : Ents := [(⟨158, []⟩, impl_areTypes_1.s k)]
def L0 (l : T0) : LS R := ⟨[], [(0, ⟨false, [.lst (.int .i64)]⟩), (1, ⟨false, [.fn 158 [(0, 0), (1, 0)]]⟩), (7, ⟨false, [.int .i64]⟩), (8, ⟨false, [.int .i64]⟩)], [(0, .cbox [.lst (.int .i64), .int .i64, .lst tBlock]), (1, .cbox [.int .i64, .lst (.int .i64)])], fun x => l x.1.1.1 x.1.2.2.1.1 x.1.2.2.2.1.1 x.2.1 x.2.2.1⟩
def L (l0 : T0) : List (LS R) := [L0 l0]
def c : Code := Tryz.f183.body.getD .skip
theorem eq (k : Nat) (x) : (s k).pf x = execF tab (E k) Tryz.f183 c (s k) (L (l0 k)) x := by kernel_rfl
theorem r0 (l0 : T0) (k : Nat) (x) : (L0 (l0_ k l0)).l x = roundOf tab (E k) (L l0) c (fin tab Tryz.f183 (s k)) 0 (L0 l0) x := by kernel_rfl
theorem sound : ∀ k, Sound Tryz.prog 183 (s k) := snd S (fun k => (s k).pf) E (fun k => (EntsOK.cons (impl_areTypes_1.sound k) EntsOK.nil)) (fun k => L (l0 k)) (fun k => ⟨⟨(L0 (l0 (k + 1))).l, rfl, fun x => r0 (l0 k) k x⟩, trivial⟩) eq
end slices_IndexFunc_int64_int64_5
end
end Go.Proofs.YtebgkcjpocfmmaaGreat.V
namespace Go.Proofs.YtebgkcjpocfmmaaGreat.V
open Go
set_option linter.unusedVariables false
noncomputable section
/-! ### slices.ContainsFunc[[]int64,int64]: function 148 -/
namespace slices_ContainsFunc_int64_int64_5
abbrev R := (((Bool × Unit) × Unit) × Unit)
def f (k : Nat) (a0 : List Int) (a1 : tFuncD) (a2 : tPhiD) : Option R := Option.bind (slices_IndexFunc_int64_int64_5.f k a0 a1 a2) fun r1 => some (((decide (0 ≤ r1.1.1.1), ()), ()), ())
abbrev S : ShapeParts := ⟨[⟨false, [.lst (.int .i64)]⟩, ⟨false, [.fn 158 [(0, 0), (1, 0)]]⟩], [(0, .cbox [.lst (.int .i64), .int .i64, .lst tBlock]), (1, .cbox [.int .i64, .lst (.int .i64)])], false, [⟨false, [.bool]⟩], [], []⟩
def s (k : Nat) : FS := S.fs fun x => f k x.1.1.1 x.2.1 x.2.2.1
def E (k : Nat) : Ents := [(⟨183, [158]⟩, slices_IndexFunc_int64_int64_5.s k)]
def L : List (LS R) := []
def c : Code := Tryz.f148.body.getD .skip
theorem eq (k : Nat) (x) : (s k).pf x = execF tab (E k) Tryz.f148 c (s k) L x := by kernel_rfl
theorem sound : ∀ k, Sound Tryz.prog 148 (s k) := snd S (fun k => (s k).pf) E (fun k => (EntsOK.cons (slices_IndexFunc_int64_int64_5.sound k) EntsOK.nil)) (fun k => L) (fun k => trivial) eq
end slices_ContainsFunc_int64_int64_5
end
end Go.Proofs.YtebgkcjpocfmmaaGreat.V
namespace Go.Proofs.YtebgkcjpocfmmaaGreat.V
open Go
set_option linter.unusedVariables false
noncomputable section
/-! ### impl.areTyped$1: function 190 -/
namespace impl_areTyped_1
abbrev R := (((Bool × Unit) × Unit) × Unit)
def f (k : Nat) (a0 : Int) (a1 : Int) (a2 : tFuncD) : Option R := Option.bind (impl_TypeOf.f k a2 a0) fun r1 => some (((decide (r1.1.1.1 = a1), ()), ()), ())
abbrev S : ShapeParts := ⟨[⟨false, [.int .i64]⟩, ⟨false, [.int .i64]⟩, ⟨false, [.ptr 0 0]⟩], [(0, .cbox [.lst (.int .i64), .int .i64, .lst tBlock])], false, [⟨false, [.bool]⟩], [], []⟩
def s (k : Nat) : FS := S.fs fun x => f k x.1.1.1 x.1.2.1.1 x.2.1
def E (k : Nat) : Ents := [(⟨75, []⟩, impl_TypeOf.s k)]
def L : List (LS R) := []
def c : Code := Tryz.f190.body.getD .skip
theorem eq (k : Nat) (x) : (s k).pf x = execF tab (E k) Tryz.f190 c (s k) L x := by kernel_rfl
theorem sound : ∀ k, Sound Tryz.prog 190 (s k) := snd S (fun k => (s k).pf) E (fun k => (EntsOK.cons (impl_TypeOf.sound k) EntsOK.nil)) (fun k => L) (fun k => trivial) eq
end impl_areTyped_1
end
end Go.Proofs.YtebgkcjpocfmmaaGreat.V
namespace Go.Proofs.YtebgkcjpocfmmaaGreat.V
open Go
set_option linter.unusedVariables false
noncomputable section
/-! ### impl.areTyped: function 160 -/
namespace impl_areTyped
abbrev R := (((Bool × Unit) × Unit) × Unit)
def f (k : Nat) (a0 : tFuncD) (a1 : tInstD) : Option R := Option.bind (impl_TypeOf.f k a0 a1.2.2.1) fun r1 => Option.bind (impl_isBinary.f k a1.1) fun r2 => bif r2.1.1.1 then (Option.bind (impl_areTyped_1.f k a1.2.2.1 a1.2.1 a0) fun r3 => bif r3.1.1.1 then (Option.bind (impl_areTyped_1.f k a1.2.2.2.1 a1.2.1 a0) fun r4 => some (((r4.1.1.1, ()), ()), ())) else (some (((false, ()), ()), ()))) else (bif decide (a1.1 = 27) then (Option.bind (impl_areTyped_1.f k a1.2.2.1 a1.2.1 a0) fun r5 => some (((r5.1.1.1, ()), ()), ())) else (bif decide (a1.1 = 18) then (bif !decide (r1.1.1.1 = 0) then (some (((decide (r1.1.1.1 < a1.2.1), ()), ()), ())) else (some (((false, ()), ()), ()))) else (bif decide (a1.1 = 19) then (bif !decide (r1.1.1.1 = 0) then (some (((decide (r1.1.1.1 < a1.2.1), ()), ()), ())) else (some (((false, ()), ()), ()))) else (bif decide (a1.1 = 20) then (some (((decide (a1.2.1 < r1.1.1.1), ()), ()), ())) else (bif decide (a1.1 = 22) then (Option.bind (impl_areTyped_1.f k a1.2.2.1 1 a0) fun r6 => bif r6.1.1.1 then (Option.bind (impl_areTyped_1.f k a1.2.2.2.1 a1.2.1 a0) fun r7 => bif r7.1.1.1 then (Option.bind (impl_areTyped_1.f k a1.2.2.2.2.1 a1.2.1 a0) fun r8 => some (((r8.1.1.1, ()), ()), ())) else (some (((false, ()), ()), ()))) else (some (((false, ()), ()), ()))) else (bif decide (a1.1 = 23) then (Option.bind (impl_areTyped_1.f k a1.2.2.1 32 a0) fun r9 => some (((r9.1.1.1, ()), ()), ())) else (bif decide (a1.1 = 24) then (Option.bind (impl_areTyped_1.f k a1.2.2.1 32 a0) fun r10 => bif r10.1.1.1 then (Option.bind (impl_areTyped_1.f k a1.2.2.2.1 8 a0) fun r11 => some (((r11.1.1.1, ()), ()), ())) else (some (((false, ()), ()), ()))) else (bif decide (a1.1 = 25) then (some (((!decide (r1.1.1.1 = 0), ()), ()), ())) else (some (((true, ()), ()), ()))))))))))
abbrev S : ShapeParts := ⟨[⟨true, [.lst (.int .i64), .int .i64, .lst tBlock]⟩, ⟨true, [.int .i64, .int .i64, .int .i64, .int .i64, .int .i64, .int .i64, .lst (.int .i64)]⟩], [], false, [⟨false, [.bool]⟩], [], []⟩
def s (k : Nat) : FS := S.fs fun x => f k x.1.1 x.1.2.1
def E (k : Nat) : Ents := [(⟨75, []⟩, impl_TypeOf.s k), (⟨71, []⟩, impl_isBinary.s k), (⟨190, []⟩, impl_areTyped_1.s k)]
def L : List (LS R) := []
def c : Code := Tryz.f160.body.getD .skip
theorem eq (k : Nat) (x) : (s k).pf x = execF tab (E k) Tryz.f160 c (s k) L x := by kernel_rfl
theorem sound : ∀ k, Sound Tryz.prog 160 (s k) := snd S (fun k => (s k).pf) E (fun k => (EntsOK.cons (impl_TypeOf.sound k) (EntsOK.cons (impl_isBinary.sound k) (EntsOK.cons (impl_areTyped_1.sound k) EntsOK.nil)))) (fun k => L) (fun k => trivial) eq
end impl_areTyped
end
end Go.Proofs.YtebgkcjpocfmmaaGreat.V
namespace Go.Proofs.YtebgkcjpocfmmaaGreat.V
open Go
set_option linter.unusedVariables false
noncomputable section
/-! ### impl.areTypes$2: function 159 -/
namespace impl_areTypes_2
abbrev R := (((Bool × Unit) × Unit) × Unit)
def f (k : Nat) (a0 : tInstD) (a1 : tFuncD) : Option R := Option.bind (impl_areTyped.f k a1 a0) fun r1 => some (((!r1.1.1.1, ()), ()), ())
abbrev S : ShapeParts := ⟨[⟨true, [.int .i64, .int .i64, .int .i64, .int .i64, .int .i64, .int .i64, .lst (.int .i64)]⟩, ⟨false, [.ptr 0 0]⟩], [(0, .cbox [.lst (.int .i64), .int .i64, .lst tBlock])], false, [⟨false, [.bool]⟩], [], []⟩
def s (k : Nat) : FS := S.fs fun x => f k x.1.1 x.2.1
def E (k : Nat) : Ents := [(⟨160, []⟩, impl_areTyped.s k)]
def L : List (LS R) := []
def c : Code := Tryz.f159.body.getD .skip
theorem eq (k : Nat) (x) : (s k).pf x = execF tab (E k) Tryz.f159 c (s k) L x := by kernel_rfl
theorem sound : ∀ k, Sound Tryz.prog 159 (s k) := snd S (fun k => (s k).pf) E (fun k => (EntsOK.cons (impl_areTyped.sound k) EntsOK.nil)) (fun k => L) (fun k => trivial) eq
end impl_areTypes_2
end
end Go.Proofs.YtebgkcjpocfmmaaGreat.V
namespace Go.Proofs.YtebgkcjpocfmmaaGreat.V
open Go
set_option linter.unusedVariables false
noncomputable section
/-! ### slices.IndexFunc[[]impl.Inst,impl.Inst]: function 161 -/
namespace slices_IndexFunc_impl_Inst_impl_Inst_2
abbrev R := (((Int × Unit) × Unit) × Unit)
abbrev T0 : Type := (List tInstD) → Int → Int → tFuncD → Option R
def l0_ (k : Nat) (l0 : T0) (a0 : List tInstD) (a1 : Int) (a2 : Int) (a3 : tFuncD) : Option R := bif decide (a2 < a1) then (bif (decide (0 ≤ a2)) && (decide (a2 < ((List.length a0 : Nat) : Int))) then (Option.bind (impl_areTypes_2.f k (List.getD a0 (Int.toNat a2) tInstZ) a3) fun r1 => bif r1.1.1.1 then (some (((a2, ()), ()), ())) else (l0 a0 a1 (IntKind.wrap .i64 (a2 + 1)) a3)) else none) else (some (((-1, ()), ()), ()))
def all : Nat → (T0) × Unit
  | 0 => (fun _ _ _ _ => none, ())
  | k + 1 => (l0_ k (all k).1, ())
def l0 (k : Nat) : T0 := (all k).1
def f (k : Nat) (a0 : List tInstD) (a1 : tFuncD) : Option R := l0 k a0 ((List.length a0 : Nat) : Int) 0 a1
abbrev S : ShapeParts := ⟨[⟨false, [.lst tInst]⟩, ⟨false, [.fn 159 [(0, 0)]]⟩], [(0, .cbox [.lst (.int .i64), .int .i64, .lst tBlock])], false, [⟨false, [.int .i64]⟩], [], []⟩
def s (k : Nat) : FS := S.fs fun x => f k x.1.1.1 x.2.1
def E (k : Nat) : Ents := [(⟨159, []⟩, impl_areTypes_2.s k)]
def L0 (l : T0) : LS R := ⟨[], [(0, ⟨false, [.lst tInst]⟩), (1, ⟨false, [.fn 159 [(0, 0)]]⟩), (7, ⟨false, [.int .i64]⟩), (8, ⟨false, [.int .i64]⟩)], [(0, .cbox [.lst (.int .i64), .int .i64, .lst tBlock])], fun x => l x.1.1.1 x.1.2.2.1.1 x.1.2.2.2.1.1 x.2.1⟩
def L (l0 : T0) : List (LS R) := [L0 l0]
def c : Code := Tryz.f161.body.getD .skip
theorem eq (k : Nat) (x) : (s k).pf x = execF tab (E k) Tryz.f161 c (s k) (L (l0 k)) x := by kernel_rfl
theorem r0 (l0 : T0) (k : Nat) (x) : (L0 (l0_ k l0)).l x = roundOf tab (E k) (L l0) c (fin tab Tryz.f161 (s k)) 0 (L0 l0) x := by kernel_rfl
theorem sound : ∀ k, Sound Tryz.prog 161 (s k) := snd S (fun k => (s k).pf) E (fun k => (EntsOK.cons (impl_areTypes_2.sound k) EntsOK.nil)) (fun k => L (l0 k)) (fun k => ⟨⟨(L0 (l0 (k + 1))).l, rfl, fun x => r0 (l0 k) k x⟩, trivial⟩) eq
end slices_IndexFunc_impl_Inst_impl_Inst_2
end
end Go.Proofs.YtebgkcjpocfmmaaGreat.V
namespace Go.Proofs.YtebgkcjpocfmmaaGreat.V
open Go
set_option linter.unusedVariables false
noncomputable section
/-! ### slices.ContainsFunc[[]impl.Inst,impl.Inst]: function 91 -/
namespace slices_ContainsFunc_impl_Inst_impl_Inst_2
abbrev R := (((Bool × Unit) × Unit) × Unit)
def f (k : Nat) (a0 : List tInstD) (a1 : tFuncD) : Option R := Option.bind (slices_IndexFunc_impl_Inst_impl_Inst_2.f k a0 a1) fun r1 => some (((decide (0 ≤ r1.1.1.1), ()), ()), ())
abbrev S : ShapeParts := ⟨[⟨false, [.lst tInst]⟩, ⟨false, [.fn 159 [(0, 0)]]⟩], [(0, .cbox [.lst (.int .i64), .int .i64, .lst tBlock])], false, [⟨false, [.bool]⟩], [], []⟩
def s (k : Nat) : FS := S.fs fun x => f k x.1.1.1 x.2.1
def E (k : Nat) : Ents := [(⟨161, [159]⟩, slices_IndexFunc_impl_Inst_impl_Inst_2.s k)]
def L : List (LS R) := []
def c : Code := Tryz.f91.body.getD .skip
theorem eq (k : Nat) (x) : (s k).pf x = execF tab (E k) Tryz.f91 c (s k) L x := by kernel_rfl
theorem sound : ∀ k, Sound Tryz.prog 91 (s k) := snd S (fun k => (s k).pf) E (fun k => (EntsOK.cons (slices_IndexFunc_impl_Inst_impl_Inst_2.sound k) EntsOK.nil)) (fun k => L) (fun k => trivial) eq
end slices_ContainsFunc_impl_Inst_impl_Inst_2
end
end Go.Proofs.YtebgkcjpocfmmaaGreat.V
namespace Go.Proofs.YtebgkcjpocfmmaaGreat.V
open Go
set_option linter.unusedVariables false
noncomputable section
/-! ### impl.areTypes: function 90 -/
namespace impl_areTypes
abbrev R := (((Bool × Unit) × Unit) × Unit)
abbrev T0 : Type := (List tBlockD) → Int → Int → tFuncD → Option R
abbrev T1 : Type := (List tBlockD) → Int → Int → (List tPhiD) → Int → Int → tFuncD → tBlockD → Option R
def l0_ (k : Nat) (l0 : T0) (l1 : T1) (a0 : List tBlockD) (a1 : Int) (a2 : Int) (a3 : tFuncD) : Option R := bif decide (a2 < a1) then (bif (decide (0 ≤ a2)) && (decide (a2 < ((List.length a0 : Nat) : Int))) then (l1 a0 a1 a2 ((List.getD a0 (Int.toNat a2) tBlockZ).1) ((List.length ((List.getD a0 (Int.toNat a2) tBlockZ).1) : Nat) : Int) 0 a3 (List.getD a0 (Int.toNat a2) tBlockZ)) else none) else (some (((true, ()), ()), ()))
def l1_ (k : Nat) (l0 : T0) (l1 : T1) (a0 : List tBlockD) (a1 : Int) (a2 : Int) (a3 : List tPhiD) (a4 : Int) (a5 : Int) (a6 : tFuncD) (a7 : tBlockD) : Option R := bif decide (a5 < a4) then (bif (decide (0 ≤ a5)) && (decide (a5 < ((List.length a3 : Nat) : Int))) then (Option.bind (slices_ContainsFunc_int64_int64_5.f k ((List.getD a3 (Int.toNat a5) tPhiZ).2.1) a6 (List.getD a3 (Int.toNat a5) tPhiZ)) fun r1 => bif r1.1.1.1 then (some (((false, ()), ()), ())) else (l1 a0 a1 a2 a3 a4 (IntKind.wrap .i64 (a5 + 1)) a6 a7)) else none) else (Option.bind (slices_ContainsFunc_impl_Inst_impl_Inst_2.f k a7.2.1 a6) fun r2 => bif r2.1.1.1 then (some (((false, ()), ()), ())) else (bif decide (a7.2.2.1 = 1) then (Option.bind (impl_TypeOf.f k a6 a7.2.2.2.1) fun r3 => bif !decide (r3.1.1.1 = a6.2.1) then (some (((false, ()), ()), ())) else (bif decide (a7.2.2.1 = 3) then (Option.bind (impl_TypeOf.f k a6 a7.2.2.2.1) fun r4 => bif !decide (r4.1.1.1 = 1) then (some (((false, ()), ()), ())) else (l0 a0 a1 (IntKind.wrap .i64 (a2 + 1)) a6)) else (l0 a0 a1 (IntKind.wrap .i64 (a2 + 1)) a6))) else (bif decide (a7.2.2.1 = 3) then (Option.bind (impl_TypeOf.f k a6 a7.2.2.2.1) fun r5 => bif !decide (r5.1.1.1 = 1) then (some (((false, ()), ()), ())) else (l0 a0 a1 (IntKind.wrap .i64 (a2 + 1)) a6)) else (l0 a0 a1 (IntKind.wrap .i64 (a2 + 1)) a6))))
def all : Nat → (T0) × (T1) × Unit
  | 0 => (fun _ _ _ _ => none, fun _ _ _ _ _ _ _ _ => none, ())
  | k + 1 => (l0_ k (all k).1 (all k).2.1, l1_ k (all k).1 (all k).2.1, ())
def l0 (k : Nat) : T0 := (all k).1
def l1 (k : Nat) : T1 := (all k).2.1
def f (k : Nat) (a0 : tFuncD) : Option R := l0 k a0.2.2.1 ((List.length a0.2.2.1 : Nat) : Int) 0 a0
abbrev S : ShapeParts := ⟨[⟨true, [.lst (.int .i64), .int .i64, .lst tBlock]⟩], [], false, [⟨false, [.bool]⟩], [], []⟩
def s (k : Nat) : FS := S.fs fun x => f k x.1.1
def E (k : Nat) : Ents := [(⟨148, [158]⟩, slices_ContainsFunc_int64_int64_5.s k), (⟨91, [159]⟩, slices_ContainsFunc_impl_Inst_impl_Inst_2.s k), (⟨75, []⟩, impl_TypeOf.s k)]
def L0 (l : T0) : LS R := ⟨[], [(1, ⟨false, [.ptr 100000 0]⟩), (9, ⟨false, [.lst tBlock]⟩), (10, ⟨false, [.int .i64]⟩), (11, ⟨false, [.int .i64]⟩)], [(100000, .box [.lst (.int .i64), .int .i64, .lst tBlock])], fun x => l x.1.2.1.1 x.1.2.2.1.1 x.1.2.2.2.1.1 x.2.1⟩
def L1 (l : T1) : LS R := ⟨[], [(1, ⟨false, [.ptr 100000 0]⟩), (4, ⟨false, [.ptr 100001 0]⟩), (9, ⟨false, [.lst tBlock]⟩), (10, ⟨false, [.int .i64]⟩), (11, ⟨false, [.int .i64]⟩), (16, ⟨false, [.lst tPhi]⟩), (17, ⟨false, [.int .i64]⟩), (18, ⟨false, [.int .i64]⟩)], [(100000, .box [.lst (.int .i64), .int .i64, .lst tBlock]), (100001, .box [.lst tPhi, .lst tInst, .int .i64, .int .i64, .int .i64, .int .i64])], fun x => l x.1.2.2.1.1 x.1.2.2.2.1.1 x.1.2.2.2.2.1.1 x.1.2.2.2.2.2.1.1 x.1.2.2.2.2.2.2.1.1 x.1.2.2.2.2.2.2.2.1.1 x.2.1 x.2.2.1⟩
def L (l0 : T0) (l1 : T1) : List (LS R) := [L0 l0, L1 l1]
def c : Code := Tryz.f90.body.getD .skip
theorem eq (k : Nat) (x) : (s k).pf x = execF tab (E k) Tryz.f90 c (s k) (L (l0 k) (l1 k)) x := by kernel_rfl
theorem r0 (l0 : T0) (l1 : T1) (k : Nat) (x) : (L0 (l0_ k l0 l1)).l x = roundOf tab (E k) (L l0 l1) c (fin tab Tryz.f90 (s k)) 0 (L0 l0) x := by kernel_rfl
theorem r1 (l0 : T0) (l1 : T1) (k : Nat) (x) : (L1 (l1_ k l0 l1)).l x = roundOf tab (E k) (L l0 l1) c (fin tab Tryz.f90 (s k)) 1 (L1 l1) x := by kernel_rfl
theorem sound : ∀ k, Sound Tryz.prog 90 (s k) := snd S (fun k => (s k).pf) E (fun k => (EntsOK.cons (slices_ContainsFunc_int64_int64_5.sound k) (EntsOK.cons (slices_ContainsFunc_impl_Inst_impl_Inst_2.sound k) (EntsOK.cons (impl_TypeOf.sound k) EntsOK.nil)))) (fun k => L (l0 k) (l1 k)) (fun k => ⟨⟨(L0 (l0 (k + 1))).l, rfl, fun x => r0 (l0 k) (l1 k) k x⟩, ⟨(L1 (l1 (k + 1))).l, rfl, fun x => r1 (l0 k) (l1 k) k x⟩, trivial⟩) eq
end impl_areTypes
end
end Go.Proofs.YtebgkcjpocfmmaaGreat.V
namespace Go.Proofs.YtebgkcjpocfmmaaGreat.V
open Go
set_option linter.unusedVariables false
noncomputable section
/-! ### impl.isCall: function 93 -/
namespace impl_isCall
abbrev R := (((Bool × Unit) × Unit) × Unit)
abbrev T0 : Type := (List Int) → Int → Int → tFuncD → tFuncD → Option R
def l0_ (k : Nat) (l0 : T0) (a0 : List Int) (a1 : Int) (a2 : Int) (a3 : tFuncD) (a4 : tFuncD) : Option R := bif decide (a2 < a1) then (bif (decide (0 ≤ a2)) && (decide (a2 < ((List.length a0 : Nat) : Int))) then (Option.bind (impl_TypeOf.f k a3 (List.getD a0 (Int.toNat a2) 0)) fun r1 => bif (decide (0 ≤ a2)) && (decide (a2 < ((List.length a4.1 : Nat) : Int))) then (bif !decide (r1.1.1.1 = List.getD a4.1 (Int.toNat a2) 0) then (some (((false, ()), ()), ())) else (l0 a0 a1 (IntKind.wrap .i64 (a2 + 1)) a3 a4)) else none) else none) else (some (((true, ()), ()), ()))
def all : Nat → (T0) × Unit
  | 0 => (fun _ _ _ _ _ => none, ())
  | k + 1 => (l0_ k (all k).1, ())
def l0 (k : Nat) : T0 := (all k).1
def f (k : Nat) (a0 : tModuleD) (a1 : tFuncD) (a2 : tInstD) : Option R := bif (decide (0 ≤ a2.2.2.2.2.2.1)) && (decide (a2.2.2.2.2.2.1 < ((List.length a0.1 : Nat) : Int))) then (bif !decide (a2.2.1 = (List.getD a0.1 (Int.toNat a2.2.2.2.2.2.1) tFuncZ).2.1) then (some (((false, ()), ()), ())) else (bif !decide (((List.length a2.2.2.2.2.2.2.1 : Nat) : Int) = ((List.length ((List.getD a0.1 (Int.toNat a2.2.2.2.2.2.1) tFuncZ).1) : Nat) : Int)) then (some (((false, ()), ()), ())) else (l0 k a2.2.2.2.2.2.2.1 ((List.length a2.2.2.2.2.2.2.1 : Nat) : Int) 0 a1 (List.getD a0.1 (Int.toNat a2.2.2.2.2.2.1) tFuncZ)))) else none
abbrev S : ShapeParts := ⟨[⟨true, [.lst tFunc]⟩, ⟨true, [.lst (.int .i64), .int .i64, .lst tBlock]⟩, ⟨true, [.int .i64, .int .i64, .int .i64, .int .i64, .int .i64, .int .i64, .lst (.int .i64)]⟩], [], false, [⟨false, [.bool]⟩], [], []⟩
def s (k : Nat) : FS := S.fs fun x => f k x.1.1 x.1.2.1 x.1.2.2.1
def E (k : Nat) : Ents := [(⟨75, []⟩, impl_TypeOf.s k)]
def L0 (l : T0) : LS R := ⟨[], [(4, ⟨false, [.ptr 100000 0]⟩), (7, ⟨false, [.ptr 100001 0]⟩), (31, ⟨false, [.lst (.int .i64)]⟩), (32, ⟨false, [.int .i64]⟩), (33, ⟨false, [.int .i64]⟩)], [(100000, .box [.lst (.int .i64), .int .i64, .lst tBlock]), (100001, .box [.lst (.int .i64), .int .i64, .lst tBlock])], fun x => l x.1.2.2.1.1 x.1.2.2.2.1.1 x.1.2.2.2.2.1.1 x.2.1 x.2.2.1⟩
def L (l0 : T0) : List (LS R) := [L0 l0]
def c : Code := Tryz.f93.body.getD .skip
theorem eq (k : Nat) (x) : (s k).pf x = execF tab (E k) Tryz.f93 c (s k) (L (l0 k)) x := by kernel_rfl
theorem r0 (l0 : T0) (k : Nat) (x) : (L0 (l0_ k l0)).l x = roundOf tab (E k) (L l0) c (fin tab Tryz.f93 (s k)) 0 (L0 l0) x := by kernel_rfl
theorem sound : ∀ k, Sound Tryz.prog 93 (s k) := snd S (fun k => (s k).pf) E (fun k => (EntsOK.cons (impl_TypeOf.sound k) EntsOK.nil)) (fun k => L (l0 k)) (fun k => ⟨⟨(L0 (l0 (k + 1))).l, rfl, fun x => r0 (l0 k) k x⟩, trivial⟩) eq
end impl_isCall
end
end Go.Proofs.YtebgkcjpocfmmaaGreat.V
namespace Go.Proofs.YtebgkcjpocfmmaaGreat.V
open Go
set_option linter.unusedVariables false
noncomputable section
/-! ### impl.checked$1: function 92 -/
namespace impl_checked_1
abbrev R := (((Bool × Unit) × Unit) × Unit)
def f (k : Nat) (a0 : tInstD) (a1 : List tFuncD) (a2 : tFuncD) : Option R := bif decide (a0.1 = 26) then (Option.bind (impl_isCall.f k (a1, ()) a2 a0) fun r1 => some (((!r1.1.1.1, ()), ()), ())) else (some (((false, ()), ()), ()))
abbrev S : ShapeParts := ⟨[⟨true, [.int .i64, .int .i64, .int .i64, .int .i64, .int .i64, .int .i64, .lst (.int .i64)]⟩, ⟨false, [.ptr 0 0]⟩, ⟨false, [.ptr 1 0]⟩], [(0, .cbox [.lst tFunc]), (1, .cbox [.lst (.int .i64), .int .i64, .lst tBlock])], false, [⟨false, [.bool]⟩], [], []⟩
def s (k : Nat) : FS := S.fs fun x => f k x.1.1 x.2.1.1 x.2.2.1
def E (k : Nat) : Ents := [(⟨93, []⟩, impl_isCall.s k)]
def L : List (LS R) := []
def c : Code := Tryz.f92.body.getD .skip
theorem eq (k : Nat) (x) : (s k).pf x = execF tab (E k) Tryz.f92 c (s k) L x := by kernel_rfl
theorem sound : ∀ k, Sound Tryz.prog 92 (s k) := snd S (fun k => (s k).pf) E (fun k => (EntsOK.cons (impl_isCall.sound k) EntsOK.nil)) (fun k => L) (fun k => trivial) eq
end impl_checked_1
end
end Go.Proofs.YtebgkcjpocfmmaaGreat.V
namespace Go.Proofs.YtebgkcjpocfmmaaGreat.V
open Go
set_option linter.unusedVariables false
noncomputable section
/-! ### slices.IndexFunc[[]impl.Inst,impl.Inst]: function 161 -/
namespace slices_IndexFunc_impl_Inst_impl_Inst_3
abbrev R := (((Int × Unit) × Unit) × Unit)
abbrev T0 : Type := (List tInstD) → Int → Int → (List tFuncD) → tFuncD → Option R
def l0_ (k : Nat) (l0 : T0) (a0 : List tInstD) (a1 : Int) (a2 : Int) (a3 : List tFuncD) (a4 : tFuncD) : Option R := bif decide (a2 < a1) then (bif (decide (0 ≤ a2)) && (decide (a2 < ((List.length a0 : Nat) : Int))) then (Option.bind (impl_checked_1.f k (List.getD a0 (Int.toNat a2) tInstZ) a3 a4) fun r1 => bif r1.1.1.1 then (some (((a2, ()), ()), ())) else (l0 a0 a1 (IntKind.wrap .i64 (a2 + 1)) a3 a4)) else none) else (some (((-1, ()), ()), ()))
def all : Nat → (T0) × Unit
  | 0 => (fun _ _ _ _ _ => none, ())
  | k + 1 => (l0_ k (all k).1, ())
def l0 (k : Nat) : T0 := (all k).1
def f (k : Nat) (a0 : List tInstD) (a1 : List tFuncD) (a2 : tFuncD) : Option R := l0 k a0 ((List.length a0 : Nat) : Int) 0 a1 a2
abbrev S : ShapeParts := ⟨[⟨false, [.lst tInst]⟩, ⟨false, [.fn 92 [(0, 0), (1, 0)]]⟩], [(0, .cbox [.lst tFunc]), (1, .cbox [.lst (.int .i64), .int .i64, .lst tBlock])], false, [⟨false, [.int .i64]⟩], [], []⟩
def s (k : Nat) : FS := S.fs fun x => f k x.1.1.1 x.2.1.1 x.2.2.1
def E (k : Nat) : Ents := [(⟨92, []⟩, impl_checked_1.s k)]
def L0 (l : T0) : LS R := ⟨[], [(0, ⟨false, [.lst tInst]⟩), (1, ⟨false, [.fn 92 [(0, 0), (1, 0)]]⟩), (7, ⟨false, [.int .i64]⟩), (8, ⟨false, [.int .i64]⟩)], [(0, .cbox [.lst tFunc]), (1, .cbox [.lst (.int .i64), .int .i64, .lst tBlock])], fun x => l x.1.1.1 x.1.2.2.1.1 x.1.2.2.2.1.1 x.2.1.1 x.2.2.1⟩
def L (l0 : T0) : List (LS R) := [L0 l0]
def c : Code := Tryz.f161.body.getD .skip
theorem eq (k : Nat) (x) : (s k).pf x = execF tab (E k) Tryz.f161 c (s k) (L (l0 k)) x := by kernel_rfl
theorem r0 (l0 : T0) (k : Nat) (x) : (L0 (l0_ k l0)).l x = roundOf tab (E k) (L l0) c (fin tab Tryz.f161 (s k)) 0 (L0 l0) x := by kernel_rfl
theorem sound : ∀ k, Sound Tryz.prog 161 (s k) := snd S (fun k => (s k).pf) E (fun k => (EntsOK.cons (impl_checked_1.sound k) EntsOK.nil)) (fun k => L (l0 k)) (fun k => ⟨⟨(L0 (l0 (k + 1))).l, rfl, fun x => r0 (l0 k) k x⟩, trivial⟩) eq
end slices_IndexFunc_impl_Inst_impl_Inst_3
end
end Go.Proofs.YtebgkcjpocfmmaaGreat.V
namespace Go.Proofs.YtebgkcjpocfmmaaGreat.V
open Go
set_option linter.unusedVariables false
noncomputable section
/-! ### slices.ContainsFunc[[]impl.Inst,impl.Inst]: function 91 -/
namespace slices_ContainsFunc_impl_Inst_impl_Inst_3
abbrev R := (((Bool × Unit) × Unit) × Unit)
def f (k : Nat) (a0 : List tInstD) (a1 : List tFuncD) (a2 : tFuncD) : Option R := Option.bind (slices_IndexFunc_impl_Inst_impl_Inst_3.f k a0 a1 a2) fun r1 => some (((decide (0 ≤ r1.1.1.1), ()), ()), ())
abbrev S : ShapeParts := ⟨[⟨false, [.lst tInst]⟩, ⟨false, [.fn 92 [(0, 0), (1, 0)]]⟩], [(0, .cbox [.lst tFunc]), (1, .cbox [.lst (.int .i64), .int .i64, .lst tBlock])], false, [⟨false, [.bool]⟩], [], []⟩
def s (k : Nat) : FS := S.fs fun x => f k x.1.1.1 x.2.1.1 x.2.2.1
def E (k : Nat) : Ents := [(⟨161, [92]⟩, slices_IndexFunc_impl_Inst_impl_Inst_3.s k)]
def L : List (LS R) := []
def c : Code := Tryz.f91.body.getD .skip
theorem eq (k : Nat) (x) : (s k).pf x = execF tab (E k) Tryz.f91 c (s k) L x := by kernel_rfl
theorem sound : ∀ k, Sound Tryz.prog 91 (s k) := snd S (fun k => (s k).pf) E (fun k => (EntsOK.cons (slices_IndexFunc_impl_Inst_impl_Inst_3.sound k) EntsOK.nil)) (fun k => L) (fun k => trivial) eq
end slices_ContainsFunc_impl_Inst_impl_Inst_3
end
end Go.Proofs.YtebgkcjpocfmmaaGreat.V
namespace Go.Proofs.YtebgkcjpocfmmaaGreat.V
open Go
set_option linter.unusedVariables false
noncomputable section
/-! ### impl.reach: function 94 -/
namespace impl_reach
abbrev R := (((Unit × Unit) × Unit) × ((List Bool) × Unit))
abbrev T0 : Type := Int → tFuncD → (List Bool) → (List Int) → Option R
def l0_ (k : Nat) (l0 : T0) (a0 : Int) (a1 : tFuncD) (a2 : List Bool) (a3 : List Int) : Option R := bif decide (0 < ((List.length a3 : Nat) : Int)) then (bif (decide (0 ≤ 0)) && (decide (0 < ((List.length a3 : Nat) : Int))) then (bif (decide (0 ≤ 1)) && (decide (1 ≤ ((List.length a3 : Nat) : Int))) then (bif decide (List.getD a3 0 0 = a0) then (l0 a0 a1 a2 (List.drop 1 a3)) else (bif (decide (0 ≤ List.getD a3 0 0)) && (decide (List.getD a3 0 0 < ((List.length a2 : Nat) : Int))) then (bif List.getD a2 (Int.toNat (List.getD a3 0 0)) false then (l0 a0 a1 a2 (List.drop 1 a3)) else (bif (decide (0 ≤ List.getD a3 0 0)) && (decide (List.getD a3 0 0 < ((List.length a2 : Nat) : Int))) then (bif (decide (0 ≤ List.getD a3 0 0)) && (decide (List.getD a3 0 0 < ((List.length a1.2.2.1 : Nat) : Int))) then (Option.bind (impl_leadsTo.f k ((List.getD a1.2.2.1 (Int.toNat (List.getD a3 0 0)) tBlockZ).2.2)) fun r1 => bif decide ((List.length (List.drop 1 a3) + List.length r1.2.1) * 8 ≤ 140737488355328) then (l0 a0 a1 (List.set a2 (Int.toNat (List.getD a3 0 0)) true) ((List.drop 1 a3) ++ r1.2.1)) else none) else none) else none)) else none)) else none) else none) else (some ((((), ()), ()), (a2, ())))
def all : Nat → (T0) × Unit
  | 0 => (fun _ _ _ _ => none, ())
  | k + 1 => (l0_ k (all k).1, ())
def l0 (k : Nat) : T0 := (all k).1
def f (k : Nat) (a0 : tFuncD) (a1 : Int) : Option R := bif (decide (((List.length a0.2.2.1 : Nat) : Int) = ((List.length a0.2.2.1 : Nat) : Int))) && (decide (0 ≤ ((List.length a0.2.2.1 : Nat) : Int))) && (decide (((List.length a0.2.2.1 : Nat) : Int) * 1 ≤ 281474976710656)) then (l0 k a1 a0 (List.replicate (Int.toNat ((List.length a0.2.2.1 : Nat) : Int)) false) [0]) else none
abbrev S : ShapeParts := ⟨[⟨true, [.lst (.int .i64), .int .i64, .lst tBlock]⟩, ⟨false, [.int .i64]⟩], [], false, [⟨false, [.own 100]⟩], [(100, .row true .bool)], []⟩
def s (k : Nat) : FS := S.fs fun x => f k x.1.1 x.1.2.1.1
def E (k : Nat) : Ents := [(⟨162, []⟩, impl_leadsTo.s k)]
def L0 (l : T0) : LS R := ⟨[], [(1, ⟨false, [.int .i64]⟩), (2, ⟨false, [.ptr 100000 0]⟩), (5, ⟨false, [.own 100001]⟩), (6, ⟨false, [.own 100002]⟩)], [(100000, .box [.lst (.int .i64), .int .i64, .lst tBlock]), (100001, .row true .bool), (100002, .row true (.int .i64))], fun x => l x.1.1.1 x.2.1 x.2.2.1 x.2.2.2.1⟩
def L (l0 : T0) : List (LS R) := [L0 l0]
def c : Code := Tryz.f94.body.getD .skip
theorem eq (k : Nat) (x) : (s k).pf x = execF tab (E k) Tryz.f94 c (s k) (L (l0 k)) x := by kernel_rfl
theorem r0 (l0 : T0) (k : Nat) (x) : (L0 (l0_ k l0)).l x = roundOf tab (E k) (L l0) c (fin tab Tryz.f94 (s k)) 0 (L0 l0) x := by kernel_rfl
theorem sound : ∀ k, Sound Tryz.prog 94 (s k) := snd S (fun k => (s k).pf) E (fun k => (EntsOK.cons (impl_leadsTo.sound k) EntsOK.nil)) (fun k => L (l0 k)) (fun k => ⟨⟨(L0 (l0 (k + 1))).l, rfl, fun x => r0 (l0 k) k x⟩, trivial⟩) eq
end impl_reach
end
end Go.Proofs.YtebgkcjpocfmmaaGreat.V
namespace Go.Proofs.YtebgkcjpocfmmaaGreat.V
open Go
set_option linter.unusedVariables false
noncomputable section
/-! ### impl.firstOf: function 115 -/
namespace impl_firstOf
abbrev R := (((Int × Unit) × Unit) × Unit)
abbrev T0 : Type := Int → (List tBlockD) → Int → Int → Option R
def l0_ (k : Nat) (l0 : T0) (a0 : Int) (a1 : List tBlockD) (a2 : Int) (a3 : Int) : Option R := bif decide (a3 < a2) then (bif (decide (0 ≤ a3)) && (decide (a3 < ((List.length a1 : Nat) : Int))) then (l0 (IntKind.wrap .i64 (a0 + (IntKind.wrap .i64 (((List.length ((List.getD a1 (Int.toNat a3) tBlockZ).1) : Nat) : Int) + ((List.length ((List.getD a1 (Int.toNat a3) tBlockZ).2.1) : Nat) : Int))))) a1 a2 (IntKind.wrap .i64 (a3 + 1))) else none) else (some (((a0, ()), ()), ()))
def all : Nat → (T0) × Unit
  | 0 => (fun _ _ _ _ => none, ())
  | k + 1 => (l0_ k (all k).1, ())
def l0 (k : Nat) : T0 := (all k).1
def f (k : Nat) (a0 : tFuncD) (a1 : Int) : Option R := bif (decide (0 ≤ 0)) && (decide (0 ≤ a1)) && (decide (a1 ≤ ((List.length a0.2.2.1 : Nat) : Int))) then (l0 k ((List.length a0.1 : Nat) : Int) (List.take (Int.toNat a1) a0.2.2.1) ((List.length (List.take (Int.toNat a1) a0.2.2.1) : Nat) : Int) 0) else none
abbrev S : ShapeParts := ⟨[⟨true, [.lst (.int .i64), .int .i64, .lst tBlock]⟩, ⟨false, [.int .i64]⟩], [], false, [⟨false, [.int .i64]⟩], [], []⟩
def s (k : Nat) : FS := S.fs fun x => f k x.1.1 x.1.2.1.1
def E (k : Nat) : Ents := []
def L0 (l : T0) : LS R := ⟨[], [(5, ⟨false, [.int .i64]⟩), (14, ⟨false, [.lst tBlock]⟩), (15, ⟨false, [.int .i64]⟩), (16, ⟨false, [.int .i64]⟩)], [], fun x => l x.1.1.1 x.1.2.1.1 x.1.2.2.1.1 x.1.2.2.2.1.1⟩
def L (l0 : T0) : List (LS R) := [L0 l0]
def c : Code := Tryz.f115.body.getD .skip
theorem eq (k : Nat) (x) : (s k).pf x = execF tab (E k) Tryz.f115 c (s k) (L (l0 k)) x := by kernel_rfl
theorem r0 (l0 : T0) (k : Nat) (x) : (L0 (l0_ k l0)).l x = roundOf tab (E k) (L l0) c (fin tab Tryz.f115 (s k)) 0 (L0 l0) x := by kernel_rfl
theorem sound : ∀ k, Sound Tryz.prog 115 (s k) := snd S (fun k => (s k).pf) E (fun k => EntsOK.nil) (fun k => L (l0 k)) (fun k => ⟨⟨(L0 (l0 (k + 1))).l, rfl, fun x => r0 (l0 k) k x⟩, trivial⟩) eq
end impl_firstOf
end
end Go.Proofs.YtebgkcjpocfmmaaGreat.V
namespace Go.Proofs.YtebgkcjpocfmmaaGreat.V
open Go
set_option linter.unusedVariables false
noncomputable section
/-! ### impl.dominates: function 191 -/
namespace impl_dominates
abbrev R := (((Bool × Unit) × Unit) × Unit)
def f (k : Nat) (a0 : tFuncD) (a1 : Int) (a2 : Int) : Option R := Option.bind (impl_reach.f k a0 (-1)) fun r1 => bif (decide (0 ≤ a2)) && (decide (a2 < ((List.length r1.2.1 : Nat) : Int))) then (bif List.getD r1.2.1 (Int.toNat a2) false then (Option.bind (impl_reach.f k a0 a1) fun r2 => bif (decide (0 ≤ a2)) && (decide (a2 < ((List.length r2.2.1 : Nat) : Int))) then (some (((!(List.getD r2.2.1 (Int.toNat a2) false), ()), ()), ())) else none) else (some (((false, ()), ()), ()))) else none
abbrev S : ShapeParts := ⟨[⟨true, [.lst (.int .i64), .int .i64, .lst tBlock]⟩, ⟨false, [.int .i64]⟩, ⟨false, [.int .i64]⟩], [], false, [⟨false, [.bool]⟩], [], []⟩
def s (k : Nat) : FS := S.fs fun x => f k x.1.1 x.1.2.1.1 x.1.2.2.1.1
def E (k : Nat) : Ents := [(⟨94, []⟩, impl_reach.s k)]
def L : List (LS R) := []
def c : Code := Tryz.f191.body.getD .skip
theorem eq (k : Nat) (x) : (s k).pf x = execF tab (E k) Tryz.f191 c (s k) L x := by kernel_rfl
theorem sound : ∀ k, Sound Tryz.prog 191 (s k) := snd S (fun k => (s k).pf) E (fun k => (EntsOK.cons (impl_reach.sound k) EntsOK.nil)) (fun k => L) (fun k => trivial) eq
end impl_dominates
end
end Go.Proofs.YtebgkcjpocfmmaaGreat.V
namespace Go.Proofs.YtebgkcjpocfmmaaGreat.V
open Go
set_option linter.unusedVariables false
noncomputable section
/-! ### impl.isSeen: function 163 -/
namespace impl_isSeen
abbrev R := (((Bool × Unit) × Unit) × Unit)
def f (k : Nat) (a0 : tFuncD) (a1 : Int) (a2 : Int) (a3 : Int) : Option R := Option.bind (impl_PlaceOf.f k a0 a1) fun r1 => bif decide (r1.1.1.1 = -1) then (some (((true, ()), ()), ())) else (bif decide (r1.1.1.1 = a2) then (some (((decide (a1 < a3), ()), ()), ())) else (Option.bind (impl_dominates.f k a0 r1.1.1.1 a2) fun r2 => some (((r2.1.1.1, ()), ()), ())))
abbrev S : ShapeParts := ⟨[⟨true, [.lst (.int .i64), .int .i64, .lst tBlock]⟩, ⟨false, [.int .i64]⟩, ⟨false, [.int .i64]⟩, ⟨false, [.int .i64]⟩], [], false, [⟨false, [.bool]⟩], [], []⟩
def s (k : Nat) : FS := S.fs fun x => f k x.1.1 x.1.2.1.1 x.1.2.2.1.1 x.1.2.2.2.1.1
def E (k : Nat) : Ents := [(⟨137, []⟩, impl_PlaceOf.s k), (⟨191, []⟩, impl_dominates.s k)]
def L : List (LS R) := []
def c : Code := Tryz.f163.body.getD .skip
theorem eq (k : Nat) (x) : (s k).pf x = execF tab (E k) Tryz.f163 c (s k) L x := by kernel_rfl
theorem sound : ∀ k, Sound Tryz.prog 163 (s k) := snd S (fun k => (s k).pf) E (fun k => (EntsOK.cons (impl_PlaceOf.sound k) (EntsOK.cons (impl_dominates.sound k) EntsOK.nil))) (fun k => L) (fun k => trivial) eq
end impl_isSeen
end
end Go.Proofs.YtebgkcjpocfmmaaGreat.V
namespace Go.Proofs.YtebgkcjpocfmmaaGreat.V
open Go
set_option linter.unusedVariables false
noncomputable section
/-! ### impl.areSeen$1: function 165 -/
namespace impl_areSeen_1
abbrev R := (((Bool × Unit) × Unit) × Unit)
def f (k : Nat) (a0 : Int) (a1 : tFuncD) (a2 : Int) (a3 : Int) (a4 : Int) : Option R := Option.bind (impl_isSeen.f k a1 a0 a2 (IntKind.wrap .i64 (a3 + a4))) fun r1 => some (((!r1.1.1.1, ()), ()), ())
abbrev S : ShapeParts := ⟨[⟨false, [.int .i64]⟩, ⟨false, [.ptr 0 0]⟩, ⟨false, [.ptr 1 0]⟩, ⟨false, [.ptr 2 0]⟩, ⟨false, [.ptr 3 0]⟩], [(0, .cbox [.lst (.int .i64), .int .i64, .lst tBlock]), (1, .cbox [.int .i64]), (2, .cbox [.int .i64]), (3, .cbox [.int .i64])], false, [⟨false, [.bool]⟩], [], []⟩
def s (k : Nat) : FS := S.fs fun x => f k x.1.1.1 x.2.1 x.2.2.1.1 x.2.2.2.1.1 x.2.2.2.2.1.1
def E (k : Nat) : Ents := [(⟨163, []⟩, impl_isSeen.s k)]
def L : List (LS R) := []
def c : Code := Tryz.f165.body.getD .skip
theorem eq (k : Nat) (x) : (s k).pf x = execF tab (E k) Tryz.f165 c (s k) L x := by kernel_rfl
theorem sound : ∀ k, Sound Tryz.prog 165 (s k) := snd S (fun k => (s k).pf) E (fun k => (EntsOK.cons (impl_isSeen.sound k) EntsOK.nil)) (fun k => L) (fun k => trivial) eq
end impl_areSeen_1
end
end Go.Proofs.YtebgkcjpocfmmaaGreat.V
namespace Go.Proofs.YtebgkcjpocfmmaaGreat.V
open Go
set_option linter.unusedVariables false
noncomputable section
/-! ### slices.IndexFunc[[]int64,int64]: function 183 -/
namespace slices_IndexFunc_int64_int64_6
abbrev R := (((Int × Unit) × Unit) × Unit)
abbrev T0 : Type := (List Int) → Int → Int → tFuncD → Int → Int → Int → Option R
def l0_ (k : Nat) (l0 : T0) (a0 : List Int) (a1 : Int) (a2 : Int) (a3 : tFuncD) (a4 : Int) (a5 : Int) (a6 : Int) : Option R := bif decide (a2 < a1) then (bif (decide (0 ≤ a2)) && (decide (a2 < ((List.length a0 : Nat) : Int))) then (Option.bind (impl_areSeen_1.f k (List.getD a0 (Int.toNat a2) 0) a3 a4 a5 a6) fun r1 => bif r1.1.1.1 then (some (((a2, ()), ()), ())) else (l0 a0 a1 (IntKind.wrap .i64 (a2 + 1)) a3 a4 a5 a6)) else none) else (some (((-1, ()), ()), ()))
def all : Nat → (T0) × Unit
  | 0 => (fun _ _ _ _ _ _ _ => none, ())
  | k + 1 => (l0_ k (all k).1, ())
def l0 (k : Nat) : T0 := (all k).1
def f (k : Nat) (a0 : List Int) (a1 : tFuncD) (a2 : Int) (a3 : Int) (a4 : Int) : Option R := l0 k a0 ((List.length a0 : Nat) : Int) 0 a1 a2 a3 a4
abbrev S : ShapeParts := ⟨[⟨false, [.lst (.int .i64)]⟩, ⟨false, [.fn 165 [(0, 0), (1, 0), (2, 0), (3, 0)]]⟩], [(0, .cbox [.lst (.int .i64), .int .i64, .lst tBlock]), (1, .cbox [.int .i64]), (2, .cbox [.int .i64]), (3, .cbox [.int .i64])], false, [⟨false, [.int .i64]⟩], [], []⟩
def s (k : Nat) : FS := S.fs fun x => f k x.1.1.1 x.2.1 x.2.2.1.1 x.2.2.2.1.1 x.2.2.2.2.1.1
def E (k : Nat) : Ents := [(⟨165, []⟩, impl_areSeen_1.s k)]
def L0 (l : T0) : LS R := ⟨[], [(0, ⟨false, [.lst (.int .i64)]⟩), (1, ⟨false, [.fn 165 [(0, 0), (1, 0), (2, 0), (3, 0)]]⟩), (7, ⟨false, [.int .i64]⟩), (8, ⟨false, [.int .i64]⟩)], [(0, .cbox [.lst (.int .i64), .int .i64, .lst tBlock]), (1, .cbox [.int .i64]), (2, .cbox [.int .i64]), (3, .cbox [.int .i64])], fun x => l x.1.1.1 x.1.2.2.1.1 x.1.2.2.2.1.1 x.2.1 x.2.2.1.1 x.2.2.2.1.1 x.2.2.2.2.1.1⟩
def L (l0 : T0) : List (LS R) := [L0 l0]
def c : Code := Tryz.f183.body.getD .skip
theorem eq (k : Nat) (x) : (s k).pf x = execF tab (E k) Tryz.f183 c (s k) (L (l0 k)) x := by kernel_rfl
theorem r0 (l0 : T0) (k : Nat) (x) : (L0 (l0_ k l0)).l x = roundOf tab (E k) (L l0) c (fin tab Tryz.f183 (s k)) 0 (L0 l0) x := by kernel_rfl
theorem sound : ∀ k, Sound Tryz.prog 183 (s k) := snd S (fun k => (s k).pf) E (fun k => (EntsOK.cons (impl_areSeen_1.sound k) EntsOK.nil)) (fun k => L (l0 k)) (fun k => ⟨⟨(L0 (l0 (k + 1))).l, rfl, fun x => r0 (l0 k) k x⟩, trivial⟩) eq
end slices_IndexFunc_int64_int64_6
end
end Go.Proofs.YtebgkcjpocfmmaaGreat.V
namespace Go.Proofs.YtebgkcjpocfmmaaGreat.V
open Go
set_option linter.unusedVariables false
noncomputable section
/-! ### slices.ContainsFunc[[]int64,int64]: function 148 -/
namespace slices_ContainsFunc_int64_int64_6
abbrev R := (((Bool × Unit) × Unit) × Unit)
def f (k : Nat) (a0 : List Int) (a1 : tFuncD) (a2 : Int) (a3 : Int) (a4 : Int) : Option R := Option.bind (slices_IndexFunc_int64_int64_6.f k a0 a1 a2 a3 a4) fun r1 => some (((decide (0 ≤ r1.1.1.1), ()), ()), ())
abbrev S : ShapeParts := ⟨[⟨false, [.lst (.int .i64)]⟩, ⟨false, [.fn 165 [(0, 0), (1, 0), (2, 0), (3, 0)]]⟩], [(0, .cbox [.lst (.int .i64), .int .i64, .lst tBlock]), (1, .cbox [.int .i64]), (2, .cbox [.int .i64]), (3, .cbox [.int .i64])], false, [⟨false, [.bool]⟩], [], []⟩
def s (k : Nat) : FS := S.fs fun x => f k x.1.1.1 x.2.1 x.2.2.1.1 x.2.2.2.1.1 x.2.2.2.2.1.1
def E (k : Nat) : Ents := [(⟨183, [165]⟩, slices_IndexFunc_int64_int64_6.s k)]
def L : List (LS R) := []
def c : Code := Tryz.f148.body.getD .skip
theorem eq (k : Nat) (x) : (s k).pf x = execF tab (E k) Tryz.f148 c (s k) L x := by kernel_rfl
theorem sound : ∀ k, Sound Tryz.prog 148 (s k) := snd S (fun k => (s k).pf) E (fun k => (EntsOK.cons (slices_IndexFunc_int64_int64_6.sound k) EntsOK.nil)) (fun k => L) (fun k => trivial) eq
end slices_ContainsFunc_int64_int64_6
end
end Go.Proofs.YtebgkcjpocfmmaaGreat.V
namespace Go.Proofs.YtebgkcjpocfmmaaGreat.V
open Go
set_option linter.unusedVariables false
noncomputable section
/-! ### impl.areSeen: function 95 -/
namespace impl_areSeen
abbrev R := (((Bool × Unit) × Unit) × Unit)
abbrev T0 : Type := (List Bool) → (List tPhiD) → Int → Int → tFuncD → Int → tBlockD → (List Int) → Option R
abbrev T1 : Type := (List Bool) → (List tPhiD) → Int → Int → (List Int) → Int → Int → tFuncD → Int → tBlockD → (List Int) → Option R
abbrev T2 : Type := (List tInstD) → Int → Int → tFuncD → Int → tBlockD → Int → Option R
def l0_ (k : Nat) (l0 : T0) (l1 : T1) (l2 : T2) (a0 : List Bool) (a1 : List tPhiD) (a2 : Int) (a3 : Int) (a4 : tFuncD) (a5 : Int) (a6 : tBlockD) (a7 : List Int) : Option R := bif decide (a3 < a2) then (bif (decide (0 ≤ a3)) && (decide (a3 < ((List.length a1 : Nat) : Int))) then (l1 a0 a1 a2 a3 ((List.getD a1 (Int.toNat a3) tPhiZ).2.1) ((List.length ((List.getD a1 (Int.toNat a3) tPhiZ).2.1) : Nat) : Int) 0 a4 a5 a6 a7) else none) else (Option.bind (impl_firstOf.f k a4 a5) fun r1 => l2 a6.2.1 ((List.length a6.2.1 : Nat) : Int) 0 a4 a5 a6 (IntKind.wrap .i64 (r1.1.1.1 + ((List.length a6.1 : Nat) : Int))))
def l1_ (k : Nat) (l0 : T0) (l1 : T1) (l2 : T2) (a0 : List Bool) (a1 : List tPhiD) (a2 : Int) (a3 : Int) (a4 : List Int) (a5 : Int) (a6 : Int) (a7 : tFuncD) (a8 : Int) (a9 : tBlockD) (a10 : List Int) : Option R := bif decide (a6 < a5) then (bif (decide (0 ≤ a6)) && (decide (a6 < ((List.length a4 : Nat) : Int))) then (bif (decide (0 ≤ a6)) && (decide (a6 < ((List.length a10 : Nat) : Int))) then (bif (decide (0 ≤ List.getD a10 (Int.toNat a6) 0)) && (decide (List.getD a10 (Int.toNat a6) 0 < ((List.length a0 : Nat) : Int))) then (bif List.getD a0 (Int.toNat (List.getD a10 (Int.toNat a6) 0)) false then (bif (decide (0 ≤ a6)) && (decide (a6 < ((List.length a10 : Nat) : Int))) then (Option.bind (impl_CountOf.f k a7) fun r1 => Option.bind (impl_isSeen.f k a7 (List.getD a4 (Int.toNat a6) 0) (List.getD a10 (Int.toNat a6) 0) r1.1.1.1) fun r2 => bif !r2.1.1.1 then (some (((false, ()), ()), ())) else (l1 a0 a1 a2 a3 a4 a5 (IntKind.wrap .i64 (a6 + 1)) a7 a8 a9 a10)) else none) else (l1 a0 a1 a2 a3 a4 a5 (IntKind.wrap .i64 (a6 + 1)) a7 a8 a9 a10)) else none) else none) else none) else (l0 a0 a1 a2 (IntKind.wrap .i64 (a3 + 1)) a7 a8 a9 a10)
def l2_ (k : Nat) (l0 : T0) (l1 : T1) (l2 : T2) (a0 : List tInstD) (a1 : Int) (a2 : Int) (a3 : tFuncD) (a4 : Int) (a5 : tBlockD) (a6 : Int) : Option R := bif decide (a2 < a1) then (bif (decide (0 ≤ a2)) && (decide (a2 < ((List.length a0 : Nat) : Int))) then (Option.bind (impl_OperandsOf.f k (List.getD a0 (Int.toNat a2) tInstZ)) fun r1 => Option.bind (slices_ContainsFunc_int64_int64_6.f k r1.2.1 a3 a4 a6 a2) fun r2 => bif r2.1.1.1 then (some (((false, ()), ()), ())) else (l2 a0 a1 (IntKind.wrap .i64 (a2 + 1)) a3 a4 a5 a6)) else none) else (bif decide (a5.2.2.1 = 1) then (Option.bind (impl_CountOf.f k a3) fun r3 => Option.bind (impl_isSeen.f k a3 a5.2.2.2.1 a4 r3.1.1.1) fun r4 => some (((r4.1.1.1, ()), ()), ())) else (bif !(decide (a5.2.2.1 = 3)) then (some (((true, ()), ()), ())) else (Option.bind (impl_CountOf.f k a3) fun r5 => Option.bind (impl_isSeen.f k a3 a5.2.2.2.1 a4 r5.1.1.1) fun r6 => some (((r6.1.1.1, ()), ()), ()))))
def all : Nat → (T0) × (T1) × (T2) × Unit
  | 0 => (fun _ _ _ _ _ _ _ _ => none, fun _ _ _ _ _ _ _ _ _ _ _ => none, fun _ _ _ _ _ _ _ => none, ())
  | k + 1 => (l0_ k (all k).1 (all k).2.1 (all k).2.2.1, l1_ k (all k).1 (all k).2.1 (all k).2.2.1, l2_ k (all k).1 (all k).2.1 (all k).2.2.1, ())
def l0 (k : Nat) : T0 := (all k).1
def l1 (k : Nat) : T1 := (all k).2.1
def l2 (k : Nat) : T2 := (all k).2.2.1
def f (k : Nat) (a0 : tFuncD) (a1 : Int) (a2 : List Bool) : Option R := bif (decide (0 ≤ a1)) && (decide (a1 < ((List.length a0.2.2.1 : Nat) : Int))) then (Option.bind (impl_predsOf.f k a0 a1) fun r1 => l0 k a2 ((List.getD a0.2.2.1 (Int.toNat a1) tBlockZ).1) ((List.length ((List.getD a0.2.2.1 (Int.toNat a1) tBlockZ).1) : Nat) : Int) 0 a0 a1 (List.getD a0.2.2.1 (Int.toNat a1) tBlockZ) r1.2.1) else none
abbrev S : ShapeParts := ⟨[⟨true, [.lst (.int .i64), .int .i64, .lst tBlock]⟩, ⟨false, [.int .i64]⟩, ⟨false, [.lst .bool]⟩], [], false, [⟨false, [.bool]⟩], [], []⟩
def s (k : Nat) : FS := S.fs fun x => f k x.1.1 x.1.2.1.1 x.1.2.2.1.1
def E (k : Nat) : Ents := [(⟨156, []⟩, impl_predsOf.s k), (⟨115, []⟩, impl_firstOf.s k), (⟨111, []⟩, impl_CountOf.s k), (⟨163, []⟩, impl_isSeen.s k), (⟨164, []⟩, impl_OperandsOf.s k), (⟨148, [165]⟩, slices_ContainsFunc_int64_int64_6.s k)]
def L0 (l : T0) : LS R := ⟨[], [(2, ⟨false, [.lst .bool]⟩), (3, ⟨false, [.ptr 100000 0]⟩), (4, ⟨false, [.ptr 100001 0]⟩), (7, ⟨false, [.ptr 100002 0]⟩), (8, ⟨false, [.own 100003]⟩), (26, ⟨false, [.lst tPhi]⟩), (27, ⟨false, [.int .i64]⟩), (28, ⟨false, [.int .i64]⟩)], [(100000, .box [.lst (.int .i64), .int .i64, .lst tBlock]), (100001, .box [.int .i64]), (100002, .box [.lst tPhi, .lst tInst, .int .i64, .int .i64, .int .i64, .int .i64]), (100003, .row true (.int .i64))], fun x => l x.1.1.1 x.1.2.2.2.2.2.1.1 x.1.2.2.2.2.2.2.1.1 x.1.2.2.2.2.2.2.2.1.1 x.2.1 x.2.2.1.1 x.2.2.2.1 x.2.2.2.2.1⟩
def L1 (l : T1) : LS R := ⟨[], [(2, ⟨false, [.lst .bool]⟩), (3, ⟨false, [.ptr 100000 0]⟩), (4, ⟨false, [.ptr 100001 0]⟩), (7, ⟨false, [.ptr 100002 0]⟩), (8, ⟨false, [.own 100003]⟩), (26, ⟨false, [.lst tPhi]⟩), (27, ⟨false, [.int .i64]⟩), (28, ⟨false, [.int .i64]⟩), (33, ⟨false, [.lst (.int .i64)]⟩), (34, ⟨false, [.int .i64]⟩), (35, ⟨false, [.int .i64]⟩)], [(100000, .box [.lst (.int .i64), .int .i64, .lst tBlock]), (100001, .box [.int .i64]), (100002, .box [.lst tPhi, .lst tInst, .int .i64, .int .i64, .int .i64, .int .i64]), (100003, .row true (.int .i64))], fun x => l x.1.1.1 x.1.2.2.2.2.2.1.1 x.1.2.2.2.2.2.2.1.1 x.1.2.2.2.2.2.2.2.1.1 x.1.2.2.2.2.2.2.2.2.1.1 x.1.2.2.2.2.2.2.2.2.2.1.1 x.1.2.2.2.2.2.2.2.2.2.2.1.1 x.2.1 x.2.2.1.1 x.2.2.2.1 x.2.2.2.2.1⟩
def L2 (l : T2) : LS R := ⟨[], [(3, ⟨false, [.ptr 100000 0]⟩), (4, ⟨false, [.ptr 100001 0]⟩), (7, ⟨false, [.ptr 100002 0]⟩), (13, ⟨false, [.ptr 100003 0]⟩), (69, ⟨false, [.lst tInst]⟩), (70, ⟨false, [.int .i64]⟩), (71, ⟨false, [.int .i64]⟩)], [(100000, .box [.lst (.int .i64), .int .i64, .lst tBlock]), (100001, .box [.int .i64]), (100002, .box [.lst tPhi, .lst tInst, .int .i64, .int .i64, .int .i64, .int .i64]), (100003, .box [.int .i64])], fun x => l x.1.2.2.2.2.1.1 x.1.2.2.2.2.2.1.1 x.1.2.2.2.2.2.2.1.1 x.2.1 x.2.2.1.1 x.2.2.2.1 x.2.2.2.2.1.1⟩
def L (l0 : T0) (l1 : T1) (l2 : T2) : List (LS R) := [L0 l0, L1 l1, L2 l2]
def c : Code := Tryz.f95.body.getD .skip
theorem eq (k : Nat) (x) : (s k).pf x = execF tab (E k) Tryz.f95 c (s k) (L (l0 k) (l1 k) (l2 k)) x := by kernel_rfl
theorem r0 (l0 : T0) (l1 : T1) (l2 : T2) (k : Nat) (x) : (L0 (l0_ k l0 l1 l2)).l x = roundOf tab (E k) (L l0 l1 l2) c (fin tab Tryz.f95 (s k)) 0 (L0 l0) x := by kernel_rfl
theorem r1 (l0 : T0) (l1 : T1) (l2 : T2) (k : Nat) (x) : (L1 (l1_ k l0 l1 l2)).l x = roundOf tab (E k) (L l0 l1 l2) c (fin tab Tryz.f95 (s k)) 1 (L1 l1) x := by kernel_rfl
theorem r2 (l0 : T0) (l1 : T1) (l2 : T2) (k : Nat) (x) : (L2 (l2_ k l0 l1 l2)).l x = roundOf tab (E k) (L l0 l1 l2) c (fin tab Tryz.f95 (s k)) 2 (L2 l2) x := by kernel_rfl
theorem sound : ∀ k, Sound Tryz.prog 95 (s k) := snd S (fun k => (s k).pf) E (fun k => (EntsOK.cons (impl_predsOf.sound k) (EntsOK.cons (impl_firstOf.sound k) (EntsOK.cons (impl_CountOf.sound k) (EntsOK.cons (impl_isSeen.sound k) (EntsOK.cons (impl_OperandsOf.sound k) (EntsOK.cons (slices_ContainsFunc_int64_int64_6.sound k) EntsOK.nil))))))) (fun k => L (l0 k) (l1 k) (l2 k)) (fun k => ⟨⟨(L0 (l0 (k + 1))).l, rfl, fun x => r0 (l0 k) (l1 k) (l2 k) k x⟩, ⟨(L1 (l1 (k + 1))).l, rfl, fun x => r1 (l0 k) (l1 k) (l2 k) k x⟩, ⟨(L2 (l2 (k + 1))).l, rfl, fun x => r2 (l0 k) (l1 k) (l2 k) k x⟩, trivial⟩) eq
end impl_areSeen
end
end Go.Proofs.YtebgkcjpocfmmaaGreat.V
namespace Go.Proofs.YtebgkcjpocfmmaaGreat.V
open Go
set_option linter.unusedVariables false
noncomputable section
/-! ### impl.checked: function 42 -/
namespace impl_checked
abbrev R := (((Int × Unit) × Unit) × Unit)
abbrev T0 : Type := (List tBlockD) → Int → Int → (List tFuncD) → tFuncD → Option R
abbrev T1 : Type := Int → Int → tFuncD → (List Bool) → Option R
def l0_ (k : Nat) (l0 : T0) (l1 : T1) (a0 : List tBlockD) (a1 : Int) (a2 : Int) (a3 : List tFuncD) (a4 : tFuncD) : Option R := bif decide (a2 < a1) then (bif (decide (0 ≤ a2)) && (decide (a2 < ((List.length a0 : Nat) : Int))) then (Option.bind (slices_ContainsFunc_impl_Inst_impl_Inst_3.f k ((List.getD a0 (Int.toNat a2) tBlockZ).2.1) a3 a4) fun r1 => bif r1.1.1.1 then (some (((5, ()), ()), ())) else (l0 a0 a1 (IntKind.wrap .i64 (a2 + 1)) a3 a4)) else none) else (Option.bind (impl_reach.f k a4 (-1)) fun r2 => l1 ((List.length r2.2.1 : Nat) : Int) 0 a4 r2.2.1)
def l1_ (k : Nat) (l0 : T0) (l1 : T1) (a0 : Int) (a1 : Int) (a2 : tFuncD) (a3 : List Bool) : Option R := bif decide (a1 < a0) then (bif (decide (0 ≤ a1)) && (decide (a1 < ((List.length a3 : Nat) : Int))) then (bif List.getD a3 (Int.toNat a1) false then (Option.bind (impl_areSeen.f k a2 a1 a3) fun r1 => bif !r1.1.1.1 then (some (((6, ()), ()), ())) else (l1 a0 (IntKind.wrap .i64 (a1 + 1)) a2 a3)) else (l1 a0 (IntKind.wrap .i64 (a1 + 1)) a2 a3)) else none) else (some (((0, ()), ()), ()))
def all : Nat → (T0) × (T1) × Unit
  | 0 => (fun _ _ _ _ _ => none, fun _ _ _ _ => none, ())
  | k + 1 => (l0_ k (all k).1 (all k).2.1, l1_ k (all k).1 (all k).2.1, ())
def l0 (k : Nat) : T0 := (all k).1
def l1 (k : Nat) : T1 := (all k).2.1
def f (k : Nat) (a0 : tModuleD) (a1 : tFuncD) : Option R := Option.bind (impl_isEntry.f k a1) fun r1 => bif !r1.1.1.1 then (some (((2, ()), ()), ())) else (Option.bind (impl_arePhis.f k a1) fun r2 => bif !r2.1.1.1 then (some (((3, ()), ()), ())) else (Option.bind (impl_areTypes.f k a1) fun r3 => bif !r3.1.1.1 then (some (((4, ()), ()), ())) else (l0 k a1.2.2.1 ((List.length a1.2.2.1 : Nat) : Int) 0 a0.1 a1)))
abbrev S : ShapeParts := ⟨[⟨true, [.lst tFunc]⟩, ⟨true, [.lst (.int .i64), .int .i64, .lst tBlock]⟩], [], false, [⟨false, [.int .i64]⟩], [], []⟩
def s (k : Nat) : FS := S.fs fun x => f k x.1.1 x.1.2.1
def E (k : Nat) : Ents := [(⟨88, []⟩, impl_isEntry.s k), (⟨89, []⟩, impl_arePhis.s k), (⟨90, []⟩, impl_areTypes.s k), (⟨91, [92]⟩, slices_ContainsFunc_impl_Inst_impl_Inst_3.s k), (⟨94, []⟩, impl_reach.s k), (⟨95, []⟩, impl_areSeen.s k)]
def L0 (l : T0) : LS R := ⟨[], [(2, ⟨false, [.ptr 100000 0]⟩), (3, ⟨false, [.ptr 100001 0]⟩), (23, ⟨false, [.lst tBlock]⟩), (24, ⟨false, [.int .i64]⟩), (25, ⟨false, [.int .i64]⟩)], [(100000, .box [.lst tFunc]), (100001, .box [.lst (.int .i64), .int .i64, .lst tBlock])], fun x => l x.1.2.2.1.1 x.1.2.2.2.1.1 x.1.2.2.2.2.1.1 x.2.1.1 x.2.2.1⟩
def L1 (l : T1) : LS R := ⟨[], [(3, ⟨false, [.ptr 100000 0]⟩), (7, ⟨false, [.own 100001]⟩), (36, ⟨false, [.own 100001]⟩), (37, ⟨false, [.int .i64]⟩), (38, ⟨false, [.int .i64]⟩)], [(100000, .box [.lst (.int .i64), .int .i64, .lst tBlock]), (100001, .row true .bool)], fun x => l x.1.2.2.2.1.1 x.1.2.2.2.2.1.1 x.2.1 x.2.2.1⟩
def L (l0 : T0) (l1 : T1) : List (LS R) := [L0 l0, L1 l1]
def c : Code := Tryz.f42.body.getD .skip
theorem eq (k : Nat) (x) : (s k).pf x = execF tab (E k) Tryz.f42 c (s k) (L (l0 k) (l1 k)) x := by kernel_rfl
theorem r0 (l0 : T0) (l1 : T1) (k : Nat) (x) : (L0 (l0_ k l0 l1)).l x = roundOf tab (E k) (L l0 l1) c (fin tab Tryz.f42 (s k)) 0 (L0 l0) x := by kernel_rfl
theorem r1 (l0 : T0) (l1 : T1) (k : Nat) (x) : (L1 (l1_ k l0 l1)).l x = roundOf tab (E k) (L l0 l1) c (fin tab Tryz.f42 (s k)) 1 (L1 l1) x := by kernel_rfl
theorem sound : ∀ k, Sound Tryz.prog 42 (s k) := snd S (fun k => (s k).pf) E (fun k => (EntsOK.cons (impl_isEntry.sound k) (EntsOK.cons (impl_arePhis.sound k) (EntsOK.cons (impl_areTypes.sound k) (EntsOK.cons (slices_ContainsFunc_impl_Inst_impl_Inst_3.sound k) (EntsOK.cons (impl_reach.sound k) (EntsOK.cons (impl_areSeen.sound k) EntsOK.nil))))))) (fun k => L (l0 k) (l1 k)) (fun k => ⟨⟨(L0 (l0 (k + 1))).l, rfl, fun x => r0 (l0 k) (l1 k) k x⟩, ⟨(L1 (l1 (k + 1))).l, rfl, fun x => r1 (l0 k) (l1 k) k x⟩, trivial⟩) eq
end impl_checked
end
end Go.Proofs.YtebgkcjpocfmmaaGreat.V
namespace Go.Proofs.YtebgkcjpocfmmaaGreat.V
open Go
set_option linter.unusedVariables false
noncomputable section
/-! ### impl.Checked: function 20 -/
namespace impl_Checked
abbrev R := (((Int × Unit) × Unit) × Unit)
abbrev T0 : Type := (List tFuncD) → Int → Int → (List tFuncD) → Option R
def l0_ (k : Nat) (l0 : T0) (a0 : List tFuncD) (a1 : Int) (a2 : Int) (a3 : List tFuncD) : Option R := bif decide (a2 < a1) then (bif (decide (0 ≤ a2)) && (decide (a2 < ((List.length a0 : Nat) : Int))) then (Option.bind (impl_checked.f k (a3, ()) (List.getD a0 (Int.toNat a2) tFuncZ)) fun r1 => bif !decide (r1.1.1.1 = 0) then (some (((r1.1.1.1, ()), ()), ())) else (l0 a0 a1 (IntKind.wrap .i64 (a2 + 1)) a3)) else none) else (some (((0, ()), ()), ()))
def all : Nat → (T0) × Unit
  | 0 => (fun _ _ _ _ => none, ())
  | k + 1 => (l0_ k (all k).1, ())
def l0 (k : Nat) : T0 := (all k).1
def f (k : Nat) (a0 : tModuleD) : Option R := Option.bind (impl_ShapeOk.f k (a0.1, ())) fun r1 => bif !r1.1.1.1 then (some (((1, ()), ()), ())) else (l0 k a0.1 ((List.length a0.1 : Nat) : Int) 0 a0.1)
abbrev S : ShapeParts := ⟨[⟨true, [.lst tFunc]⟩], [], false, [⟨false, [.int .i64]⟩], [], []⟩
def s (k : Nat) : FS := S.fs fun x => f k x.1.1
def E (k : Nat) : Ents := [(⟨40, []⟩, impl_ShapeOk.s k), (⟨42, []⟩, impl_checked.s k)]
def L0 (l : T0) : LS R := ⟨[], [(1, ⟨false, [.ptr 100000 0]⟩), (10, ⟨false, [.lst tFunc]⟩), (11, ⟨false, [.int .i64]⟩), (12, ⟨false, [.int .i64]⟩)], [(100000, .box [.lst tFunc])], fun x => l x.1.2.1.1 x.1.2.2.1.1 x.1.2.2.2.1.1 x.2.1.1⟩
def L (l0 : T0) : List (LS R) := [L0 l0]
def c : Code := Tryz.f20.body.getD .skip
theorem eq (k : Nat) (x) : (s k).pf x = execF tab (E k) Tryz.f20 c (s k) (L (l0 k)) x := by kernel_rfl
theorem r0 (l0 : T0) (k : Nat) (x) : (L0 (l0_ k l0)).l x = roundOf tab (E k) (L l0) c (fin tab Tryz.f20 (s k)) 0 (L0 l0) x := by kernel_rfl
theorem sound : ∀ k, Sound Tryz.prog 20 (s k) := snd S (fun k => (s k).pf) E (fun k => (EntsOK.cons (impl_ShapeOk.sound k) (EntsOK.cons (impl_checked.sound k) EntsOK.nil))) (fun k => L (l0 k)) (fun k => ⟨⟨(L0 (l0 (k + 1))).l, rfl, fun x => r0 (l0 k) k x⟩, trivial⟩) eq
end impl_Checked
end
end Go.Proofs.YtebgkcjpocfmmaaGreat.V
namespace Go.Proofs.YtebgkcjpocfmmaaGreat.V
open Go
set_option linter.unusedVariables false
noncomputable section
/-! ### impl.isOk: function 110 -/
namespace impl_isOk
abbrev R := (((Bool × Unit) × Unit) × Unit)
def f (k : Nat) (a0 : tModuleD) : Option R := Option.bind (impl_Checked.f k (a0.1, ())) fun r1 => some (((decide (r1.1.1.1 = 0), ()), ()), ())
abbrev S : ShapeParts := ⟨[⟨true, [.lst tFunc]⟩], [], false, [⟨false, [.bool]⟩], [], []⟩
def s (k : Nat) : FS := S.fs fun x => f k x.1.1
def E (k : Nat) : Ents := [(⟨20, []⟩, impl_Checked.s k)]
def L : List (LS R) := []
def c : Code := Tryz.f110.body.getD .skip
theorem eq (k : Nat) (x) : (s k).pf x = execF tab (E k) Tryz.f110 c (s k) L x := by kernel_rfl
theorem sound : ∀ k, Sound Tryz.prog 110 (s k) := snd S (fun k => (s k).pf) E (fun k => (EntsOK.cons (impl_Checked.sound k) EntsOK.nil)) (fun k => L) (fun k => trivial) eq
end impl_isOk
end
end Go.Proofs.YtebgkcjpocfmmaaGreat.V
namespace Go.Proofs.YtebgkcjpocfmmaaGreat.V
open Go
set_option linter.unusedVariables false
noncomputable section
/-! ### impl.ownInst: function 168 -/
namespace impl_ownInst
abbrev R := (((Int × Int × Int × Int × Int × Int × Unit × Unit) × Unit) × ((List Int) × Unit))
def f (k : Nat) (a0 : tInstD) : Option R := Option.bind (slices_Clone_int64_int64.f k a0.2.2.2.2.2.2.1) fun r1 => some (((a0.1, a0.2.1, a0.2.2.1, a0.2.2.2.1, a0.2.2.2.2.1, a0.2.2.2.2.2.1, (), ()), ()), (r1.2.1, ()))
abbrev S : ShapeParts := ⟨[⟨true, [.int .i64, .int .i64, .int .i64, .int .i64, .int .i64, .int .i64, .lst (.int .i64)]⟩], [], false, [⟨true, [.int .i64, .int .i64, .int .i64, .int .i64, .int .i64, .int .i64, .own 100]⟩], [(100, .row true (.int .i64))], []⟩
def s (k : Nat) : FS := S.fs fun x => f k x.1.1
def E (k : Nat) : Ents := [(⟨166, []⟩, slices_Clone_int64_int64.s k)]
def L : List (LS R) := []
def c : Code := Tryz.f168.body.getD .skip
theorem eq (k : Nat) (x) : (s k).pf x = execF tab (E k) Tryz.f168 c (s k) L x := by kernel_rfl
theorem sound : ∀ k, Sound Tryz.prog 168 (s k) := snd S (fun k => (s k).pf) E (fun k => (EntsOK.cons (slices_Clone_int64_int64.sound k) EntsOK.nil)) (fun k => L) (fun k => trivial) eq
end impl_ownInst
end
end Go.Proofs.YtebgkcjpocfmmaaGreat.V
namespace Go.Proofs.YtebgkcjpocfmmaaGreat.V
open Go
set_option linter.unusedVariables false
noncomputable section
/-! ### impl.ownBlock: function 167 -/
namespace impl_ownBlock
abbrev R := (((Unit × Unit × Int × Int × Int × Int × Unit) × Unit) × ((List tPhiD) × (List tInstD) × Unit))
abbrev T0 : Type := (List tPhiD) → Int → Int → tBlockD → Int → Int → Int → Int → (List tPhiD) → (List tInstD) → Int → Int → Int → Int → (List tPhiD) → (List tInstD) → Option R
abbrev T1 : Type := (List tInstD) → Int → Int → Int → Int → Int → Int → (List tPhiD) → (List tInstD) → Int → Int → Int → Int → (List tPhiD) → (List tInstD) → Option R
def l0_ (k : Nat) (l0 : T0) (l1 : T1) (a0 : List tPhiD) (a1 : Int) (a2 : Int) (a3 : tBlockD) (a4 : Int) (a5 : Int) (a6 : Int) (a7 : Int) (a8 : List tPhiD) (a9 : List tInstD) (a10 : Int) (a11 : Int) (a12 : Int) (a13 : Int) (a14 : List tPhiD) (a15 : List tInstD) : Option R := bif decide (a2 < a1) then (bif (decide (0 ≤ a2)) && (decide (a2 < ((List.length a0 : Nat) : Int))) then (Option.bind (slices_Clone_int64_int64.f k ((List.getD a0 (Int.toNat a2) tPhiZ).2.1)) fun r1 => bif decide ((List.length a14 + List.length [(((List.getD a0 (Int.toNat a2) tPhiZ).1, r1.2.1, ()) : tPhiD)]) * 32 ≤ 140737488355328) then (l0 a0 a1 (IntKind.wrap .i64 (a2 + 1)) a3 a4 a5 a6 a7 a8 a9 a10 a11 a12 a13 (a14 ++ [(((List.getD a0 (Int.toNat a2) tPhiZ).1, r1.2.1, ()) : tPhiD)]) a15) else none) else none) else (l1 a3.2.1 ((List.length a3.2.1 : Nat) : Int) 0 a4 a5 a6 a7 a8 a9 a10 a11 a12 a13 a14 a15)
def l1_ (k : Nat) (l0 : T0) (l1 : T1) (a0 : List tInstD) (a1 : Int) (a2 : Int) (a3 : Int) (a4 : Int) (a5 : Int) (a6 : Int) (a7 : List tPhiD) (a8 : List tInstD) (a9 : Int) (a10 : Int) (a11 : Int) (a12 : Int) (a13 : List tPhiD) (a14 : List tInstD) : Option R := bif decide (a2 < a1) then (bif (decide (0 ≤ a2)) && (decide (a2 < ((List.length a0 : Nat) : Int))) then (Option.bind (impl_ownInst.f k (List.getD a0 (Int.toNat a2) tInstZ)) fun r1 => bif decide ((List.length a14 + List.length [((r1.1.1.1, r1.1.1.2.1, r1.1.1.2.2.1, r1.1.1.2.2.2.1, r1.1.1.2.2.2.2.1, r1.1.1.2.2.2.2.2.1, r1.2.1, ()) : tInstD)]) * 72 ≤ 140737488355328) then (l1 a0 a1 (IntKind.wrap .i64 (a2 + 1)) a3 a4 a5 a6 a7 a8 a9 a10 a11 a12 a13 (a14 ++ [((r1.1.1.1, r1.1.1.2.1, r1.1.1.2.2.1, r1.1.1.2.2.2.1, r1.1.1.2.2.2.2.1, r1.1.1.2.2.2.2.2.1, r1.2.1, ()) : tInstD)])) else none) else none) else (some ((((), (), a9, a10, a11, a12, ()), ()), (a13, a14, ())))
def all : Nat → (T0) × (T1) × Unit
  | 0 => (fun _ _ _ _ _ _ _ _ _ _ _ _ _ _ _ _ => none, fun _ _ _ _ _ _ _ _ _ _ _ _ _ _ _ => none, ())
  | k + 1 => (l0_ k (all k).1 (all k).2.1, l1_ k (all k).1 (all k).2.1, ())
def l0 (k : Nat) : T0 := (all k).1
def l1 (k : Nat) : T1 := (all k).2.1
def f (k : Nat) (a0 : tBlockD) : Option R := l0 k a0.1 ((List.length a0.1 : Nat) : Int) 0 a0 0 0 0 0 ([] : List tPhiD) ([] : List tInstD) a0.2.2.1 a0.2.2.2.1 a0.2.2.2.2.1 a0.2.2.2.2.2.1 ([] : List tPhiD) ([] : List tInstD)
abbrev S : ShapeParts := ⟨[⟨true, [.lst tPhi, .lst tInst, .int .i64, .int .i64, .int .i64, .int .i64]⟩], [], false, [⟨true, [.own 100, .own 101, .int .i64, .int .i64, .int .i64, .int .i64]⟩], [(100, .row true tPhi), (101, .row true tInst)], []⟩
def s (k : Nat) : FS := S.fs fun x => f k x.1.1
def E (k : Nat) : Ents := [(⟨166, []⟩, slices_Clone_int64_int64.s k), (⟨168, []⟩, impl_ownInst.s k)]
def L0 (l : T0) : LS R := ⟨[], [(1, ⟨false, [.ptr 100000 0]⟩), (2, ⟨false, [.ptr 100001 0]⟩), (3, ⟨false, [.ptr 100004 0]⟩), (12, ⟨false, [.lst tPhi]⟩), (13, ⟨false, [.int .i64]⟩), (14, ⟨false, [.int .i64]⟩)], [(100000, .box [.lst tPhi, .lst tInst, .int .i64, .int .i64, .int .i64, .int .i64]), (100001, .box [.own 100002, .own 100003, .int .i64, .int .i64, .int .i64, .int .i64]), (100002, .row true tPhi), (100003, .row true tInst), (100004, .box [.own 100005, .own 100006, .int .i64, .int .i64, .int .i64, .int .i64]), (100005, .row true tPhi), (100006, .row true tInst)], fun x => l x.1.2.2.2.1.1 x.1.2.2.2.2.1.1 x.1.2.2.2.2.2.1.1 x.2.1 x.2.2.1.2.2.1 x.2.2.1.2.2.2.1 x.2.2.1.2.2.2.2.1 x.2.2.1.2.2.2.2.2.1 x.2.2.2.1 x.2.2.2.2.1 x.2.2.2.2.2.1.2.2.1 x.2.2.2.2.2.1.2.2.2.1 x.2.2.2.2.2.1.2.2.2.2.1 x.2.2.2.2.2.1.2.2.2.2.2.1 x.2.2.2.2.2.2.1 x.2.2.2.2.2.2.2.1⟩
def L1 (l : T1) : LS R := ⟨[], [(2, ⟨false, [.ptr 100000 0]⟩), (3, ⟨false, [.ptr 100003 0]⟩), (31, ⟨false, [.lst tInst]⟩), (32, ⟨false, [.int .i64]⟩), (33, ⟨false, [.int .i64]⟩)], [(100000, .box [.own 100001, .own 100002, .int .i64, .int .i64, .int .i64, .int .i64]), (100001, .row true tPhi), (100002, .row true tInst), (100003, .box [.own 100004, .own 100005, .int .i64, .int .i64, .int .i64, .int .i64]), (100004, .row true tPhi), (100005, .row true tInst)], fun x => l x.1.2.2.1.1 x.1.2.2.2.1.1 x.1.2.2.2.2.1.1 x.2.1.2.2.1 x.2.1.2.2.2.1 x.2.1.2.2.2.2.1 x.2.1.2.2.2.2.2.1 x.2.2.1 x.2.2.2.1 x.2.2.2.2.1.2.2.1 x.2.2.2.2.1.2.2.2.1 x.2.2.2.2.1.2.2.2.2.1 x.2.2.2.2.1.2.2.2.2.2.1 x.2.2.2.2.2.1 x.2.2.2.2.2.2.1⟩
def L (l0 : T0) (l1 : T1) : List (LS R) := [L0 l0, L1 l1]
def c : Code := Tryz.f167.body.getD .skip
theorem eq (k : Nat) (x) : (s k).pf x = execF tab (E k) Tryz.f167 c (s k) (L (l0 k) (l1 k)) x := by kernel_rfl
theorem r0 (l0 : T0) (l1 : T1) (k : Nat) (x) : (L0 (l0_ k l0 l1)).l x = roundOf tab (E k) (L l0 l1) c (fin tab Tryz.f167 (s k)) 0 (L0 l0) x := by kernel_rfl
theorem r1 (l0 : T0) (l1 : T1) (k : Nat) (x) : (L1 (l1_ k l0 l1)).l x = roundOf tab (E k) (L l0 l1) c (fin tab Tryz.f167 (s k)) 1 (L1 l1) x := by kernel_rfl
theorem sound : ∀ k, Sound Tryz.prog 167 (s k) := snd S (fun k => (s k).pf) E (fun k => (EntsOK.cons (slices_Clone_int64_int64.sound k) (EntsOK.cons (impl_ownInst.sound k) EntsOK.nil))) (fun k => L (l0 k) (l1 k)) (fun k => ⟨⟨(L0 (l0 (k + 1))).l, rfl, fun x => r0 (l0 k) (l1 k) k x⟩, ⟨(L1 (l1 (k + 1))).l, rfl, fun x => r1 (l0 k) (l1 k) k x⟩, trivial⟩) eq
end impl_ownBlock
end
end Go.Proofs.YtebgkcjpocfmmaaGreat.V
namespace Go.Proofs.YtebgkcjpocfmmaaGreat.V
open Go
set_option linter.unusedVariables false
noncomputable section
/-! ### impl.ownFunc: function 99 -/
namespace impl_ownFunc
abbrev R := (((Unit × Int × Unit × Unit) × Unit) × ((List Int) × (List tBlockD) × Unit))
abbrev T0 : Type := (List tBlockD) → Int → Int → Int → (List Int) → (List tBlockD) → Int → (List Int) → (List tBlockD) → Option R
def l0_ (k : Nat) (l0 : T0) (a0 : List tBlockD) (a1 : Int) (a2 : Int) (a3 : Int) (a4 : List Int) (a5 : List tBlockD) (a6 : Int) (a7 : List Int) (a8 : List tBlockD) : Option R := bif decide (a2 < a1) then (bif (decide (0 ≤ a2)) && (decide (a2 < ((List.length a0 : Nat) : Int))) then (Option.bind (impl_ownBlock.f k (List.getD a0 (Int.toNat a2) tBlockZ)) fun r1 => bif decide ((List.length a8 + List.length [((r1.2.1, r1.2.2.1, r1.1.1.2.2.1, r1.1.1.2.2.2.1, r1.1.1.2.2.2.2.1, r1.1.1.2.2.2.2.2.1, ()) : tBlockD)]) * 80 ≤ 140737488355328) then (l0 a0 a1 (IntKind.wrap .i64 (a2 + 1)) a3 a4 a5 a6 a7 (a8 ++ [((r1.2.1, r1.2.2.1, r1.1.1.2.2.1, r1.1.1.2.2.2.1, r1.1.1.2.2.2.2.1, r1.1.1.2.2.2.2.2.1, ()) : tBlockD)])) else none) else none) else (some ((((), a6, (), ()), ()), (a7, a8, ())))
def all : Nat → (T0) × Unit
  | 0 => (fun _ _ _ _ _ _ _ _ _ => none, ())
  | k + 1 => (l0_ k (all k).1, ())
def l0 (k : Nat) : T0 := (all k).1
def f (k : Nat) (a0 : tFuncD) : Option R := Option.bind (slices_Clone_int64_int64.f k a0.1) fun r1 => l0 k a0.2.2.1 ((List.length a0.2.2.1 : Nat) : Int) 0 0 ([] : List Int) ([] : List tBlockD) a0.2.1 r1.2.1 ([] : List tBlockD)
abbrev S : ShapeParts := ⟨[⟨true, [.lst (.int .i64), .int .i64, .lst tBlock]⟩], [], false, [⟨true, [.own 100, .int .i64, .own 101]⟩], [(100, .row true (.int .i64)), (101, .row true tBlock)], []⟩
def s (k : Nat) : FS := S.fs fun x => f k x.1.1
def E (k : Nat) : Ents := [(⟨166, []⟩, slices_Clone_int64_int64.s k), (⟨167, []⟩, impl_ownBlock.s k)]
def L0 (l : T0) : LS R := ⟨[], [(2, ⟨false, [.ptr 100000 0]⟩), (3, ⟨false, [.ptr 100003 0]⟩), (13, ⟨false, [.lst tBlock]⟩), (14, ⟨false, [.int .i64]⟩), (15, ⟨false, [.int .i64]⟩)], [(100000, .box [.own 100001, .int .i64, .own 100002]), (100001, .row true (.int .i64)), (100002, .row true tBlock), (100003, .box [.own 100004, .int .i64, .own 100005]), (100004, .row true (.int .i64)), (100005, .row true tBlock)], fun x => l x.1.2.2.1.1 x.1.2.2.2.1.1 x.1.2.2.2.2.1.1 x.2.1.2.1 x.2.2.1 x.2.2.2.1 x.2.2.2.2.1.2.1 x.2.2.2.2.2.1 x.2.2.2.2.2.2.1⟩
def L (l0 : T0) : List (LS R) := [L0 l0]
def c : Code := Tryz.f99.body.getD .skip
theorem eq (k : Nat) (x) : (s k).pf x = execF tab (E k) Tryz.f99 c (s k) (L (l0 k)) x := by kernel_rfl
theorem r0 (l0 : T0) (k : Nat) (x) : (L0 (l0_ k l0)).l x = roundOf tab (E k) (L l0) c (fin tab Tryz.f99 (s k)) 0 (L0 l0) x := by kernel_rfl
theorem sound : ∀ k, Sound Tryz.prog 99 (s k) := snd S (fun k => (s k).pf) E (fun k => (EntsOK.cons (slices_Clone_int64_int64.sound k) (EntsOK.cons (impl_ownBlock.sound k) EntsOK.nil))) (fun k => L (l0 k)) (fun k => ⟨⟨(L0 (l0 (k + 1))).l, rfl, fun x => r0 (l0 k) k x⟩, trivial⟩) eq
end impl_ownFunc
end
end Go.Proofs.YtebgkcjpocfmmaaGreat.V
namespace Go.Proofs.YtebgkcjpocfmmaaGreat.V
open Go
set_option linter.unusedVariables false
noncomputable section
/-! ### impl.original: function 48 -/
namespace impl_original
abbrev R := (((Int × Unit) × Unit) × Unit)
abbrev T0 : Type := Int → Int → tFuncD → Option R
def l0_ (k : Nat) (l0 : T0) (a0 : Int) (a1 : Int) (a2 : tFuncD) : Option R := bif decide (a1 < 60) then (Option.bind (impl_instOf.f k a2 a0) fun r1 => bif !r1.1.2.1.1 then (some (((a0, ()), ()), ())) else (bif !decide (r1.1.1.1 = 27) then (some (((a0, ()), ()), ())) else (l0 r1.1.1.2.2.1 (IntKind.wrap .i64 (a1 + 1)) a2))) else (some (((a0, ()), ()), ()))
def all : Nat → (T0) × Unit
  | 0 => (fun _ _ _ => none, ())
  | k + 1 => (l0_ k (all k).1, ())
def l0 (k : Nat) : T0 := (all k).1
def f (k : Nat) (a0 : tFuncD) (a1 : Int) : Option R := l0 k a1 0 a0
abbrev S : ShapeParts := ⟨[⟨true, [.lst (.int .i64), .int .i64, .lst tBlock]⟩, ⟨false, [.int .i64]⟩], [], false, [⟨false, [.int .i64]⟩], [], []⟩
def s (k : Nat) : FS := S.fs fun x => f k x.1.1 x.1.2.1.1
def E (k : Nat) : Ents := [(⟨102, []⟩, impl_instOf.s k)]
def L0 (l : T0) : LS R := ⟨[], [(1, ⟨false, [.int .i64]⟩), (2, ⟨false, [.ptr 100000 0]⟩), (7, ⟨false, [.int .i64]⟩)], [(100000, .box [.lst (.int .i64), .int .i64, .lst tBlock])], fun x => l x.1.1.1 x.1.2.2.1.1 x.2.1⟩
def L (l0 : T0) : List (LS R) := [L0 l0]
def c : Code := Tryz.f48.body.getD .skip
theorem eq (k : Nat) (x) : (s k).pf x = execF tab (E k) Tryz.f48 c (s k) (L (l0 k)) x := by kernel_rfl
theorem r0 (l0 : T0) (k : Nat) (x) : (L0 (l0_ k l0)).l x = roundOf tab (E k) (L l0) c (fin tab Tryz.f48 (s k)) 0 (L0 l0) x := by kernel_rfl
theorem sound : ∀ k, Sound Tryz.prog 48 (s k) := snd S (fun k => (s k).pf) E (fun k => (EntsOK.cons (impl_instOf.sound k) EntsOK.nil)) (fun k => L (l0 k)) (fun k => ⟨⟨(L0 (l0 (k + 1))).l, rfl, fun x => r0 (l0 k) k x⟩, trivial⟩) eq
end impl_original
end
end Go.Proofs.YtebgkcjpocfmmaaGreat.V
namespace Go.Proofs.YtebgkcjpocfmmaaGreat.V
open Go
set_option linter.unusedVariables false
noncomputable section
/-! ### impl.CopiesGone$1$1: function 47 -/
namespace impl_CopiesGone_1_1
abbrev R := (((Int × Unit) × Unit) × Unit)
def f (k : Nat) (a0 : Int) (a1 : tFuncD) : Option R := Option.bind (impl_original.f k a1 a0) fun r1 => some (((r1.1.1.1, ()), ()), ())
abbrev S : ShapeParts := ⟨[⟨false, [.int .i64]⟩, ⟨false, [.ptr 0 0]⟩], [(0, .cbox [.lst (.int .i64), .int .i64, .lst tBlock])], false, [⟨false, [.int .i64]⟩], [], []⟩
def s (k : Nat) : FS := S.fs fun x => f k x.1.1.1 x.2.1
def E (k : Nat) : Ents := [(⟨48, []⟩, impl_original.s k)]
def L : List (LS R) := []
def c : Code := Tryz.f47.body.getD .skip
theorem eq (k : Nat) (x) : (s k).pf x = execF tab (E k) Tryz.f47 c (s k) L x := by kernel_rfl
theorem sound : ∀ k, Sound Tryz.prog 47 (s k) := snd S (fun k => (s k).pf) E (fun k => (EntsOK.cons (impl_original.sound k) EntsOK.nil)) (fun k => L) (fun k => trivial) eq
end impl_CopiesGone_1_1
end
end Go.Proofs.YtebgkcjpocfmmaaGreat.V
namespace Go.Proofs.YtebgkcjpocfmmaaGreat.V
open Go
set_option linter.unusedVariables false
noncomputable section
/-! ### impl.endNames: function 113 -/
namespace impl_endNames
abbrev R := (((Unit × Unit) × Unit) × ((List Int) × Unit))
def f (k : Nat) (a0 : tTermD) : Option R := bif decide (a0.1 = 1) then (some ((((), ()), ()), ([a0.2.1], ()))) else (bif decide (a0.1 = 3) then (some ((((), ()), ()), ([a0.2.1], ()))) else (some ((((), ()), ()), (([] : List Int), ()))))
abbrev S : ShapeParts := ⟨[⟨true, [.int .i64, .int .i64, .int .i64, .int .i64]⟩], [], false, [⟨false, [.own 100]⟩], [(100, .row true (.int .i64))], []⟩
def s (k : Nat) : FS := S.fs fun x => f k x.1.1
def E (k : Nat) : Ents := []
def L : List (LS R) := []
def c : Code := Tryz.f113.body.getD .skip
theorem eq (k : Nat) (x) : (s k).pf x = execF tab (E k) Tryz.f113 c (s k) L x := by kernel_rfl
theorem sound : ∀ k, Sound Tryz.prog 113 (s k) := snd S (fun k => (s k).pf) E (fun k => EntsOK.nil) (fun k => L) (fun k => trivial) eq
end impl_endNames
end
end Go.Proofs.YtebgkcjpocfmmaaGreat.V
namespace Go.Proofs.YtebgkcjpocfmmaaGreat.V
open Go
set_option linter.unusedVariables false
noncomputable section
/-! ### impl.endRenamed: function 101 -/
namespace impl_endRenamed
abbrev R := (((Int × Int × Int × Int × Unit) × Unit) × Unit)
def f (k : Nat) (a0 : tTermD) (a1 : tFuncD) : Option R := Option.bind (impl_endNames.f k a0) fun r1 => bif decide (0 < ((List.length r1.2.1 : Nat) : Int)) then (Option.bind (impl_CopiesGone_1_1.f k a0.2.1 a1) fun r2 => some (((a0.1, r2.1.1.1, a0.2.2.1, a0.2.2.2.1, ()), ()), ())) else (some ((a0, ()), ()))
abbrev S : ShapeParts := ⟨[⟨true, [.int .i64, .int .i64, .int .i64, .int .i64]⟩, ⟨false, [.fn 47 [(0, 0)]]⟩], [(0, .cbox [.lst (.int .i64), .int .i64, .lst tBlock])], false, [⟨true, [.int .i64, .int .i64, .int .i64, .int .i64]⟩], [], []⟩
def s (k : Nat) : FS := S.fs fun x => f k x.1.1 x.2.1
def E (k : Nat) : Ents := [(⟨113, []⟩, impl_endNames.s k), (⟨47, []⟩, impl_CopiesGone_1_1.s k)]
def L : List (LS R) := []
def c : Code := Tryz.f101.body.getD .skip
theorem eq (k : Nat) (x) : (s k).pf x = execF tab (E k) Tryz.f101 c (s k) L x := by kernel_rfl
theorem sound : ∀ k, Sound Tryz.prog 101 (s k) := snd S (fun k => (s k).pf) E (fun k => (EntsOK.cons (impl_endNames.sound k) (EntsOK.cons (impl_CopiesGone_1_1.sound k) EntsOK.nil))) (fun k => L) (fun k => trivial) eq
end impl_endRenamed
end
end Go.Proofs.YtebgkcjpocfmmaaGreat.V
namespace Go.Proofs.YtebgkcjpocfmmaaGreat.V
open Go
set_option linter.unusedVariables false
noncomputable section
/-! ### impl.renamed: function 100 -/
namespace impl_renamed
abbrev R := (((Int × Int × Int × Int × Int × Int × Unit × Unit) × Unit) × ((List Int) × Unit))
abbrev T0 : Type := (List Int) → Int → Int → tFuncD → Int → Int → Int → Int → Int → Int → (List Int) → Int → Int → Int → Int → Int → Int → (List Int) → Option R
abbrev T1 : Type := Int → Int → tFuncD → Int → Int → Int → Int → Int → Int → (List Int) → Int → Int → Int → Int → Int → Int → (List Int) → (List Int) → Option R
def l0_ (k : Nat) (l0 : T0) (l1 : T1) (a0 : List Int) (a1 : Int) (a2 : Int) (a3 : tFuncD) (a4 : Int) (a5 : Int) (a6 : Int) (a7 : Int) (a8 : Int) (a9 : Int) (a10 : List Int) (a11 : Int) (a12 : Int) (a13 : Int) (a14 : Int) (a15 : Int) (a16 : Int) (a17 : List Int) : Option R := bif decide (a2 < a1) then (bif (decide (0 ≤ a2)) && (decide (a2 < ((List.length a0 : Nat) : Int))) then (Option.bind (impl_CopiesGone_1_1.f k (List.getD a0 (Int.toNat a2) 0) a3) fun r1 => bif (decide (0 ≤ a2)) && (decide (a2 < ((List.length a17 : Nat) : Int))) then (l0 a0 a1 (IntKind.wrap .i64 (a2 + 1)) a3 a4 a5 a6 a7 a8 a9 a10 a11 a12 a13 a14 a15 a16 (List.set a17 (Int.toNat a2) r1.1.1.1)) else none) else none) else (some (((a11, a12, a13, a14, a15, a16, (), ()), ()), (a17, ())))
def l1_ (k : Nat) (l0 : T0) (l1 : T1) (a0 : Int) (a1 : Int) (a2 : tFuncD) (a3 : Int) (a4 : Int) (a5 : Int) (a6 : Int) (a7 : Int) (a8 : Int) (a9 : List Int) (a10 : Int) (a11 : Int) (a12 : Int) (a13 : Int) (a14 : Int) (a15 : Int) (a16 : List Int) (a17 : List Int) : Option R := bif decide (a1 < a0) then (bif (decide (0 ≤ a1)) && (decide (a1 < ((List.length a17 : Nat) : Int))) then (bif (decide (0 ≤ a1)) && (decide (a1 < ((3 : Nat) : Int))) then (bif decide (Int.toNat a1 = 0) then (Option.bind (impl_CopiesGone_1_1.f k (List.getD a17 (Int.toNat a1) 0) a2) fun r1 => l1 a0 (IntKind.wrap .i64 (a1 + 1)) a2 a3 a4 a5 a6 a7 a8 a9 a10 a11 r1.1.1.1 a13 a14 a15 a16 a17) else (bif decide (Int.toNat a1 = 1) then (Option.bind (impl_CopiesGone_1_1.f k (List.getD a17 (Int.toNat a1) 0) a2) fun r2 => l1 a0 (IntKind.wrap .i64 (a1 + 1)) a2 a3 a4 a5 a6 a7 a8 a9 a10 a11 a12 r2.1.1.1 a14 a15 a16 a17) else (bif decide (Int.toNat a1 = 2) then (Option.bind (impl_CopiesGone_1_1.f k (List.getD a17 (Int.toNat a1) 0) a2) fun r3 => l1 a0 (IntKind.wrap .i64 (a1 + 1)) a2 a3 a4 a5 a6 a7 a8 a9 a10 a11 a12 a13 r3.1.1.1 a15 a16 a17) else none))) else none) else none) else (some (((a10, a11, a12, a13, a14, a15, (), ()), ()), (a16, ())))
def all : Nat → (T0) × (T1) × Unit
  | 0 => (fun _ _ _ _ _ _ _ _ _ _ _ _ _ _ _ _ _ _ => none, fun _ _ _ _ _ _ _ _ _ _ _ _ _ _ _ _ _ _ => none, ())
  | k + 1 => (l0_ k (all k).1 (all k).2.1, l1_ k (all k).1 (all k).2.1, ())
def l0 (k : Nat) : T0 := (all k).1
def l1 (k : Nat) : T1 := (all k).2.1
def f (k : Nat) (a0 : tInstD) (a1 : tFuncD) : Option R := Option.bind (impl_ownInst.f k a0) fun r1 => bif decide (a0.1 = 26) then (l0 k a0.2.2.2.2.2.2.1 ((List.length a0.2.2.2.2.2.2.1 : Nat) : Int) 0 a1 0 0 0 0 0 0 ([] : List Int) r1.1.1.1 r1.1.1.2.1 r1.1.1.2.2.1 r1.1.1.2.2.2.1 r1.1.1.2.2.2.2.1 r1.1.1.2.2.2.2.2.1 r1.2.1) else (Option.bind (impl_OperandsOf.f k a0) fun r2 => l1 k ((List.length r2.2.1 : Nat) : Int) 0 a1 0 0 0 0 0 0 ([] : List Int) r1.1.1.1 r1.1.1.2.1 r1.1.1.2.2.1 r1.1.1.2.2.2.1 r1.1.1.2.2.2.2.1 r1.1.1.2.2.2.2.2.1 r1.2.1 r2.2.1)
abbrev S : ShapeParts := ⟨[⟨true, [.int .i64, .int .i64, .int .i64, .int .i64, .int .i64, .int .i64, .lst (.int .i64)]⟩, ⟨false, [.fn 47 [(0, 0)]]⟩], [(0, .cbox [.lst (.int .i64), .int .i64, .lst tBlock])], false, [⟨true, [.int .i64, .int .i64, .int .i64, .int .i64, .int .i64, .int .i64, .own 100]⟩], [(100, .row true (.int .i64))], []⟩
def s (k : Nat) : FS := S.fs fun x => f k x.1.1 x.2.1
def E (k : Nat) : Ents := [(⟨168, []⟩, impl_ownInst.s k), (⟨164, []⟩, impl_OperandsOf.s k), (⟨47, []⟩, impl_CopiesGone_1_1.s k)]
def L0 (l : T0) : LS R := ⟨[], [(1, ⟨false, [.fn 47 [(0, 0)]]⟩), (4, ⟨false, [.ptr 100001 0]⟩), (5, ⟨false, [.ptr 100003 0]⟩), (17, ⟨false, [.lst (.int .i64)]⟩), (18, ⟨false, [.int .i64]⟩), (19, ⟨false, [.int .i64]⟩)], [(0, .cbox [.lst (.int .i64), .int .i64, .lst tBlock]), (100001, .box [.int .i64, .int .i64, .int .i64, .int .i64, .int .i64, .int .i64, .own 100002]), (100002, .row true (.int .i64)), (100003, .box [.int .i64, .int .i64, .int .i64, .int .i64, .int .i64, .int .i64, .own 100004]), (100004, .row true (.int .i64))], fun x => l x.1.2.2.2.1.1 x.1.2.2.2.2.1.1 x.1.2.2.2.2.2.1.1 x.2.1 x.2.2.1.1 x.2.2.1.2.1 x.2.2.1.2.2.1 x.2.2.1.2.2.2.1 x.2.2.1.2.2.2.2.1 x.2.2.1.2.2.2.2.2.1 x.2.2.2.1 x.2.2.2.2.1.1 x.2.2.2.2.1.2.1 x.2.2.2.2.1.2.2.1 x.2.2.2.2.1.2.2.2.1 x.2.2.2.2.1.2.2.2.2.1 x.2.2.2.2.1.2.2.2.2.2.1 x.2.2.2.2.2.1⟩
def L1 (l : T1) : LS R := ⟨[], [(1, ⟨false, [.fn 47 [(0, 0)]]⟩), (4, ⟨false, [.ptr 100001 0]⟩), (5, ⟨false, [.ptr 100003 0]⟩), (8, ⟨false, [.prs [(100003, 2), (100003, 3), (100003, 4)]]⟩), (38, ⟨false, [.own 100005]⟩), (39, ⟨false, [.int .i64]⟩), (40, ⟨false, [.int .i64]⟩)], [(0, .cbox [.lst (.int .i64), .int .i64, .lst tBlock]), (100001, .box [.int .i64, .int .i64, .int .i64, .int .i64, .int .i64, .int .i64, .own 100002]), (100002, .row true (.int .i64)), (100003, .box [.int .i64, .int .i64, .int .i64, .int .i64, .int .i64, .int .i64, .own 100004]), (100004, .row true (.int .i64)), (100005, .row true (.int .i64))], fun x => l x.1.2.2.2.2.2.1.1 x.1.2.2.2.2.2.2.1.1 x.2.1 x.2.2.1.1 x.2.2.1.2.1 x.2.2.1.2.2.1 x.2.2.1.2.2.2.1 x.2.2.1.2.2.2.2.1 x.2.2.1.2.2.2.2.2.1 x.2.2.2.1 x.2.2.2.2.1.1 x.2.2.2.2.1.2.1 x.2.2.2.2.1.2.2.1 x.2.2.2.2.1.2.2.2.1 x.2.2.2.2.1.2.2.2.2.1 x.2.2.2.2.1.2.2.2.2.2.1 x.2.2.2.2.2.1 x.2.2.2.2.2.2.1⟩
def L (l0 : T0) (l1 : T1) : List (LS R) := [L0 l0, L1 l1]
def c : Code := Tryz.f100.body.getD .skip
theorem eq (k : Nat) (x) : (s k).pf x = execF tab (E k) Tryz.f100 c (s k) (L (l0 k) (l1 k)) x := by kernel_rfl
theorem r0 (l0 : T0) (l1 : T1) (k : Nat) (x) : (L0 (l0_ k l0 l1)).l x = roundOf tab (E k) (L l0 l1) c (fin tab Tryz.f100 (s k)) 0 (L0 l0) x := by kernel_rfl
theorem r1 (l0 : T0) (l1 : T1) (k : Nat) (x) : (L1 (l1_ k l0 l1)).l x = roundOf tab (E k) (L l0 l1) c (fin tab Tryz.f100 (s k)) 1 (L1 l1) x := by kernel_rfl
theorem sound : ∀ k, Sound Tryz.prog 100 (s k) := snd S (fun k => (s k).pf) E (fun k => (EntsOK.cons (impl_ownInst.sound k) (EntsOK.cons (impl_OperandsOf.sound k) (EntsOK.cons (impl_CopiesGone_1_1.sound k) EntsOK.nil)))) (fun k => L (l0 k) (l1 k)) (fun k => ⟨⟨(L0 (l0 (k + 1))).l, rfl, fun x => r0 (l0 k) (l1 k) k x⟩, ⟨(L1 (l1 (k + 1))).l, rfl, fun x => r1 (l0 k) (l1 k) k x⟩, trivial⟩) eq
end impl_renamed
end
end Go.Proofs.YtebgkcjpocfmmaaGreat.V
namespace Go.Proofs.YtebgkcjpocfmmaaGreat.V
open Go
set_option linter.unusedVariables false
noncomputable section
/-! ### impl.substituted: function 46 -/
namespace impl_substituted
abbrev R := (((Unit × Int × Unit × Unit) × Unit) × ((List Int) × (List tBlockD) × Unit))
abbrev T0 : Type := Int → Int → tFuncD → Int → (List Int) → (List tBlockD) → Int → (List Int) → (List tBlockD) → Option R
abbrev T1 : Type := Int → Int → Int → Int → tFuncD → Int → (List Int) → (List tBlockD) → Int → (List Int) → (List tBlockD) → Nat → Int → Int → Int → Int → (List tPhiD) → (List tInstD) → Int → Int → Int → Int → Option R
abbrev T2 : Type := Int → Int → Int → Int → Int → Int → tFuncD → Int → (List Int) → (List tBlockD) → Int → (List Int) → (List tBlockD) → Nat → Int → Int → Int → Int → (List tPhiD) → Nat → Int → (List Int) → (List tInstD) → Int → Int → Int → Int → Int → Option R
def l0_ (k : Nat) (l0 : T0) (l1 : T1) (l2 : T2) (l3 : T1) (l4 : T0) (a0 : Int) (a1 : Int) (a2 : tFuncD) (a3 : Int) (a4 : List Int) (a5 : List tBlockD) (a6 : Int) (a7 : List Int) (a8 : List tBlockD) : Option R := bif decide (a1 < a0) then (bif (decide (0 ≤ a1)) && (decide (a1 < ((List.length a8 : Nat) : Int))) then (bif (decide (0 ≤ a1)) && (decide (a1 < ((List.length a8 : Nat) : Int))) then (bif decide (Int.toNat a1 = Int.toNat a1) then (l1 a0 a1 ((List.length ((List.getD a8 (Int.toNat a1) tBlockZ).1) : Nat) : Int) 0 a2 a3 a4 a5 a6 a7 a8 (Int.toNat a1) ((List.getD a8 (Int.toNat a1) tBlockZ).2.2.1) ((List.getD a8 (Int.toNat a1) tBlockZ).2.2.2.1) ((List.getD a8 (Int.toNat a1) tBlockZ).2.2.2.2.1) ((List.getD a8 (Int.toNat a1) tBlockZ).2.2.2.2.2.1) ((List.getD a8 (Int.toNat a1) tBlockZ).1) ((List.getD a8 (Int.toNat a1) tBlockZ).2.1) ((List.getD a8 (Int.toNat a1) tBlockZ).2.2.1) ((List.getD a8 (Int.toNat a1) tBlockZ).2.2.2.1) ((List.getD a8 (Int.toNat a1) tBlockZ).2.2.2.2.1) ((List.getD a8 (Int.toNat a1) tBlockZ).2.2.2.2.2.1)) else none) else none) else none) else (l4 ((List.length a8 : Nat) : Int) 0 a2 a3 a4 a5 a6 a7 a8)
def l1_ (k : Nat) (l0 : T0) (l1 : T1) (l2 : T2) (l3 : T1) (l4 : T0) (a0 : Int) (a1 : Int) (a2 : Int) (a3 : Int) (a4 : tFuncD) (a5 : Int) (a6 : List Int) (a7 : List tBlockD) (a8 : Int) (a9 : List Int) (a10 : List tBlockD) (a11 : Nat) (a12 : Int) (a13 : Int) (a14 : Int) (a15 : Int) (a16 : List tPhiD) (a17 : List tInstD) (a18 : Int) (a19 : Int) (a20 : Int) (a21 : Int) : Option R := bif decide (a3 < a2) then (bif (decide (0 ≤ a3)) && (decide (a3 < ((List.length a16 : Nat) : Int))) then (bif (decide (0 ≤ a3)) && (decide (a3 < ((List.length a16 : Nat) : Int))) then (bif decide (Int.toNat a3 = Int.toNat a3) then (l2 a0 a1 a2 a3 ((List.length ((List.getD a16 (Int.toNat a3) tPhiZ).2.1) : Nat) : Int) 0 a4 a5 a6 a7 a8 a9 a10 a11 a12 a13 a14 a15 a16 (Int.toNat a3) ((List.getD a16 (Int.toNat a3) tPhiZ).1) ((List.getD a16 (Int.toNat a3) tPhiZ).2.1) a17 a18 a19 a20 a21 ((List.getD a16 (Int.toNat a3) tPhiZ).1)) else none) else none) else none) else (l3 a0 a1 ((List.length a17 : Nat) : Int) 0 a4 a5 a6 a7 a8 a9 a10 a11 a12 a13 a14 a15 a16 a17 a18 a19 a20 a21)
def l2_ (k : Nat) (l0 : T0) (l1 : T1) (l2 : T2) (l3 : T1) (l4 : T0) (a0 : Int) (a1 : Int) (a2 : Int) (a3 : Int) (a4 : Int) (a5 : Int) (a6 : tFuncD) (a7 : Int) (a8 : List Int) (a9 : List tBlockD) (a10 : Int) (a11 : List Int) (a12 : List tBlockD) (a13 : Nat) (a14 : Int) (a15 : Int) (a16 : Int) (a17 : Int) (a18 : List tPhiD) (a19 : Nat) (a20 : Int) (a21 : List Int) (a22 : List tInstD) (a23 : Int) (a24 : Int) (a25 : Int) (a26 : Int) (a27 : Int) : Option R := bif decide (a5 < a4) then (bif (decide (0 ≤ a5)) && (decide (a5 < ((List.length a21 : Nat) : Int))) then (Option.bind (impl_CopiesGone_1_1.f k (List.getD a21 (Int.toNat a5) 0) a6) fun r1 => bif (decide (0 ≤ a5)) && (decide (a5 < ((List.length a21 : Nat) : Int))) then (l2 a0 a1 a2 a3 a4 (IntKind.wrap .i64 (a5 + 1)) a6 a7 a8 a9 a10 a11 a12 a13 a14 a15 a16 a17 a18 a19 a20 (List.set a21 (Int.toNat a5) r1.1.1.1) a22 a23 a24 a25 a26 a27) else none) else none) else (l1 a0 a1 a2 (IntKind.wrap .i64 (a3 + 1)) a6 a7 a8 a9 a10 a11 a12 a13 a14 a15 a16 a17 (List.set a18 a19 (a20, a21, ())) a22 a23 a24 a25 a26)
def l3_ (k : Nat) (l0 : T0) (l1 : T1) (l2 : T2) (l3 : T1) (l4 : T0) (a0 : Int) (a1 : Int) (a2 : Int) (a3 : Int) (a4 : tFuncD) (a5 : Int) (a6 : List Int) (a7 : List tBlockD) (a8 : Int) (a9 : List Int) (a10 : List tBlockD) (a11 : Nat) (a12 : Int) (a13 : Int) (a14 : Int) (a15 : Int) (a16 : List tPhiD) (a17 : List tInstD) (a18 : Int) (a19 : Int) (a20 : Int) (a21 : Int) : Option R := bif decide (a3 < a2) then (bif (decide (0 ≤ a3)) && (decide (a3 < ((List.length a17 : Nat) : Int))) then (bif (decide (0 ≤ a3)) && (decide (a3 < ((List.length a17 : Nat) : Int))) then (bif decide (Int.toNat a3 = Int.toNat a3) then (Option.bind (impl_renamed.f k (List.getD a17 (Int.toNat a3) tInstZ) a4) fun r1 => bif (decide (0 ≤ a3)) && (decide (a3 < ((List.length a17 : Nat) : Int))) then (bif decide (Int.toNat a3 = Int.toNat a3) then (l3 a0 a1 a2 (IntKind.wrap .i64 (a3 + 1)) a4 a5 a6 a7 a8 a9 a10 a11 a12 a13 a14 a15 a16 (List.set a17 (Int.toNat a3) (r1.1.1.1, r1.1.1.2.1, r1.1.1.2.2.1, r1.1.1.2.2.2.1, r1.1.1.2.2.2.2.1, r1.1.1.2.2.2.2.2.1, r1.2.1, ())) a18 a19 a20 a21) else none) else none) else none) else none) else none) else (l0 a0 (IntKind.wrap .i64 (a1 + 1)) a4 a5 a6 a7 a8 a9 (List.set a10 a11 (a16, a17, a12, a13, a14, a15, ())))
def l4_ (k : Nat) (l0 : T0) (l1 : T1) (l2 : T2) (l3 : T1) (l4 : T0) (a0 : Int) (a1 : Int) (a2 : tFuncD) (a3 : Int) (a4 : List Int) (a5 : List tBlockD) (a6 : Int) (a7 : List Int) (a8 : List tBlockD) : Option R := bif decide (a1 < a0) then (bif (decide (0 ≤ a1)) && (decide (a1 < ((List.length a8 : Nat) : Int))) then (bif (decide (0 ≤ a1)) && (decide (a1 < ((List.length a8 : Nat) : Int))) then (bif decide (Int.toNat a1 = Int.toNat a1) then (Option.bind (impl_endRenamed.f k ((List.getD a8 (Int.toNat a1) tBlockZ).2.2) a2) fun r1 => bif (decide (0 ≤ a1)) && (decide (a1 < ((List.length a8 : Nat) : Int))) then (bif decide (Int.toNat a1 = Int.toNat a1) then (l4 a0 (IntKind.wrap .i64 (a1 + 1)) a2 a3 a4 a5 a6 a7 (List.set a8 (Int.toNat a1) ((List.getD a8 (Int.toNat a1) tBlockZ).1, (List.getD a8 (Int.toNat a1) tBlockZ).2.1, r1.1.1.1, r1.1.1.2.1, r1.1.1.2.2.1, r1.1.1.2.2.2.1, ()))) else none) else none) else none) else none) else none) else (some ((((), a6, (), ()), ()), (a7, a8, ())))
def all : Nat → (T0) × (T1) × (T2) × (T1) × (T0) × Unit
  | 0 => (fun _ _ _ _ _ _ _ _ _ => none, fun _ _ _ _ _ _ _ _ _ _ _ _ _ _ _ _ _ _ _ _ _ _ => none, fun _ _ _ _ _ _ _ _ _ _ _ _ _ _ _ _ _ _ _ _ _ _ _ _ _ _ _ _ => none, fun _ _ _ _ _ _ _ _ _ _ _ _ _ _ _ _ _ _ _ _ _ _ => none, fun _ _ _ _ _ _ _ _ _ => none, ())
  | k + 1 => (l0_ k (all k).1 (all k).2.1 (all k).2.2.1 (all k).2.2.2.1 (all k).2.2.2.2.1, l1_ k (all k).1 (all k).2.1 (all k).2.2.1 (all k).2.2.2.1 (all k).2.2.2.2.1, l2_ k (all k).1 (all k).2.1 (all k).2.2.1 (all k).2.2.2.1 (all k).2.2.2.2.1, l3_ k (all k).1 (all k).2.1 (all k).2.2.1 (all k).2.2.2.1 (all k).2.2.2.2.1, l4_ k (all k).1 (all k).2.1 (all k).2.2.1 (all k).2.2.2.1 (all k).2.2.2.2.1, ())
def l0 (k : Nat) : T0 := (all k).1
def l1 (k : Nat) : T1 := (all k).2.1
def l2 (k : Nat) : T2 := (all k).2.2.1
def l3 (k : Nat) : T1 := (all k).2.2.2.1
def l4 (k : Nat) : T0 := (all k).2.2.2.2.1
def f (k : Nat) (a0 : tFuncD) (a1 : tFuncD) : Option R := Option.bind (impl_ownFunc.f k a0) fun r1 => l0 k ((List.length r1.2.2.1 : Nat) : Int) 0 a1 0 ([] : List Int) ([] : List tBlockD) r1.1.1.2.1 r1.2.1 r1.2.2.1
abbrev S : ShapeParts := ⟨[⟨true, [.lst (.int .i64), .int .i64, .lst tBlock]⟩, ⟨false, [.fn 47 [(0, 0)]]⟩], [(0, .cbox [.lst (.int .i64), .int .i64, .lst tBlock])], false, [⟨true, [.own 100, .int .i64, .own 101]⟩], [(100, .row true (.int .i64)), (101, .row true tBlock)], []⟩
def s (k : Nat) : FS := S.fs fun x => f k x.1.1 x.2.1
def E (k : Nat) : Ents := [(⟨99, []⟩, impl_ownFunc.s k), (⟨101, [47]⟩, impl_endRenamed.s k), (⟨47, []⟩, impl_CopiesGone_1_1.s k), (⟨100, [47]⟩, impl_renamed.s k), (⟨99, [999998, 4, 1, 100006, 20, 2000000]⟩, impl_ownFunc.s k), (⟨99, [999998, 7, 1, 100007, 27, 2000100]⟩, impl_ownFunc.s k), (⟨99, [999998, 23, 1, 100006, 14, 2000300]⟩, impl_ownFunc.s k), (⟨99, [999998, 24, 2, 100006]⟩, impl_ownFunc.s k), (⟨99, [999998, 13, 2, 100007]⟩, impl_ownFunc.s k), (⟨99, [999998, 16, 1, 100008, 51, 2000200]⟩, impl_ownFunc.s k), (⟨99, [999998, 18, 2, 100008]⟩, impl_ownFunc.s k), (⟨99, [999998, 19, 2, 100006]⟩, impl_ownFunc.s k)]
def L0 (l : T0) : LS R := ⟨[], [(1, ⟨false, [.fn 47 [(0, 0)]]⟩), (4, ⟨false, [.ptr 100001 0]⟩), (5, ⟨false, [.ptr 100004 0]⟩), (18, ⟨false, [.own 100006]⟩), (19, ⟨false, [.int .i64]⟩), (20, ⟨false, [.int .i64]⟩)], [(0, .cbox [.lst (.int .i64), .int .i64, .lst tBlock]), (100001, .box [.own 100002, .int .i64, .own 100003]), (100002, .row true (.int .i64)), (100003, .row true tBlock), (100004, .box [.own 100005, .int .i64, .own 100006]), (100005, .row true (.int .i64)), (100006, .row true tBlock)], fun x => l x.1.2.2.2.2.1.1 x.1.2.2.2.2.2.1.1 x.2.1 x.2.2.1.2.1 x.2.2.2.1 x.2.2.2.2.1 x.2.2.2.2.2.1.2.1 x.2.2.2.2.2.2.1 x.2.2.2.2.2.2.2.1⟩
def L1 (l : T1) : LS R := ⟨[], [(1, ⟨false, [.fn 47 [(0, 0)]]⟩), (4, ⟨false, [.ptr 100001 0]⟩), (5, ⟨false, [.ptr 100004 0]⟩), (7, ⟨false, [.ptr 100009 0]⟩), (18, ⟨false, [.own 100006]⟩), (19, ⟨false, [.int .i64]⟩), (20, ⟨false, [.int .i64]⟩), (25, ⟨false, [.own 100007]⟩), (26, ⟨false, [.int .i64]⟩), (27, ⟨false, [.int .i64]⟩)], [(0, .cbox [.lst (.int .i64), .int .i64, .lst tBlock]), (100001, .box [.own 100002, .int .i64, .own 100003]), (100002, .row true (.int .i64)), (100003, .row true tBlock), (100004, .box [.own 100005, .int .i64, .own 100006]), (100005, .row true (.int .i64)), (100006, .orow tBlock [.own 100007, .own 100008, .int .i64, .int .i64, .int .i64, .int .i64]), (100007, .row true tPhi), (100008, .row true tInst), (100009, .box [.own 100007, .own 100008, .int .i64, .int .i64, .int .i64, .int .i64])], fun x => l x.1.2.2.2.2.2.1.1 x.1.2.2.2.2.2.2.1.1 x.1.2.2.2.2.2.2.2.2.1.1 x.1.2.2.2.2.2.2.2.2.2.1.1 x.2.1 x.2.2.1.2.1 x.2.2.2.1 x.2.2.2.2.1 x.2.2.2.2.2.1.2.1 x.2.2.2.2.2.2.1 x.2.2.2.2.2.2.2.1.1.1 x.2.2.2.2.2.2.2.1.1.2 x.2.2.2.2.2.2.2.1.2.2.2.1 x.2.2.2.2.2.2.2.1.2.2.2.2.1 x.2.2.2.2.2.2.2.1.2.2.2.2.2.1 x.2.2.2.2.2.2.2.1.2.2.2.2.2.2.1 x.2.2.2.2.2.2.2.2.1 x.2.2.2.2.2.2.2.2.2.1 x.2.2.2.2.2.2.2.2.2.2.1.2.2.1 x.2.2.2.2.2.2.2.2.2.2.1.2.2.2.1 x.2.2.2.2.2.2.2.2.2.2.1.2.2.2.2.1 x.2.2.2.2.2.2.2.2.2.2.1.2.2.2.2.2.1⟩
def L2 (l : T2) : LS R := ⟨[], [(1, ⟨false, [.fn 47 [(0, 0)]]⟩), (4, ⟨false, [.ptr 100001 0]⟩), (5, ⟨false, [.ptr 100004 0]⟩), (7, ⟨false, [.ptr 100010 0]⟩), (9, ⟨false, [.ptr 100011 0]⟩), (18, ⟨false, [.own 100006]⟩), (19, ⟨false, [.int .i64]⟩), (20, ⟨false, [.int .i64]⟩), (25, ⟨false, [.own 100007]⟩), (26, ⟨false, [.int .i64]⟩), (27, ⟨false, [.int .i64]⟩), (32, ⟨false, [.own 100008]⟩), (33, ⟨false, [.int .i64]⟩), (34, ⟨false, [.int .i64]⟩)], [(0, .cbox [.lst (.int .i64), .int .i64, .lst tBlock]), (100001, .box [.own 100002, .int .i64, .own 100003]), (100002, .row true (.int .i64)), (100003, .row true tBlock), (100004, .box [.own 100005, .int .i64, .own 100006]), (100005, .row true (.int .i64)), (100006, .orow tBlock [.own 100007, .own 100009, .int .i64, .int .i64, .int .i64, .int .i64]), (100007, .orow tPhi [.int .i64, .own 100008]), (100008, .row true (.int .i64)), (100009, .row true tInst), (100010, .box [.own 100007, .own 100009, .int .i64, .int .i64, .int .i64, .int .i64]), (100011, .box [.int .i64, .own 100008])], fun x => l x.1.2.2.2.2.2.2.1.1 x.1.2.2.2.2.2.2.2.1.1 x.1.2.2.2.2.2.2.2.2.2.1.1 x.1.2.2.2.2.2.2.2.2.2.2.1.1 x.1.2.2.2.2.2.2.2.2.2.2.2.2.1.1 x.1.2.2.2.2.2.2.2.2.2.2.2.2.2.1.1 x.2.1 x.2.2.1.2.1 x.2.2.2.1 x.2.2.2.2.1 x.2.2.2.2.2.1.2.1 x.2.2.2.2.2.2.1 x.2.2.2.2.2.2.2.1.1.1 x.2.2.2.2.2.2.2.1.1.2 x.2.2.2.2.2.2.2.1.2.2.2.1 x.2.2.2.2.2.2.2.1.2.2.2.2.1 x.2.2.2.2.2.2.2.1.2.2.2.2.2.1 x.2.2.2.2.2.2.2.1.2.2.2.2.2.2.1 x.2.2.2.2.2.2.2.2.1.1.1 x.2.2.2.2.2.2.2.2.1.1.2 x.2.2.2.2.2.2.2.2.1.2.1 x.2.2.2.2.2.2.2.2.2.1 x.2.2.2.2.2.2.2.2.2.2.1 x.2.2.2.2.2.2.2.2.2.2.2.1.2.2.1 x.2.2.2.2.2.2.2.2.2.2.2.1.2.2.2.1 x.2.2.2.2.2.2.2.2.2.2.2.1.2.2.2.2.1 x.2.2.2.2.2.2.2.2.2.2.2.1.2.2.2.2.2.1 x.2.2.2.2.2.2.2.2.2.2.2.2.1.1⟩
def L3 (l : T1) : LS R := ⟨[], [(1, ⟨false, [.fn 47 [(0, 0)]]⟩), (4, ⟨false, [.ptr 100001 0]⟩), (5, ⟨false, [.ptr 100004 0]⟩), (7, ⟨false, [.ptr 100009 0]⟩), (18, ⟨false, [.own 100006]⟩), (19, ⟨false, [.int .i64]⟩), (20, ⟨false, [.int .i64]⟩), (49, ⟨false, [.own 100008]⟩), (50, ⟨false, [.int .i64]⟩), (51, ⟨false, [.int .i64]⟩)], [(0, .cbox [.lst (.int .i64), .int .i64, .lst tBlock]), (100001, .box [.own 100002, .int .i64, .own 100003]), (100002, .row true (.int .i64)), (100003, .row true tBlock), (100004, .box [.own 100005, .int .i64, .own 100006]), (100005, .row true (.int .i64)), (100006, .orow tBlock [.own 100007, .own 100008, .int .i64, .int .i64, .int .i64, .int .i64]), (100007, .row true tPhi), (100008, .row true tInst), (100009, .box [.own 100007, .own 100008, .int .i64, .int .i64, .int .i64, .int .i64])], fun x => l x.1.2.2.2.2.2.1.1 x.1.2.2.2.2.2.2.1.1 x.1.2.2.2.2.2.2.2.2.1.1 x.1.2.2.2.2.2.2.2.2.2.1.1 x.2.1 x.2.2.1.2.1 x.2.2.2.1 x.2.2.2.2.1 x.2.2.2.2.2.1.2.1 x.2.2.2.2.2.2.1 x.2.2.2.2.2.2.2.1.1.1 x.2.2.2.2.2.2.2.1.1.2 x.2.2.2.2.2.2.2.1.2.2.2.1 x.2.2.2.2.2.2.2.1.2.2.2.2.1 x.2.2.2.2.2.2.2.1.2.2.2.2.2.1 x.2.2.2.2.2.2.2.1.2.2.2.2.2.2.1 x.2.2.2.2.2.2.2.2.1 x.2.2.2.2.2.2.2.2.2.1 x.2.2.2.2.2.2.2.2.2.2.1.2.2.1 x.2.2.2.2.2.2.2.2.2.2.1.2.2.2.1 x.2.2.2.2.2.2.2.2.2.2.1.2.2.2.2.1 x.2.2.2.2.2.2.2.2.2.2.1.2.2.2.2.2.1⟩
def L4 (l : T0) : LS R := ⟨[], [(1, ⟨false, [.fn 47 [(0, 0)]]⟩), (4, ⟨false, [.ptr 100001 0]⟩), (5, ⟨false, [.ptr 100004 0]⟩), (67, ⟨false, [.int .i64]⟩), (68, ⟨false, [.int .i64]⟩)], [(0, .cbox [.lst (.int .i64), .int .i64, .lst tBlock]), (100001, .box [.own 100002, .int .i64, .own 100003]), (100002, .row true (.int .i64)), (100003, .row true tBlock), (100004, .box [.own 100005, .int .i64, .own 100006]), (100005, .row true (.int .i64)), (100006, .row true tBlock)], fun x => l x.1.2.2.2.1.1 x.1.2.2.2.2.1.1 x.2.1 x.2.2.1.2.1 x.2.2.2.1 x.2.2.2.2.1 x.2.2.2.2.2.1.2.1 x.2.2.2.2.2.2.1 x.2.2.2.2.2.2.2.1⟩
def L (l0 : T0) (l1 : T1) (l2 : T2) (l3 : T1) (l4 : T0) : List (LS R) := [L0 l0, L1 l1, L2 l2, L3 l3, L4 l4]
def c : Code := Tryz.f46.body.getD .skip
theorem eq (k : Nat) (x) : (s k).pf x = execF tab (E k) Tryz.f46 c (s k) (L (l0 k) (l1 k) (l2 k) (l3 k) (l4 k)) x := by kernel_rfl
theorem r0 (l0 : T0) (l1 : T1) (l2 : T2) (l3 : T1) (l4 : T0) (k : Nat) (x) : (L0 (l0_ k l0 l1 l2 l3 l4)).l x = roundOf tab (E k) (L l0 l1 l2 l3 l4) c (fin tab Tryz.f46 (s k)) 0 (L0 l0) x := by kernel_rfl
theorem r1 (l0 : T0) (l1 : T1) (l2 : T2) (l3 : T1) (l4 : T0) (k : Nat) (x) : (L1 (l1_ k l0 l1 l2 l3 l4)).l x = roundOf tab (E k) (L l0 l1 l2 l3 l4) c (fin tab Tryz.f46 (s k)) 1 (L1 l1) x := by kernel_rfl
theorem r2 (l0 : T0) (l1 : T1) (l2 : T2) (l3 : T1) (l4 : T0) (k : Nat) (x) : (L2 (l2_ k l0 l1 l2 l3 l4)).l x = roundOf tab (E k) (L l0 l1 l2 l3 l4) c (fin tab Tryz.f46 (s k)) 2 (L2 l2) x := by kernel_rfl
theorem r3 (l0 : T0) (l1 : T1) (l2 : T2) (l3 : T1) (l4 : T0) (k : Nat) (x) : (L3 (l3_ k l0 l1 l2 l3 l4)).l x = roundOf tab (E k) (L l0 l1 l2 l3 l4) c (fin tab Tryz.f46 (s k)) 3 (L3 l3) x := by kernel_rfl
theorem r4 (l0 : T0) (l1 : T1) (l2 : T2) (l3 : T1) (l4 : T0) (k : Nat) (x) : (L4 (l4_ k l0 l1 l2 l3 l4)).l x = roundOf tab (E k) (L l0 l1 l2 l3 l4) c (fin tab Tryz.f46 (s k)) 4 (L4 l4) x := by kernel_rfl
theorem sound : ∀ k, Sound Tryz.prog 46 (s k) := snd S (fun k => (s k).pf) E (fun k => (EntsOK.cons (impl_ownFunc.sound k) (EntsOK.cons (impl_endRenamed.sound k) (EntsOK.cons (impl_CopiesGone_1_1.sound k) (EntsOK.cons (impl_renamed.sound k) (EntsOK.cons (impl_ownFunc.sound k) (EntsOK.cons (impl_ownFunc.sound k) (EntsOK.cons (impl_ownFunc.sound k) (EntsOK.cons (impl_ownFunc.sound k) (EntsOK.cons (impl_ownFunc.sound k) (EntsOK.cons (impl_ownFunc.sound k) (EntsOK.cons (impl_ownFunc.sound k) (EntsOK.cons (impl_ownFunc.sound k) EntsOK.nil))))))))))))) (fun k => L (l0 k) (l1 k) (l2 k) (l3 k) (l4 k)) (fun k => ⟨⟨(L0 (l0 (k + 1))).l, rfl, fun x => r0 (l0 k) (l1 k) (l2 k) (l3 k) (l4 k) k x⟩, ⟨(L1 (l1 (k + 1))).l, rfl, fun x => r1 (l0 k) (l1 k) (l2 k) (l3 k) (l4 k) k x⟩, ⟨(L2 (l2 (k + 1))).l, rfl, fun x => r2 (l0 k) (l1 k) (l2 k) (l3 k) (l4 k) k x⟩, ⟨(L3 (l3 (k + 1))).l, rfl, fun x => r3 (l0 k) (l1 k) (l2 k) (l3 k) (l4 k) k x⟩, ⟨(L4 (l4 (k + 1))).l, rfl, fun x => r4 (l0 k) (l1 k) (l2 k) (l3 k) (l4 k) k x⟩, trivial⟩) eq
end impl_substituted
end
end Go.Proofs.YtebgkcjpocfmmaaGreat.V
namespace Go.Proofs.YtebgkcjpocfmmaaGreat.V
open Go
set_option linter.unusedVariables false
noncomputable section
/-! ### impl.CopiesGone$1: function 45 -/
namespace impl_CopiesGone_1
abbrev R := (((Unit × Int × Unit × Unit) × Unit) × ((List Int) × (List tBlockD) × Unit))
def f (k : Nat) (a0 : tFuncD) : Option R := Option.bind (impl_substituted.f k a0 a0) fun r1 => some ((((), r1.1.1.2.1, (), ()), ()), (r1.2.1, r1.2.2.1, ()))
abbrev S : ShapeParts := ⟨[⟨true, [.lst (.int .i64), .int .i64, .lst tBlock]⟩], [], false, [⟨true, [.own 100, .int .i64, .own 101]⟩], [(100, .row true (.int .i64)), (101, .row true tBlock)], []⟩
def s (k : Nat) : FS := S.fs fun x => f k x.1.1
def E (k : Nat) : Ents := [(⟨46, [47]⟩, impl_substituted.s k)]
def L : List (LS R) := []
def c : Code := Tryz.f45.body.getD .skip
theorem eq (k : Nat) (x) : (s k).pf x = execF tab (E k) Tryz.f45 c (s k) L x := by kernel_rfl
theorem sound : ∀ k, Sound Tryz.prog 45 (s k) := snd S (fun k => (s k).pf) E (fun k => (EntsOK.cons (impl_substituted.sound k) EntsOK.nil)) (fun k => L) (fun k => trivial) eq
end impl_CopiesGone_1
end
end Go.Proofs.YtebgkcjpocfmmaaGreat.V
namespace Go.Proofs.YtebgkcjpocfmmaaGreat.V
open Go
set_option linter.unusedVariables false
noncomputable section
/-! ### impl.turned$1: function 59 -/
namespace impl_turned_1
abbrev R := (((Unit × Int × Unit × Unit) × (Bool × Unit) × Unit) × ((List Int) × (List tBlockD) × Unit))
def f (k : Nat) (a0 : tFuncD) : Option R := Option.bind (impl_CopiesGone_1.f k a0) fun r1 => some ((((), r1.1.1.2.1, (), ()), (true, ()), ()), (r1.2.1, r1.2.2.1, ()))
abbrev S : ShapeParts := ⟨[⟨true, [.lst (.int .i64), .int .i64, .lst tBlock]⟩, ⟨false, [.ptr 0 0]⟩], [(0, .cbox [.fn 45 []])], true, [⟨true, [.own 100, .int .i64, .own 101]⟩, ⟨false, [.bool]⟩], [(100, .row true (.int .i64)), (101, .row true tBlock)], []⟩
def s (k : Nat) : FS := S.fs fun x => f k x.1.1
def E (k : Nat) : Ents := [(⟨45, []⟩, impl_CopiesGone_1.s k)]
def L : List (LS R) := []
def c : Code := Tryz.f59.body.getD .skip
theorem eq (k : Nat) (x) : (s k).pf x = execF tab (E k) Tryz.f59 c (s k) L x := by kernel_rfl
theorem sound : ∀ k, Sound Tryz.prog 59 (s k) := snd S (fun k => (s k).pf) E (fun k => (EntsOK.cons (impl_CopiesGone_1.sound k) EntsOK.nil)) (fun k => L) (fun k => trivial) eq
end impl_turned_1
end
end Go.Proofs.YtebgkcjpocfmmaaGreat.V
namespace Go.Proofs.YtebgkcjpocfmmaaGreat.V
open Go
set_option linter.unusedVariables false
noncomputable section
/-! ### impl.each: function 58 -/
namespace impl_each
abbrev R := (((Unit × Unit) × (Bool × Unit) × Unit) × ((List tFuncD) × Unit))
abbrev T0 : Type := (List tFuncD) → Int → Int → (List tFuncD) → (List tFuncD) → Option R
def l0_ (k : Nat) (l0 : T0) (a0 : List tFuncD) (a1 : Int) (a2 : Int) (a3 : List tFuncD) (a4 : List tFuncD) : Option R := bif decide (a2 < a1) then (bif (decide (0 ≤ a2)) && (decide (a2 < ((List.length a0 : Nat) : Int))) then (Option.bind (impl_ownFunc.f k (List.getD a0 (Int.toNat a2) tFuncZ)) fun r1 => Option.bind (impl_turned_1.f k (r1.2.1, r1.1.1.2.1, r1.2.2.1, ())) fun r2 => bif !r2.1.2.1.1 then (some ((((), ()), (false, ()), ()), (([] : List tFuncD), ()))) else (bif decide ((List.length a4 + List.length [((r2.2.1, r2.1.1.2.1, r2.2.2.1, ()) : tFuncD)]) * 56 ≤ 140737488355328) then (l0 a0 a1 (IntKind.wrap .i64 (a2 + 1)) a3 (a4 ++ [((r2.2.1, r2.1.1.2.1, r2.2.2.1, ()) : tFuncD)])) else none)) else none) else (some ((((), ()), (true, ()), ()), (a4, ())))
def all : Nat → (T0) × Unit
  | 0 => (fun _ _ _ _ _ => none, ())
  | k + 1 => (l0_ k (all k).1, ())
def l0 (k : Nat) : T0 := (all k).1
def f (k : Nat) (a0 : tModuleD) : Option R := Option.bind (impl_isOk.f k (a0.1, ())) fun r1 => bif !r1.1.1.1 then (some ((((), ()), (false, ()), ()), (([] : List tFuncD), ()))) else (l0 k a0.1 ((List.length a0.1 : Nat) : Int) 0 ([] : List tFuncD) ([] : List tFuncD))
abbrev S : ShapeParts := ⟨[⟨true, [.lst tFunc]⟩, ⟨false, [.fn 59 [(0, 0)]]⟩], [(0, .cbox [.fn 45 []])], true, [⟨true, [.own 100]⟩, ⟨false, [.bool]⟩], [(100, .row true tFunc)], []⟩
def s (k : Nat) : FS := S.fs fun x => f k x.1.1
def E (k : Nat) : Ents := [(⟨110, []⟩, impl_isOk.s k), (⟨99, []⟩, impl_ownFunc.s k), (⟨59, []⟩, impl_turned_1.s k)]
def L0 (l : T0) : LS R := ⟨[], [(1, ⟨false, [.fn 59 [(0, 0)]]⟩), (4, ⟨false, [.ptr 100001 0]⟩), (6, ⟨false, [.ptr 100003 0]⟩), (17, ⟨false, [.lst tFunc]⟩), (18, ⟨false, [.int .i64]⟩), (19, ⟨false, [.int .i64]⟩)], [(0, .cbox [.fn 45 []]), (100001, .box [.own 100002]), (100002, .row true tFunc), (100003, .box [.own 100004]), (100004, .row true tFunc)], fun x => l x.1.2.2.2.1.1 x.1.2.2.2.2.1.1 x.1.2.2.2.2.2.1.1 x.2.2.2.1 x.2.2.2.2.2.1⟩
def L (l0 : T0) : List (LS R) := [L0 l0]
def c : Code := Tryz.f58.body.getD .skip
theorem eq (k : Nat) (x) : (s k).pf x = execF tab (E k) Tryz.f58 c (s k) (L (l0 k)) x := by kernel_rfl
theorem r0 (l0 : T0) (k : Nat) (x) : (L0 (l0_ k l0)).l x = roundOf tab (E k) (L l0) c (fin tab Tryz.f58 (s k)) 0 (L0 l0) x := by kernel_rfl
theorem sound : ∀ k, Sound Tryz.prog 58 (s k) := snd S (fun k => (s k).pf) E (fun k => (EntsOK.cons (impl_isOk.sound k) (EntsOK.cons (impl_ownFunc.sound k) (EntsOK.cons (impl_turned_1.sound k) EntsOK.nil)))) (fun k => L (l0 k)) (fun k => ⟨⟨(L0 (l0 (k + 1))).l, rfl, fun x => r0 (l0 k) k x⟩, trivial⟩) eq
end impl_each
end
end Go.Proofs.YtebgkcjpocfmmaaGreat.V
namespace Go.Proofs.YtebgkcjpocfmmaaGreat.V
open Go
set_option linter.unusedVariables false
noncomputable section
/-! ### impl.turned: function 29 -/
namespace impl_turned
abbrev R := (((Unit × Unit) × (Bool × Unit) × Unit) × ((List tFuncD) × Unit))
def f (k : Nat) (a0 : tModuleD) : Option R := Option.bind (impl_each.f k (a0.1, ())) fun r1 => some ((((), ()), (r1.1.2.1.1, ()), ()), (r1.2.1, ()))
abbrev S : ShapeParts := ⟨[⟨true, [.lst tFunc]⟩, ⟨false, [.fn 45 []]⟩], [], true, [⟨true, [.own 100]⟩, ⟨false, [.bool]⟩], [(100, .row true tFunc)], []⟩
def s (k : Nat) : FS := S.fs fun x => f k x.1.1
def E (k : Nat) : Ents := [(⟨58, [59]⟩, impl_each.s k)]
def L : List (LS R) := []
def c : Code := Tryz.f29.body.getD .skip
theorem eq (k : Nat) (x) : (s k).pf x = execF tab (E k) Tryz.f29 c (s k) L x := by kernel_rfl
theorem sound : ∀ k, Sound Tryz.prog 29 (s k) := snd S (fun k => (s k).pf) E (fun k => (EntsOK.cons (impl_each.sound k) EntsOK.nil)) (fun k => L) (fun k => trivial) eq
end impl_turned
end
end Go.Proofs.YtebgkcjpocfmmaaGreat.V
namespace Go.Proofs.YtebgkcjpocfmmaaGreat.V
open Go
set_option linter.unusedVariables false
noncomputable section
/-! ### impl.CopiesGone: function 22 -/
namespace impl_CopiesGone
abbrev R := (((Unit × Unit) × (Bool × Unit) × Unit) × ((List tFuncD) × Unit))
def f (k : Nat) (a0 : tModuleD) : Option R := Option.bind (impl_turned.f k (a0.1, ())) fun r1 => some ((((), ()), (r1.1.2.1.1, ()), ()), (r1.2.1, ()))
abbrev S : ShapeParts := ⟨[⟨true, [.lst tFunc]⟩], [], true, [⟨true, [.own 100]⟩, ⟨false, [.bool]⟩], [(100, .row true tFunc)], []⟩
def s (k : Nat) : FS := S.fs fun x => f k x.1.1
def E (k : Nat) : Ents := [(⟨29, [45]⟩, impl_turned.s k)]
def L : List (LS R) := []
def c : Code := Tryz.f22.body.getD .skip
theorem eq (k : Nat) (x) : (s k).pf x = execF tab (E k) Tryz.f22 c (s k) L x := by kernel_rfl
theorem sound : ∀ k, Sound Tryz.prog 22 (s k) := snd S (fun k => (s k).pf) E (fun k => (EntsOK.cons (impl_turned.sound k) EntsOK.nil)) (fun k => L) (fun k => trivial) eq
end impl_CopiesGone
end
end Go.Proofs.YtebgkcjpocfmmaaGreat.V
namespace Go.Proofs.YtebgkcjpocfmmaaGreat.V
open Go
set_option linter.unusedVariables false
noncomputable section
/-! ### laws.eqInt64S: function 117 -/
namespace laws_eqInt64S
abbrev R := (((Bool × Unit) × Unit) × Unit)
abbrev T0 : Type := (List Int) → (List Int) → Int → Option R
def l0_ (k : Nat) (l0 : T0) (a0 : List Int) (a1 : List Int) (a2 : Int) : Option R := bif decide (a2 < ((List.length a0 : Nat) : Int)) then (bif (decide (0 ≤ a2)) && (decide (a2 < ((List.length a0 : Nat) : Int))) then (bif (decide (0 ≤ a2)) && (decide (a2 < ((List.length a1 : Nat) : Int))) then (bif !decide (List.getD a0 (Int.toNat a2) 0 = List.getD a1 (Int.toNat a2) 0) then (some (((false, ()), ()), ())) else (l0 a0 a1 (IntKind.wrap .i64 (a2 + 1)))) else none) else none) else (some (((true, ()), ()), ()))
def all : Nat → (T0) × Unit
  | 0 => (fun _ _ _ => none, ())
  | k + 1 => (l0_ k (all k).1, ())
def l0 (k : Nat) : T0 := (all k).1
def f (k : Nat) (a0 : List Int) (a1 : List Int) : Option R := bif !decide (((List.length a0 : Nat) : Int) = ((List.length a1 : Nat) : Int)) then (some (((false, ()), ()), ())) else (l0 k a0 a1 0)
abbrev S : ShapeParts := ⟨[⟨false, [.lst (.int .i64)]⟩, ⟨false, [.lst (.int .i64)]⟩], [], false, [⟨false, [.bool]⟩], [], []⟩
def s (k : Nat) : FS := S.fs fun x => f k x.1.1.1 x.1.2.1.1
def E (k : Nat) : Ents := []
def L0 (l : T0) : LS R := ⟨[], [(0, ⟨false, [.lst (.int .i64)]⟩), (1, ⟨false, [.lst (.int .i64)]⟩), (5, ⟨false, [.int .i64]⟩)], [], fun x => l x.1.1.1 x.1.2.1.1 x.1.2.2.1.1⟩
def L (l0 : T0) : List (LS R) := [L0 l0]
def c : Code := Tryz.f117.body.getD .skip
theorem eq (k : Nat) (x) : (s k).pf x = execF tab (E k) Tryz.f117 c (s k) (L (l0 k)) x := by kernel_rfl
theorem r0 (l0 : T0) (k : Nat) (x) : (L0 (l0_ k l0)).l x = roundOf tab (E k) (L l0) c (fin tab Tryz.f117 (s k)) 0 (L0 l0) x := by kernel_rfl
theorem sound : ∀ k, Sound Tryz.prog 117 (s k) := snd S (fun k => (s k).pf) E (fun k => EntsOK.nil) (fun k => L (l0 k)) (fun k => ⟨⟨(L0 (l0 (k + 1))).l, rfl, fun x => r0 (l0 k) k x⟩, trivial⟩) eq
end laws_eqInt64S
end
end Go.Proofs.YtebgkcjpocfmmaaGreat.V
namespace Go.Proofs.YtebgkcjpocfmmaaGreat.V
open Go
set_option linter.unusedVariables false
noncomputable section
/-! ### laws.eqPhi: function 209 -/
namespace laws_eqPhi
abbrev R := (((Bool × Unit) × Unit) × Unit)
def f (k : Nat) (a0 : tPhiD) (a1 : tPhiD) : Option R := bif !decide (a0.1 = a1.1) then (some (((false, ()), ()), ())) else (Option.bind (laws_eqInt64S.f k a0.2.1 a1.2.1) fun r1 => bif !r1.1.1.1 then (some (((false, ()), ()), ())) else (some (((true, ()), ()), ())))
abbrev S : ShapeParts := ⟨[⟨true, [.int .i64, .lst (.int .i64)]⟩, ⟨true, [.int .i64, .lst (.int .i64)]⟩], [], false, [⟨false, [.bool]⟩], [], []⟩
def s (k : Nat) : FS := S.fs fun x => f k x.1.1 x.1.2.1
def E (k : Nat) : Ents := [(⟨117, []⟩, laws_eqInt64S.s k)]
def L : List (LS R) := []
def c : Code := Tryz.f209.body.getD .skip
theorem eq (k : Nat) (x) : (s k).pf x = execF tab (E k) Tryz.f209 c (s k) L x := by kernel_rfl
theorem sound : ∀ k, Sound Tryz.prog 209 (s k) := snd S (fun k => (s k).pf) E (fun k => (EntsOK.cons (laws_eqInt64S.sound k) EntsOK.nil)) (fun k => L) (fun k => trivial) eq
end laws_eqPhi
end
end Go.Proofs.YtebgkcjpocfmmaaGreat.V
namespace Go.Proofs.YtebgkcjpocfmmaaGreat.V
open Go
set_option linter.unusedVariables false
noncomputable section
/-! ### laws.eqPhiS: function 197 -/
namespace laws_eqPhiS
abbrev R := (((Bool × Unit) × Unit) × Unit)
abbrev T0 : Type := (List tPhiD) → (List tPhiD) → Int → Option R
def l0_ (k : Nat) (l0 : T0) (a0 : List tPhiD) (a1 : List tPhiD) (a2 : Int) : Option R := bif decide (a2 < ((List.length a0 : Nat) : Int)) then (bif (decide (0 ≤ a2)) && (decide (a2 < ((List.length a0 : Nat) : Int))) then (bif (decide (0 ≤ a2)) && (decide (a2 < ((List.length a1 : Nat) : Int))) then (Option.bind (laws_eqPhi.f k (List.getD a0 (Int.toNat a2) tPhiZ) (List.getD a1 (Int.toNat a2) tPhiZ)) fun r1 => bif !r1.1.1.1 then (some (((false, ()), ()), ())) else (l0 a0 a1 (IntKind.wrap .i64 (a2 + 1)))) else none) else none) else (some (((true, ()), ()), ()))
def all : Nat → (T0) × Unit
  | 0 => (fun _ _ _ => none, ())
  | k + 1 => (l0_ k (all k).1, ())
def l0 (k : Nat) : T0 := (all k).1
def f (k : Nat) (a0 : List tPhiD) (a1 : List tPhiD) : Option R := bif !decide (((List.length a0 : Nat) : Int) = ((List.length a1 : Nat) : Int)) then (some (((false, ()), ()), ())) else (l0 k a0 a1 0)
abbrev S : ShapeParts := ⟨[⟨false, [.lst tPhi]⟩, ⟨false, [.lst tPhi]⟩], [], false, [⟨false, [.bool]⟩], [], []⟩
def s (k : Nat) : FS := S.fs fun x => f k x.1.1.1 x.1.2.1.1
def E (k : Nat) : Ents := [(⟨209, []⟩, laws_eqPhi.s k)]
def L0 (l : T0) : LS R := ⟨[], [(0, ⟨false, [.lst tPhi]⟩), (1, ⟨false, [.lst tPhi]⟩), (5, ⟨false, [.int .i64]⟩)], [], fun x => l x.1.1.1 x.1.2.1.1 x.1.2.2.1.1⟩
def L (l0 : T0) : List (LS R) := [L0 l0]
def c : Code := Tryz.f197.body.getD .skip
theorem eq (k : Nat) (x) : (s k).pf x = execF tab (E k) Tryz.f197 c (s k) (L (l0 k)) x := by kernel_rfl
theorem r0 (l0 : T0) (k : Nat) (x) : (L0 (l0_ k l0)).l x = roundOf tab (E k) (L l0) c (fin tab Tryz.f197 (s k)) 0 (L0 l0) x := by kernel_rfl
theorem sound : ∀ k, Sound Tryz.prog 197 (s k) := snd S (fun k => (s k).pf) E (fun k => (EntsOK.cons (laws_eqPhi.sound k) EntsOK.nil)) (fun k => L (l0 k)) (fun k => ⟨⟨(L0 (l0 (k + 1))).l, rfl, fun x => r0 (l0 k) k x⟩, trivial⟩) eq
end laws_eqPhiS
end
end Go.Proofs.YtebgkcjpocfmmaaGreat.V
namespace Go.Proofs.YtebgkcjpocfmmaaGreat.V
open Go
set_option linter.unusedVariables false
noncomputable section
/-! ### laws.eqInst: function 210 -/
namespace laws_eqInst
abbrev R := (((Bool × Unit) × Unit) × Unit)
def f (k : Nat) (a0 : tInstD) (a1 : tInstD) : Option R := bif !decide (a0.1 = a1.1) then (some (((false, ()), ()), ())) else (bif !decide (a0.2.1 = a1.2.1) then (some (((false, ()), ()), ())) else (bif !decide (a0.2.2.1 = a1.2.2.1) then (some (((false, ()), ()), ())) else (bif !decide (a0.2.2.2.1 = a1.2.2.2.1) then (some (((false, ()), ()), ())) else (bif !decide (a0.2.2.2.2.1 = a1.2.2.2.2.1) then (some (((false, ()), ()), ())) else (bif !decide (a0.2.2.2.2.2.1 = a1.2.2.2.2.2.1) then (some (((false, ()), ()), ())) else (Option.bind (laws_eqInt64S.f k a0.2.2.2.2.2.2.1 a1.2.2.2.2.2.2.1) fun r1 => bif !r1.1.1.1 then (some (((false, ()), ()), ())) else (some (((true, ()), ()), ()))))))))
abbrev S : ShapeParts := ⟨[⟨true, [.int .i64, .int .i64, .int .i64, .int .i64, .int .i64, .int .i64, .lst (.int .i64)]⟩, ⟨true, [.int .i64, .int .i64, .int .i64, .int .i64, .int .i64, .int .i64, .lst (.int .i64)]⟩], [], false, [⟨false, [.bool]⟩], [], []⟩
def s (k : Nat) : FS := S.fs fun x => f k x.1.1 x.1.2.1
def E (k : Nat) : Ents := [(⟨117, []⟩, laws_eqInt64S.s k)]
def L : List (LS R) := []
def c : Code := Tryz.f210.body.getD .skip
theorem eq (k : Nat) (x) : (s k).pf x = execF tab (E k) Tryz.f210 c (s k) L x := by kernel_rfl
theorem sound : ∀ k, Sound Tryz.prog 210 (s k) := snd S (fun k => (s k).pf) E (fun k => (EntsOK.cons (laws_eqInt64S.sound k) EntsOK.nil)) (fun k => L) (fun k => trivial) eq
end laws_eqInst
end
end Go.Proofs.YtebgkcjpocfmmaaGreat.V
namespace Go.Proofs.YtebgkcjpocfmmaaGreat.V
open Go
set_option linter.unusedVariables false
noncomputable section
/-! ### laws.eqInstS: function 198 -/
namespace laws_eqInstS
abbrev R := (((Bool × Unit) × Unit) × Unit)
abbrev T0 : Type := (List tInstD) → (List tInstD) → Int → Option R
def l0_ (k : Nat) (l0 : T0) (a0 : List tInstD) (a1 : List tInstD) (a2 : Int) : Option R := bif decide (a2 < ((List.length a0 : Nat) : Int)) then (bif (decide (0 ≤ a2)) && (decide (a2 < ((List.length a0 : Nat) : Int))) then (bif (decide (0 ≤ a2)) && (decide (a2 < ((List.length a1 : Nat) : Int))) then (Option.bind (laws_eqInst.f k (List.getD a0 (Int.toNat a2) tInstZ) (List.getD a1 (Int.toNat a2) tInstZ)) fun r1 => bif !r1.1.1.1 then (some (((false, ()), ()), ())) else (l0 a0 a1 (IntKind.wrap .i64 (a2 + 1)))) else none) else none) else (some (((true, ()), ()), ()))
def all : Nat → (T0) × Unit
  | 0 => (fun _ _ _ => none, ())
  | k + 1 => (l0_ k (all k).1, ())
def l0 (k : Nat) : T0 := (all k).1
def f (k : Nat) (a0 : List tInstD) (a1 : List tInstD) : Option R := bif !decide (((List.length a0 : Nat) : Int) = ((List.length a1 : Nat) : Int)) then (some (((false, ()), ()), ())) else (l0 k a0 a1 0)
abbrev S : ShapeParts := ⟨[⟨false, [.lst tInst]⟩, ⟨false, [.lst tInst]⟩], [], false, [⟨false, [.bool]⟩], [], []⟩
def s (k : Nat) : FS := S.fs fun x => f k x.1.1.1 x.1.2.1.1
def E (k : Nat) : Ents := [(⟨210, []⟩, laws_eqInst.s k)]
def L0 (l : T0) : LS R := ⟨[], [(0, ⟨false, [.lst tInst]⟩), (1, ⟨false, [.lst tInst]⟩), (5, ⟨false, [.int .i64]⟩)], [], fun x => l x.1.1.1 x.1.2.1.1 x.1.2.2.1.1⟩
def L (l0 : T0) : List (LS R) := [L0 l0]
def c : Code := Tryz.f198.body.getD .skip
theorem eq (k : Nat) (x) : (s k).pf x = execF tab (E k) Tryz.f198 c (s k) (L (l0 k)) x := by kernel_rfl
theorem r0 (l0 : T0) (k : Nat) (x) : (L0 (l0_ k l0)).l x = roundOf tab (E k) (L l0) c (fin tab Tryz.f198 (s k)) 0 (L0 l0) x := by kernel_rfl
theorem sound : ∀ k, Sound Tryz.prog 198 (s k) := snd S (fun k => (s k).pf) E (fun k => (EntsOK.cons (laws_eqInst.sound k) EntsOK.nil)) (fun k => L (l0 k)) (fun k => ⟨⟨(L0 (l0 (k + 1))).l, rfl, fun x => r0 (l0 k) k x⟩, trivial⟩) eq
end laws_eqInstS
end
end Go.Proofs.YtebgkcjpocfmmaaGreat.V
namespace Go.Proofs.YtebgkcjpocfmmaaGreat.V
open Go
set_option linter.unusedVariables false
noncomputable section
/-! ### laws.eqTerm: function 199 -/
namespace laws_eqTerm
abbrev R := (((Bool × Unit) × Unit) × Unit)
def f (k : Nat) (a0 : tTermD) (a1 : tTermD) : Option R := bif !decide (a0.1 = a1.1) then (some (((false, ()), ()), ())) else (bif !decide (a0.2.1 = a1.2.1) then (some (((false, ()), ()), ())) else (bif !decide (a0.2.2.1 = a1.2.2.1) then (some (((false, ()), ()), ())) else (bif !decide (a0.2.2.2.1 = a1.2.2.2.1) then (some (((false, ()), ()), ())) else (some (((true, ()), ()), ())))))
abbrev S : ShapeParts := ⟨[⟨true, [.int .i64, .int .i64, .int .i64, .int .i64]⟩, ⟨true, [.int .i64, .int .i64, .int .i64, .int .i64]⟩], [], false, [⟨false, [.bool]⟩], [], []⟩
def s (k : Nat) : FS := S.fs fun x => f k x.1.1 x.1.2.1
def E (k : Nat) : Ents := []
def L : List (LS R) := []
def c : Code := Tryz.f199.body.getD .skip
theorem eq (k : Nat) (x) : (s k).pf x = execF tab (E k) Tryz.f199 c (s k) L x := by kernel_rfl
theorem sound : ∀ k, Sound Tryz.prog 199 (s k) := snd S (fun k => (s k).pf) E (fun k => EntsOK.nil) (fun k => L) (fun k => trivial) eq
end laws_eqTerm
end
end Go.Proofs.YtebgkcjpocfmmaaGreat.V
namespace Go.Proofs.YtebgkcjpocfmmaaGreat.V
open Go
set_option linter.unusedVariables false
noncomputable section
/-! ### laws.eqBlock: function 172 -/
namespace laws_eqBlock
abbrev R := (((Bool × Unit) × Unit) × Unit)
def f (k : Nat) (a0 : tBlockD) (a1 : tBlockD) : Option R := Option.bind (laws_eqPhiS.f k a0.1 a1.1) fun r1 => bif !r1.1.1.1 then (some (((false, ()), ()), ())) else (Option.bind (laws_eqInstS.f k a0.2.1 a1.2.1) fun r2 => bif !r2.1.1.1 then (some (((false, ()), ()), ())) else (Option.bind (laws_eqTerm.f k a0.2.2 a1.2.2) fun r3 => bif !r3.1.1.1 then (some (((false, ()), ()), ())) else (some (((true, ()), ()), ()))))
abbrev S : ShapeParts := ⟨[⟨true, [.lst tPhi, .lst tInst, .int .i64, .int .i64, .int .i64, .int .i64]⟩, ⟨true, [.lst tPhi, .lst tInst, .int .i64, .int .i64, .int .i64, .int .i64]⟩], [], false, [⟨false, [.bool]⟩], [], []⟩
def s (k : Nat) : FS := S.fs fun x => f k x.1.1 x.1.2.1
def E (k : Nat) : Ents := [(⟨197, []⟩, laws_eqPhiS.s k), (⟨198, []⟩, laws_eqInstS.s k), (⟨199, []⟩, laws_eqTerm.s k)]
def L : List (LS R) := []
def c : Code := Tryz.f172.body.getD .skip
theorem eq (k : Nat) (x) : (s k).pf x = execF tab (E k) Tryz.f172 c (s k) L x := by kernel_rfl
theorem sound : ∀ k, Sound Tryz.prog 172 (s k) := snd S (fun k => (s k).pf) E (fun k => (EntsOK.cons (laws_eqPhiS.sound k) (EntsOK.cons (laws_eqInstS.sound k) (EntsOK.cons (laws_eqTerm.sound k) EntsOK.nil)))) (fun k => L) (fun k => trivial) eq
end laws_eqBlock
end
end Go.Proofs.YtebgkcjpocfmmaaGreat.V
namespace Go.Proofs.YtebgkcjpocfmmaaGreat.V
open Go
set_option linter.unusedVariables false
noncomputable section
/-! ### laws.eqBlockS: function 118 -/
namespace laws_eqBlockS
abbrev R := (((Bool × Unit) × Unit) × Unit)
abbrev T0 : Type := (List tBlockD) → (List tBlockD) → Int → Option R
def l0_ (k : Nat) (l0 : T0) (a0 : List tBlockD) (a1 : List tBlockD) (a2 : Int) : Option R := bif decide (a2 < ((List.length a0 : Nat) : Int)) then (bif (decide (0 ≤ a2)) && (decide (a2 < ((List.length a0 : Nat) : Int))) then (bif (decide (0 ≤ a2)) && (decide (a2 < ((List.length a1 : Nat) : Int))) then (Option.bind (laws_eqBlock.f k (List.getD a0 (Int.toNat a2) tBlockZ) (List.getD a1 (Int.toNat a2) tBlockZ)) fun r1 => bif !r1.1.1.1 then (some (((false, ()), ()), ())) else (l0 a0 a1 (IntKind.wrap .i64 (a2 + 1)))) else none) else none) else (some (((true, ()), ()), ()))
def all : Nat → (T0) × Unit
  | 0 => (fun _ _ _ => none, ())
  | k + 1 => (l0_ k (all k).1, ())
def l0 (k : Nat) : T0 := (all k).1
def f (k : Nat) (a0 : List tBlockD) (a1 : List tBlockD) : Option R := bif !decide (((List.length a0 : Nat) : Int) = ((List.length a1 : Nat) : Int)) then (some (((false, ()), ()), ())) else (l0 k a0 a1 0)
abbrev S : ShapeParts := ⟨[⟨false, [.lst tBlock]⟩, ⟨false, [.lst tBlock]⟩], [], false, [⟨false, [.bool]⟩], [], []⟩
def s (k : Nat) : FS := S.fs fun x => f k x.1.1.1 x.1.2.1.1
def E (k : Nat) : Ents := [(⟨172, []⟩, laws_eqBlock.s k)]
def L0 (l : T0) : LS R := ⟨[], [(0, ⟨false, [.lst tBlock]⟩), (1, ⟨false, [.lst tBlock]⟩), (5, ⟨false, [.int .i64]⟩)], [], fun x => l x.1.1.1 x.1.2.1.1 x.1.2.2.1.1⟩
def L (l0 : T0) : List (LS R) := [L0 l0]
def c : Code := Tryz.f118.body.getD .skip
theorem eq (k : Nat) (x) : (s k).pf x = execF tab (E k) Tryz.f118 c (s k) (L (l0 k)) x := by kernel_rfl
theorem r0 (l0 : T0) (k : Nat) (x) : (L0 (l0_ k l0)).l x = roundOf tab (E k) (L l0) c (fin tab Tryz.f118 (s k)) 0 (L0 l0) x := by kernel_rfl
theorem sound : ∀ k, Sound Tryz.prog 118 (s k) := snd S (fun k => (s k).pf) E (fun k => (EntsOK.cons (laws_eqBlock.sound k) EntsOK.nil)) (fun k => L (l0 k)) (fun k => ⟨⟨(L0 (l0 (k + 1))).l, rfl, fun x => r0 (l0 k) k x⟩, trivial⟩) eq
end laws_eqBlockS
end
end Go.Proofs.YtebgkcjpocfmmaaGreat.V
namespace Go.Proofs.YtebgkcjpocfmmaaGreat.V
open Go
set_option linter.unusedVariables false
noncomputable section
/-! ### laws.eqFunc: function 63 -/
namespace laws_eqFunc
abbrev R := (((Bool × Unit) × Unit) × Unit)
def f (k : Nat) (a0 : tFuncD) (a1 : tFuncD) : Option R := Option.bind (laws_eqInt64S.f k a0.1 a1.1) fun r1 => bif !r1.1.1.1 then (some (((false, ()), ()), ())) else (bif !decide (a0.2.1 = a1.2.1) then (some (((false, ()), ()), ())) else (Option.bind (laws_eqBlockS.f k a0.2.2.1 a1.2.2.1) fun r2 => bif !r2.1.1.1 then (some (((false, ()), ()), ())) else (some (((true, ()), ()), ()))))
abbrev S : ShapeParts := ⟨[⟨true, [.lst (.int .i64), .int .i64, .lst tBlock]⟩, ⟨true, [.lst (.int .i64), .int .i64, .lst tBlock]⟩], [], false, [⟨false, [.bool]⟩], [], []⟩
def s (k : Nat) : FS := S.fs fun x => f k x.1.1 x.1.2.1
def E (k : Nat) : Ents := [(⟨117, []⟩, laws_eqInt64S.s k), (⟨118, []⟩, laws_eqBlockS.s k)]
def L : List (LS R) := []
def c : Code := Tryz.f63.body.getD .skip
theorem eq (k : Nat) (x) : (s k).pf x = execF tab (E k) Tryz.f63 c (s k) L x := by kernel_rfl
theorem sound : ∀ k, Sound Tryz.prog 63 (s k) := snd S (fun k => (s k).pf) E (fun k => (EntsOK.cons (laws_eqInt64S.sound k) (EntsOK.cons (laws_eqBlockS.sound k) EntsOK.nil))) (fun k => L) (fun k => trivial) eq
end laws_eqFunc
end
end Go.Proofs.YtebgkcjpocfmmaaGreat.V
namespace Go.Proofs.YtebgkcjpocfmmaaGreat.V
open Go
set_option linter.unusedVariables false
noncomputable section
/-! ### laws.eqFuncS: function 31 -/
namespace laws_eqFuncS
abbrev R := (((Bool × Unit) × Unit) × Unit)
abbrev T0 : Type := (List tFuncD) → (List tFuncD) → Int → Option R
def l0_ (k : Nat) (l0 : T0) (a0 : List tFuncD) (a1 : List tFuncD) (a2 : Int) : Option R := bif decide (a2 < ((List.length a0 : Nat) : Int)) then (bif (decide (0 ≤ a2)) && (decide (a2 < ((List.length a0 : Nat) : Int))) then (bif (decide (0 ≤ a2)) && (decide (a2 < ((List.length a1 : Nat) : Int))) then (Option.bind (laws_eqFunc.f k (List.getD a0 (Int.toNat a2) tFuncZ) (List.getD a1 (Int.toNat a2) tFuncZ)) fun r1 => bif !r1.1.1.1 then (some (((false, ()), ()), ())) else (l0 a0 a1 (IntKind.wrap .i64 (a2 + 1)))) else none) else none) else (some (((true, ()), ()), ()))
def all : Nat → (T0) × Unit
  | 0 => (fun _ _ _ => none, ())
  | k + 1 => (l0_ k (all k).1, ())
def l0 (k : Nat) : T0 := (all k).1
def f (k : Nat) (a0 : List tFuncD) (a1 : List tFuncD) : Option R := bif !decide (((List.length a0 : Nat) : Int) = ((List.length a1 : Nat) : Int)) then (some (((false, ()), ()), ())) else (l0 k a0 a1 0)
abbrev S : ShapeParts := ⟨[⟨false, [.lst tFunc]⟩, ⟨false, [.lst tFunc]⟩], [], false, [⟨false, [.bool]⟩], [], []⟩
def s (k : Nat) : FS := S.fs fun x => f k x.1.1.1 x.1.2.1.1
def E (k : Nat) : Ents := [(⟨63, []⟩, laws_eqFunc.s k)]
def L0 (l : T0) : LS R := ⟨[], [(0, ⟨false, [.lst tFunc]⟩), (1, ⟨false, [.lst tFunc]⟩), (5, ⟨false, [.int .i64]⟩)], [], fun x => l x.1.1.1 x.1.2.1.1 x.1.2.2.1.1⟩
def L (l0 : T0) : List (LS R) := [L0 l0]
def c : Code := Tryz.f31.body.getD .skip
theorem eq (k : Nat) (x) : (s k).pf x = execF tab (E k) Tryz.f31 c (s k) (L (l0 k)) x := by kernel_rfl
theorem r0 (l0 : T0) (k : Nat) (x) : (L0 (l0_ k l0)).l x = roundOf tab (E k) (L l0) c (fin tab Tryz.f31 (s k)) 0 (L0 l0) x := by kernel_rfl
theorem sound : ∀ k, Sound Tryz.prog 31 (s k) := snd S (fun k => (s k).pf) E (fun k => (EntsOK.cons (laws_eqFunc.sound k) EntsOK.nil)) (fun k => L (l0 k)) (fun k => ⟨⟨(L0 (l0 (k + 1))).l, rfl, fun x => r0 (l0 k) k x⟩, trivial⟩) eq
end laws_eqFuncS
end
end Go.Proofs.YtebgkcjpocfmmaaGreat.V
namespace Go.Proofs.YtebgkcjpocfmmaaGreat.V
open Go
set_option linter.unusedVariables false
noncomputable section
/-! ### laws.eqModule: function 12 -/
namespace laws_eqModule
abbrev R := (((Bool × Unit) × Unit) × Unit)
def f (k : Nat) (a0 : tModuleD) (a1 : tModuleD) : Option R := Option.bind (laws_eqFuncS.f k a0.1 a1.1) fun r1 => bif !r1.1.1.1 then (some (((false, ()), ()), ())) else (some (((true, ()), ()), ()))
abbrev S : ShapeParts := ⟨[⟨true, [.lst tFunc]⟩, ⟨true, [.lst tFunc]⟩], [], false, [⟨false, [.bool]⟩], [], []⟩
def s (k : Nat) : FS := S.fs fun x => f k x.1.1 x.1.2.1
def E (k : Nat) : Ents := [(⟨31, []⟩, laws_eqFuncS.s k)]
def L : List (LS R) := []
def c : Code := Tryz.f12.body.getD .skip
theorem eq (k : Nat) (x) : (s k).pf x = execF tab (E k) Tryz.f12 c (s k) L x := by kernel_rfl
theorem sound : ∀ k, Sound Tryz.prog 12 (s k) := snd S (fun k => (s k).pf) E (fun k => (EntsOK.cons (laws_eqFuncS.sound k) EntsOK.nil)) (fun k => L) (fun k => trivial) eq
end laws_eqModule
end
end Go.Proofs.YtebgkcjpocfmmaaGreat.V
namespace Go.Proofs.YtebgkcjpocfmmaaGreat.V
open Go
set_option linter.unusedVariables false
noncomputable section
/-! ### laws.markInt64S: function 64 -/
namespace laws_markInt64S
abbrev R := (((Int × Unit) × Unit) × ((List Int) × Unit))
abbrev T0 : Type := Int → Int → (List Int) → Option R
def l0_ (k : Nat) (l0 : T0) (a0 : Int) (a1 : Int) (a2 : List Int) : Option R := bif decide (a1 < ((List.length a2 : Nat) : Int)) then (bif (decide (0 ≤ a1)) && (decide (a1 < ((List.length a2 : Nat) : Int))) then (l0 (IntKind.wrap .i64 (a0 + 1)) (IntKind.wrap .i64 (a1 + 1)) (List.set a2 (Int.toNat a1) a0)) else none) else (some (((a0, ()), ()), (a2, ())))
def all : Nat → (T0) × Unit
  | 0 => (fun _ _ _ => none, ())
  | k + 1 => (l0_ k (all k).1, ())
def l0 (k : Nat) : T0 := (all k).1
def f (k : Nat) (a0 : Int) (a1 : List Int) : Option R := l0 k a0 0 a1
abbrev S : ShapeParts := ⟨[⟨false, [.own 0]⟩, ⟨false, [.int .i64]⟩], [(0, .row true (.int .i64))], false, [⟨false, [.int .i64]⟩], [(0, .row true (.int .i64))], [0]⟩
def s (k : Nat) : FS := S.fs fun x => f k x.1.2.1.1 x.2.1
def E (k : Nat) : Ents := []
def L0 (l : T0) : LS R := ⟨[0], [(0, ⟨false, [.own 0]⟩), (1, ⟨false, [.int .i64]⟩), (5, ⟨false, [.int .i64]⟩)], [(0, .row true (.int .i64))], fun x => l x.1.2.1.1 x.1.2.2.1.1 x.2.1⟩
def L (l0 : T0) : List (LS R) := [L0 l0]
def c : Code := Tryz.f64.body.getD .skip
theorem eq (k : Nat) (x) : (s k).pf x = execF tab (E k) Tryz.f64 c (s k) (L (l0 k)) x := by kernel_rfl
theorem r0 (l0 : T0) (k : Nat) (x) : (L0 (l0_ k l0)).l x = roundOf tab (E k) (L l0) c (fin tab Tryz.f64 (s k)) 0 (L0 l0) x := by kernel_rfl
theorem sound : ∀ k, Sound Tryz.prog 64 (s k) := snd S (fun k => (s k).pf) E (fun k => EntsOK.nil) (fun k => L (l0 k)) (fun k => ⟨⟨(L0 (l0 (k + 1))).l, rfl, fun x => r0 (l0 k) k x⟩, trivial⟩) eq
end laws_markInt64S
end
end Go.Proofs.YtebgkcjpocfmmaaGreat.V
namespace Go.Proofs.YtebgkcjpocfmmaaGreat.V
open Go
set_option linter.unusedVariables false
noncomputable section
/-! ### laws.markPhiS: function 119 -/
namespace laws_markPhiS
abbrev R := (((Int × Unit) × Unit) × ((List tPhiD) × Unit))
abbrev T0 : Type := Int → Int → (List tPhiD) → Option R
def l0_ (k : Nat) (l0 : T0) (a0 : Int) (a1 : Int) (a2 : List tPhiD) : Option R := bif decide (a1 < ((List.length a2 : Nat) : Int)) then (bif (decide (0 ≤ a1)) && (decide (a1 < ((List.length a2 : Nat) : Int))) then (bif (decide (0 ≤ a1)) && (decide (a1 < ((List.length (updAt tPhiZ a2 (Int.toNat a1) (fun q_ => (a0, q_.2))) : Nat) : Int))) then (Option.bind (laws_markInt64S.f k (IntKind.wrap .i64 (a0 + 1)) ((List.getD (updAt tPhiZ a2 (Int.toNat a1) (fun q_ => (a0, q_.2))) (Int.toNat a1) tPhiZ).2.1)) fun r1 => l0 r1.1.1.1 (IntKind.wrap .i64 (a1 + 1)) (updAt tPhiZ (updAt tPhiZ a2 (Int.toNat a1) (fun q_ => (a0, q_.2))) (Int.toNat a1) (fun q_ => (q_.1, r1.2.1, q_.2.2)))) else none) else none) else (some (((a0, ()), ()), (a2, ())))
def all : Nat → (T0) × Unit
  | 0 => (fun _ _ _ => none, ())
  | k + 1 => (l0_ k (all k).1, ())
def l0 (k : Nat) : T0 := (all k).1
def f (k : Nat) (a0 : Int) (a1 : List tPhiD) : Option R := l0 k a0 0 a1
abbrev S : ShapeParts := ⟨[⟨false, [.own 0]⟩, ⟨false, [.int .i64]⟩], [(0, .row true tPhi)], false, [⟨false, [.int .i64]⟩], [(0, .row true tPhi)], [0]⟩
def s (k : Nat) : FS := S.fs fun x => f k x.1.2.1.1 x.2.1
def E (k : Nat) : Ents := [(⟨64, []⟩, laws_markInt64S.s k)]
def L0 (l : T0) : LS R := ⟨[0], [(0, ⟨false, [.own 0]⟩), (1, ⟨false, [.int .i64]⟩), (5, ⟨false, [.int .i64]⟩)], [(0, .row true tPhi)], fun x => l x.1.2.1.1 x.1.2.2.1.1 x.2.1⟩
def L (l0 : T0) : List (LS R) := [L0 l0]
def c : Code := Tryz.f119.body.getD .skip
theorem eq (k : Nat) (x) : (s k).pf x = execF tab (E k) Tryz.f119 c (s k) (L (l0 k)) x := by kernel_rfl
theorem r0 (l0 : T0) (k : Nat) (x) : (L0 (l0_ k l0)).l x = roundOf tab (E k) (L l0) c (fin tab Tryz.f119 (s k)) 0 (L0 l0) x := by kernel_rfl
theorem sound : ∀ k, Sound Tryz.prog 119 (s k) := snd S (fun k => (s k).pf) E (fun k => (EntsOK.cons (laws_markInt64S.sound k) EntsOK.nil)) (fun k => L (l0 k)) (fun k => ⟨⟨(L0 (l0 (k + 1))).l, rfl, fun x => r0 (l0 k) k x⟩, trivial⟩) eq
end laws_markPhiS
end
end Go.Proofs.YtebgkcjpocfmmaaGreat.V
namespace Go.Proofs.YtebgkcjpocfmmaaGreat.V
open Go
set_option linter.unusedVariables false
noncomputable section
/-! ### laws.markInstS: function 120 -/
namespace laws_markInstS
abbrev R := (((Int × Unit) × Unit) × ((List tInstD) × Unit))
abbrev T0 : Type := Int → Int → (List tInstD) → Option R
def l0_ (k : Nat) (l0 : T0) (a0 : Int) (a1 : Int) (a2 : List tInstD) : Option R := bif decide (a1 < ((List.length a2 : Nat) : Int)) then (bif (decide (0 ≤ a1)) && (decide (a1 < ((List.length a2 : Nat) : Int))) then (bif (decide (0 ≤ a1)) && (decide (a1 < ((List.length (updAt tInstZ a2 (Int.toNat a1) (fun q_ => (a0, q_.2))) : Nat) : Int))) then (bif (decide (0 ≤ a1)) && (decide (a1 < ((List.length (updAt tInstZ (updAt tInstZ a2 (Int.toNat a1) (fun q_ => (a0, q_.2))) (Int.toNat a1) (fun q_ => (q_.1, IntKind.wrap .i64 (a0 + 1), q_.2.2))) : Nat) : Int))) then (bif (decide (0 ≤ a1)) && (decide (a1 < ((List.length (updAt tInstZ (updAt tInstZ (updAt tInstZ a2 (Int.toNat a1) (fun q_ => (a0, q_.2))) (Int.toNat a1) (fun q_ => (q_.1, IntKind.wrap .i64 (a0 + 1), q_.2.2))) (Int.toNat a1) (fun q_ => (q_.1, q_.2.1, IntKind.wrap .i64 ((IntKind.wrap .i64 (a0 + 1)) + 1), q_.2.2.2))) : Nat) : Int))) then (bif (decide (0 ≤ a1)) && (decide (a1 < ((List.length (updAt tInstZ (updAt tInstZ (updAt tInstZ (updAt tInstZ a2 (Int.toNat a1) (fun q_ => (a0, q_.2))) (Int.toNat a1) (fun q_ => (q_.1, IntKind.wrap .i64 (a0 + 1), q_.2.2))) (Int.toNat a1) (fun q_ => (q_.1, q_.2.1, IntKind.wrap .i64 ((IntKind.wrap .i64 (a0 + 1)) + 1), q_.2.2.2))) (Int.toNat a1) (fun q_ => (q_.1, q_.2.1, q_.2.2.1, IntKind.wrap .i64 ((IntKind.wrap .i64 ((IntKind.wrap .i64 (a0 + 1)) + 1)) + 1), q_.2.2.2.2))) : Nat) : Int))) then (bif (decide (0 ≤ a1)) && (decide (a1 < ((List.length (updAt tInstZ (updAt tInstZ (updAt tInstZ (updAt tInstZ (updAt tInstZ a2 (Int.toNat a1) (fun q_ => (a0, q_.2))) (Int.toNat a1) (fun q_ => (q_.1, IntKind.wrap .i64 (a0 + 1), q_.2.2))) (Int.toNat a1) (fun q_ => (q_.1, q_.2.1, IntKind.wrap .i64 ((IntKind.wrap .i64 (a0 + 1)) + 1), q_.2.2.2))) (Int.toNat a1) (fun q_ => (q_.1, q_.2.1, q_.2.2.1, IntKind.wrap .i64 ((IntKind.wrap .i64 ((IntKind.wrap .i64 (a0 + 1)) + 1)) + 1), q_.2.2.2.2))) (Int.toNat a1) (fun q_ => (q_.1, q_.2.1, q_.2.2.1, q_.2.2.2.1, IntKind.wrap .i64 ((IntKind.wrap .i64 ((IntKind.wrap .i64 ((IntKind.wrap .i64 (a0 + 1)) + 1)) + 1)) + 1), q_.2.2.2.2.2))) : Nat) : Int))) then (bif (decide (0 ≤ a1)) && (decide (a1 < ((List.length (updAt tInstZ (updAt tInstZ (updAt tInstZ (updAt tInstZ (updAt tInstZ (updAt tInstZ a2 (Int.toNat a1) (fun q_ => (a0, q_.2))) (Int.toNat a1) (fun q_ => (q_.1, IntKind.wrap .i64 (a0 + 1), q_.2.2))) (Int.toNat a1) (fun q_ => (q_.1, q_.2.1, IntKind.wrap .i64 ((IntKind.wrap .i64 (a0 + 1)) + 1), q_.2.2.2))) (Int.toNat a1) (fun q_ => (q_.1, q_.2.1, q_.2.2.1, IntKind.wrap .i64 ((IntKind.wrap .i64 ((IntKind.wrap .i64 (a0 + 1)) + 1)) + 1), q_.2.2.2.2))) (Int.toNat a1) (fun q_ => (q_.1, q_.2.1, q_.2.2.1, q_.2.2.2.1, IntKind.wrap .i64 ((IntKind.wrap .i64 ((IntKind.wrap .i64 ((IntKind.wrap .i64 (a0 + 1)) + 1)) + 1)) + 1), q_.2.2.2.2.2))) (Int.toNat a1) (fun q_ => (q_.1, q_.2.1, q_.2.2.1, q_.2.2.2.1, q_.2.2.2.2.1, IntKind.wrap .i64 ((IntKind.wrap .i64 ((IntKind.wrap .i64 ((IntKind.wrap .i64 ((IntKind.wrap .i64 (a0 + 1)) + 1)) + 1)) + 1)) + 1), q_.2.2.2.2.2.2))) : Nat) : Int))) then (Option.bind (laws_markInt64S.f k (IntKind.wrap .i64 ((IntKind.wrap .i64 ((IntKind.wrap .i64 ((IntKind.wrap .i64 ((IntKind.wrap .i64 ((IntKind.wrap .i64 (a0 + 1)) + 1)) + 1)) + 1)) + 1)) + 1)) ((List.getD (updAt tInstZ (updAt tInstZ (updAt tInstZ (updAt tInstZ (updAt tInstZ (updAt tInstZ a2 (Int.toNat a1) (fun q_ => (a0, q_.2))) (Int.toNat a1) (fun q_ => (q_.1, IntKind.wrap .i64 (a0 + 1), q_.2.2))) (Int.toNat a1) (fun q_ => (q_.1, q_.2.1, IntKind.wrap .i64 ((IntKind.wrap .i64 (a0 + 1)) + 1), q_.2.2.2))) (Int.toNat a1) (fun q_ => (q_.1, q_.2.1, q_.2.2.1, IntKind.wrap .i64 ((IntKind.wrap .i64 ((IntKind.wrap .i64 (a0 + 1)) + 1)) + 1), q_.2.2.2.2))) (Int.toNat a1) (fun q_ => (q_.1, q_.2.1, q_.2.2.1, q_.2.2.2.1, IntKind.wrap .i64 ((IntKind.wrap .i64 ((IntKind.wrap .i64 ((IntKind.wrap .i64 (a0 + 1)) + 1)) + 1)) + 1), q_.2.2.2.2.2))) (Int.toNat a1) (fun q_ => (q_.1, q_.2.1, q_.2.2.1, q_.2.2.2.1, q_.2.2.2.2.1, IntKind.wrap .i64 ((IntKind.wrap .i64 ((IntKind.wrap .i64 ((IntKind.wrap .i64 ((IntKind.wrap .i64 (a0 + 1)) + 1)) + 1)) + 1)) + 1), q_.2.2.2.2.2.2))) (Int.toNat a1) tInstZ).2.2.2.2.2.2.1)) fun r1 => l0 r1.1.1.1 (IntKind.wrap .i64 (a1 + 1)) (updAt tInstZ (updAt tInstZ (updAt tInstZ (updAt tInstZ (updAt tInstZ (updAt tInstZ (updAt tInstZ a2 (Int.toNat a1) (fun q_ => (a0, q_.2))) (Int.toNat a1) (fun q_ => (q_.1, IntKind.wrap .i64 (a0 + 1), q_.2.2))) (Int.toNat a1) (fun q_ => (q_.1, q_.2.1, IntKind.wrap .i64 ((IntKind.wrap .i64 (a0 + 1)) + 1), q_.2.2.2))) (Int.toNat a1) (fun q_ => (q_.1, q_.2.1, q_.2.2.1, IntKind.wrap .i64 ((IntKind.wrap .i64 ((IntKind.wrap .i64 (a0 + 1)) + 1)) + 1), q_.2.2.2.2))) (Int.toNat a1) (fun q_ => (q_.1, q_.2.1, q_.2.2.1, q_.2.2.2.1, IntKind.wrap .i64 ((IntKind.wrap .i64 ((IntKind.wrap .i64 ((IntKind.wrap .i64 (a0 + 1)) + 1)) + 1)) + 1), q_.2.2.2.2.2))) (Int.toNat a1) (fun q_ => (q_.1, q_.2.1, q_.2.2.1, q_.2.2.2.1, q_.2.2.2.2.1, IntKind.wrap .i64 ((IntKind.wrap .i64 ((IntKind.wrap .i64 ((IntKind.wrap .i64 ((IntKind.wrap .i64 (a0 + 1)) + 1)) + 1)) + 1)) + 1), q_.2.2.2.2.2.2))) (Int.toNat a1) (fun q_ => (q_.1, q_.2.1, q_.2.2.1, q_.2.2.2.1, q_.2.2.2.2.1, q_.2.2.2.2.2.1, r1.2.1, q_.2.2.2.2.2.2.2)))) else none) else none) else none) else none) else none) else none) else none) else (some (((a0, ()), ()), (a2, ())))
def all : Nat → (T0) × Unit
  | 0 => (fun _ _ _ => none, ())
  | k + 1 => (l0_ k (all k).1, ())
def l0 (k : Nat) : T0 := (all k).1
def f (k : Nat) (a0 : Int) (a1 : List tInstD) : Option R := l0 k a0 0 a1
abbrev S : ShapeParts := ⟨[⟨false, [.own 0]⟩, ⟨false, [.int .i64]⟩], [(0, .row true tInst)], false, [⟨false, [.int .i64]⟩], [(0, .row true tInst)], [0]⟩
def s (k : Nat) : FS := S.fs fun x => f k x.1.2.1.1 x.2.1
def E (k : Nat) : Ents := [(⟨64, []⟩, laws_markInt64S.s k)]
def L0 (l : T0) : LS R := ⟨[0], [(0, ⟨false, [.own 0]⟩), (1, ⟨false, [.int .i64]⟩), (5, ⟨false, [.int .i64]⟩)], [(0, .row true tInst)], fun x => l x.1.2.1.1 x.1.2.2.1.1 x.2.1⟩
def L (l0 : T0) : List (LS R) := [L0 l0]
def c : Code := Tryz.f120.body.getD .skip
theorem eq (k : Nat) (x) : (s k).pf x = execF tab (E k) Tryz.f120 c (s k) (L (l0 k)) x := by kernel_rfl
theorem r0 (l0 : T0) (k : Nat) (x) : (L0 (l0_ k l0)).l x = roundOf tab (E k) (L l0) c (fin tab Tryz.f120 (s k)) 0 (L0 l0) x := by kernel_rfl
theorem sound : ∀ k, Sound Tryz.prog 120 (s k) := snd S (fun k => (s k).pf) E (fun k => (EntsOK.cons (laws_markInt64S.sound k) EntsOK.nil)) (fun k => L (l0 k)) (fun k => ⟨⟨(L0 (l0 (k + 1))).l, rfl, fun x => r0 (l0 k) k x⟩, trivial⟩) eq
end laws_markInstS
end
end Go.Proofs.YtebgkcjpocfmmaaGreat.V
namespace Go.Proofs.YtebgkcjpocfmmaaGreat.V
open Go
set_option linter.unusedVariables false
noncomputable section
/-! ### laws.markBlockS: function 65 -/
namespace laws_markBlockS
abbrev R := (((Int × Unit) × Unit) × ((List tBlockD) × Unit))
abbrev T0 : Type := Int → Int → (List tBlockD) → Option R
def l0_ (k : Nat) (l0 : T0) (a0 : Int) (a1 : Int) (a2 : List tBlockD) : Option R := bif decide (a1 < ((List.length a2 : Nat) : Int)) then (bif (decide (0 ≤ a1)) && (decide (a1 < ((List.length a2 : Nat) : Int))) then (Option.bind (laws_markPhiS.f k a0 ((List.getD a2 (Int.toNat a1) tBlockZ).1)) fun r1 => bif (decide (0 ≤ a1)) && (decide (a1 < ((List.length (updAt tBlockZ a2 (Int.toNat a1) (fun q_ => (r1.2.1, q_.2))) : Nat) : Int))) then (Option.bind (laws_markInstS.f k r1.1.1.1 ((List.getD (updAt tBlockZ a2 (Int.toNat a1) (fun q_ => (r1.2.1, q_.2))) (Int.toNat a1) tBlockZ).2.1)) fun r2 => bif (decide (0 ≤ a1)) && (decide (a1 < ((List.length (updAt tBlockZ (updAt tBlockZ a2 (Int.toNat a1) (fun q_ => (r1.2.1, q_.2))) (Int.toNat a1) (fun q_ => (q_.1, r2.2.1, q_.2.2))) : Nat) : Int))) then (bif (decide (0 ≤ a1)) && (decide (a1 < ((List.length (updAt tBlockZ (updAt tBlockZ (updAt tBlockZ a2 (Int.toNat a1) (fun q_ => (r1.2.1, q_.2))) (Int.toNat a1) (fun q_ => (q_.1, r2.2.1, q_.2.2))) (Int.toNat a1) (fun q_ => (q_.1, q_.2.1, r2.1.1.1, q_.2.2.2))) : Nat) : Int))) then (bif (decide (0 ≤ a1)) && (decide (a1 < ((List.length (updAt tBlockZ (updAt tBlockZ (updAt tBlockZ (updAt tBlockZ a2 (Int.toNat a1) (fun q_ => (r1.2.1, q_.2))) (Int.toNat a1) (fun q_ => (q_.1, r2.2.1, q_.2.2))) (Int.toNat a1) (fun q_ => (q_.1, q_.2.1, r2.1.1.1, q_.2.2.2))) (Int.toNat a1) (fun q_ => (q_.1, q_.2.1, q_.2.2.1, IntKind.wrap .i64 (r2.1.1.1 + 1), q_.2.2.2.2))) : Nat) : Int))) then (bif (decide (0 ≤ a1)) && (decide (a1 < ((List.length (updAt tBlockZ (updAt tBlockZ (updAt tBlockZ (updAt tBlockZ (updAt tBlockZ a2 (Int.toNat a1) (fun q_ => (r1.2.1, q_.2))) (Int.toNat a1) (fun q_ => (q_.1, r2.2.1, q_.2.2))) (Int.toNat a1) (fun q_ => (q_.1, q_.2.1, r2.1.1.1, q_.2.2.2))) (Int.toNat a1) (fun q_ => (q_.1, q_.2.1, q_.2.2.1, IntKind.wrap .i64 (r2.1.1.1 + 1), q_.2.2.2.2))) (Int.toNat a1) (fun q_ => (q_.1, q_.2.1, q_.2.2.1, q_.2.2.2.1, IntKind.wrap .i64 ((IntKind.wrap .i64 (r2.1.1.1 + 1)) + 1), q_.2.2.2.2.2))) : Nat) : Int))) then (l0 (IntKind.wrap .i64 ((IntKind.wrap .i64 ((IntKind.wrap .i64 ((IntKind.wrap .i64 (r2.1.1.1 + 1)) + 1)) + 1)) + 1)) (IntKind.wrap .i64 (a1 + 1)) (updAt tBlockZ (updAt tBlockZ (updAt tBlockZ (updAt tBlockZ (updAt tBlockZ (updAt tBlockZ a2 (Int.toNat a1) (fun q_ => (r1.2.1, q_.2))) (Int.toNat a1) (fun q_ => (q_.1, r2.2.1, q_.2.2))) (Int.toNat a1) (fun q_ => (q_.1, q_.2.1, r2.1.1.1, q_.2.2.2))) (Int.toNat a1) (fun q_ => (q_.1, q_.2.1, q_.2.2.1, IntKind.wrap .i64 (r2.1.1.1 + 1), q_.2.2.2.2))) (Int.toNat a1) (fun q_ => (q_.1, q_.2.1, q_.2.2.1, q_.2.2.2.1, IntKind.wrap .i64 ((IntKind.wrap .i64 (r2.1.1.1 + 1)) + 1), q_.2.2.2.2.2))) (Int.toNat a1) (fun q_ => (q_.1, q_.2.1, q_.2.2.1, q_.2.2.2.1, q_.2.2.2.2.1, IntKind.wrap .i64 ((IntKind.wrap .i64 ((IntKind.wrap .i64 (r2.1.1.1 + 1)) + 1)) + 1), q_.2.2.2.2.2.2)))) else none) else none) else none) else none) else none) else none) else (some (((a0, ()), ()), (a2, ())))
def all : Nat → (T0) × Unit
  | 0 => (fun _ _ _ => none, ())
  | k + 1 => (l0_ k (all k).1, ())
def l0 (k : Nat) : T0 := (all k).1
def f (k : Nat) (a0 : Int) (a1 : List tBlockD) : Option R := l0 k a0 0 a1
abbrev S : ShapeParts := ⟨[⟨false, [.own 0]⟩, ⟨false, [.int .i64]⟩], [(0, .row true tBlock)], false, [⟨false, [.int .i64]⟩], [(0, .row true tBlock)], [0]⟩
def s (k : Nat) : FS := S.fs fun x => f k x.1.2.1.1 x.2.1
def E (k : Nat) : Ents := [(⟨119, []⟩, laws_markPhiS.s k), (⟨120, []⟩, laws_markInstS.s k)]
def L0 (l : T0) : LS R := ⟨[0], [(0, ⟨false, [.own 0]⟩), (1, ⟨false, [.int .i64]⟩), (5, ⟨false, [.int .i64]⟩)], [(0, .row true tBlock)], fun x => l x.1.2.1.1 x.1.2.2.1.1 x.2.1⟩
def L (l0 : T0) : List (LS R) := [L0 l0]
def c : Code := Tryz.f65.body.getD .skip
theorem eq (k : Nat) (x) : (s k).pf x = execF tab (E k) Tryz.f65 c (s k) (L (l0 k)) x := by kernel_rfl
theorem r0 (l0 : T0) (k : Nat) (x) : (L0 (l0_ k l0)).l x = roundOf tab (E k) (L l0) c (fin tab Tryz.f65 (s k)) 0 (L0 l0) x := by kernel_rfl
theorem sound : ∀ k, Sound Tryz.prog 65 (s k) := snd S (fun k => (s k).pf) E (fun k => (EntsOK.cons (laws_markPhiS.sound k) (EntsOK.cons (laws_markInstS.sound k) EntsOK.nil))) (fun k => L (l0 k)) (fun k => ⟨⟨(L0 (l0 (k + 1))).l, rfl, fun x => r0 (l0 k) k x⟩, trivial⟩) eq
end laws_markBlockS
end
end Go.Proofs.YtebgkcjpocfmmaaGreat.V
