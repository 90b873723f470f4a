/- PROVED HERE: what the functions that the law FnExactShared reaches do in memory, each as a plain Lean function, and what these tell: part 4 of 7 of the proof of that law; no condition beyond those written out at each theorem. -/
import Derived.Test.YtbkpngmpdnnloaaGreatDoorZFnExactShared2
namespace Go.Proofs.YtbkpngmpdnnloaaGreatDoor.V
open Go
set_option linter.unusedVariables false
set_option linter.unusedSimpArgs false
noncomputable section
namespace U47
abbrev R := (((Bool × Unit) × Unit) × Unit)
abbrev T0 : Type := (List Int) → Int → tFuncD → Option R
abbrev T1 : Type := (List Int) → Int → Int → Int → Int → tFuncD → tBlockD → (List Int) → Option R
abbrev T2 : Type := (List Int) → Int → Int → Int → Int → Int → tFuncD → tBlockD → (List Int) → Option R
abbrev T3 : Type := (List Int) → Int → Int → Int → Int → tFuncD → tBlockD → Option R
def l0_ (k : Nat) (l0 : T0) (l1 : T1) (l2 : T2) (l3 : T3) (l4 : T2) (a0 : List Int) (a1 : Int) (a2 : tFuncD) : Option R := bif decide (a1 < ((List.length a0 : Nat) : Int)) then (bif (decide (0 ≤ a1)) && (decide (a1 < ((List.length a0 : Nat) : Int))) then (bif (decide (0 ≤ List.getD a0 (Int.toNat a1) 0)) && (decide (List.getD a0 (Int.toNat a1) 0 < ((List.length a2.2.2.1 : Nat) : Int))) then (Option.bind (U34.f k a2 (List.getD a0 (Int.toNat a1) 0)) fun r1 => l1 a0 a1 (List.getD a0 (Int.toNat a1) 0) (IntKind.wrap .i64 (((List.length ((List.getD a2.2.2.1 (Int.toNat (List.getD a0 (Int.toNat a1) 0)) tBlockZ).1) : Nat) : Int) + ((List.length ((List.getD a2.2.2.1 (Int.toNat (List.getD a0 (Int.toNat a1) 0)) tBlockZ).2.1) : Nat) : Int))) 0 a2 (List.getD a2.2.2.1 (Int.toNat (List.getD a0 (Int.toNat a1) 0)) tBlockZ) r1.2.1) else none) else none) else (some (((true, ()), ()), ()))
def l1_ (k : Nat) (l0 : T0) (l1 : T1) (l2 : T2) (l3 : T3) (l4 : T2) (a0 : List Int) (a1 : Int) (a2 : Int) (a3 : Int) (a4 : Int) (a5 : tFuncD) (a6 : tBlockD) (a7 : List Int) : Option R := bif decide (a4 < ((List.length a6.1 : Nat) : Int)) then (l2 a0 a1 a2 a3 a4 0 a5 a6 a7) else (l3 a0 a1 a2 a3 0 a5 a6)
def l2_ (k : Nat) (l0 : T0) (l1 : T1) (l2 : T2) (l3 : T3) (l4 : T2) (a0 : List Int) (a1 : Int) (a2 : Int) (a3 : Int) (a4 : Int) (a5 : Int) (a6 : tFuncD) (a7 : tBlockD) (a8 : List Int) : Option R := bif decide (a5 < ((List.length a8 : Nat) : Int)) then (bif (decide (0 ≤ a5)) && (decide (a5 < ((List.length a8 : Nat) : Int))) then (bif (decide (0 ≤ List.getD a8 (Int.toNat a5) 0)) && (decide (List.getD a8 (Int.toNat a5) 0 < ((List.length a6.2.2.1 : Nat) : Int))) then (bif (decide (0 ≤ a5)) && (decide (a5 < ((List.length a8 : Nat) : Int))) then (Option.bind (U33.f k a0 (List.getD a8 (Int.toNat a5) 0)) fun r1 => bif r1.1.1.1 then (bif (decide (0 ≤ a4)) && (decide (a4 < ((List.length a7.1 : Nat) : Int))) then (bif (decide (0 ≤ a5)) && (decide (a5 < ((List.length ((List.getD a7.1 (Int.toNat a4) tPhiZ).2.1) : Nat) : Int))) then (bif (decide (0 ≤ a5)) && (decide (a5 < ((List.length a8 : Nat) : Int))) then (Option.bind (U46.f k a6 (List.getD ((List.getD a7.1 (Int.toNat a4) tPhiZ).2.1) (Int.toNat a5) 0) (List.getD a8 (Int.toNat a5) 0) (IntKind.wrap .i64 (((List.length ((List.getD a6.2.2.1 (Int.toNat (List.getD a8 (Int.toNat a5) 0)) tBlockZ).1) : Nat) : Int) + ((List.length ((List.getD a6.2.2.1 (Int.toNat (List.getD a8 (Int.toNat a5) 0)) tBlockZ).2.1) : Nat) : Int)))) fun r2 => bif !r2.1.1.1 then (some (((false, ()), ()), ())) else (l2 a0 a1 a2 a3 a4 (IntKind.wrap .i64 (a5 + 1)) a6 a7 a8)) else none) else none) else none) else (l2 a0 a1 a2 a3 a4 (IntKind.wrap .i64 (a5 + 1)) a6 a7 a8)) else none) else none) else none) else (l1 a0 a1 a2 a3 (IntKind.wrap .i64 (a4 + 1)) a6 a7 a8)
def l3_ (k : Nat) (l0 : T0) (l1 : T1) (l2 : T2) (l3 : T3) (l4 : T2) (a0 : List Int) (a1 : Int) (a2 : Int) (a3 : Int) (a4 : Int) (a5 : tFuncD) (a6 : tBlockD) : Option R := bif decide (a4 < ((List.length a6.2.1 : Nat) : Int)) then (bif (decide (0 ≤ a4)) && (decide (a4 < ((List.length a6.2.1 : Nat) : Int))) then (Option.bind (U25.f k (List.getD a6.2.1 (Int.toNat a4) tInstZ)) fun r1 => l4 a0 a1 a2 a3 a4 0 a5 a6 r1.2.1) else none) else (bif decide (a6.2.2.1 = 1) then (Option.bind (U46.f k a5 a6.2.2.2.1 a2 a3) fun r2 => bif !r2.1.1.1 then (some (((false, ()), ()), ())) else (l0 a0 (IntKind.wrap .i64 (a1 + 1)) a5)) else (bif decide (a6.2.2.1 = 3) then (Option.bind (U46.f k a5 a6.2.2.2.1 a2 a3) fun r3 => bif !r3.1.1.1 then (some (((false, ()), ()), ())) else (l0 a0 (IntKind.wrap .i64 (a1 + 1)) a5)) else (l0 a0 (IntKind.wrap .i64 (a1 + 1)) a5)))
def l4_ (k : Nat) (l0 : T0) (l1 : T1) (l2 : T2) (l3 : T3) (l4 : T2) (a0 : List Int) (a1 : Int) (a2 : Int) (a3 : Int) (a4 : Int) (a5 : Int) (a6 : tFuncD) (a7 : tBlockD) (a8 : List Int) : Option R := bif decide (a5 < ((List.length a8 : Nat) : Int)) then (bif (decide (0 ≤ a5)) && (decide (a5 < ((List.length a8 : Nat) : Int))) then (Option.bind (U46.f k a6 (List.getD a8 (Int.toNat a5) 0) a2 (IntKind.wrap .i64 (((List.length a7.1 : Nat) : Int) + a4))) fun r1 => bif !r1.1.1.1 then (some (((false, ()), ()), ())) else (l4 a0 a1 a2 a3 a4 (IntKind.wrap .i64 (a5 + 1)) a6 a7 a8)) else none) else (l3 a0 a1 a2 a3 (IntKind.wrap .i64 (a4 + 1)) a6 a7)
def all : Nat → (T0) × (T1) × (T2) × (T3) × (T2) × Unit
 | 0 => (fun _ _ _ => none, fun _ _ _ _ _ _ _ _ => none, fun _ _ _ _ _ _ _ _ _ => none, fun _ _ _ _ _ _ _ => none, fun _ _ _ _ _ _ _ _ _ => none, ())
 | k + 1 => (l0_ k (all k).1 (all k).2.1 (all k).2.2.1 (all k).2.2.2.1 (all k).2.2.2.2.1, l1_ k (all k).1 (all k).2.1 (all k).2.2.1 (all k).2.2.2.1 (all k).2.2.2.2.1, l2_ k (all k).1 (all k).2.1 (all k).2.2.1 (all k).2.2.2.1 (all k).2.2.2.2.1, l3_ k (all k).1 (all k).2.1 (all k).2.2.1 (all k).2.2.2.1 (all k).2.2.2.2.1, l4_ k (all k).1 (all k).2.1 (all k).2.2.1 (all k).2.2.2.1 (all k).2.2.2.2.1, ())
def l0 (k : Nat) : T0 := (all k).1
def l1 (k : Nat) : T1 := (all k).2.1
def l2 (k : Nat) : T2 := (all k).2.2.1
def l3 (k : Nat) : T3 := (all k).2.2.2.1
def l4 (k : Nat) : T2 := (all k).2.2.2.2.1
def f (k : Nat) (a0 : tFuncD) : Option R := Option.bind (U44.f k a0 (-1)) fun r1 => l0 k r1.1.1.1 0 a0
abbrev S : ShapeParts := ⟨[⟨true, [.lst (.int .i64), .int .i64, .lst tBlock]⟩], [], false, [⟨false, [.bool]⟩], [], []⟩
def s (k : Nat) : FS := S.fs fun x => f k x.1.1
def E (k : Nat) : Ents := [(⟨24, []⟩, U44.s k), (⟨49, []⟩, U34.s k), (⟨26, []⟩, U33.s k), (⟨28, []⟩, U46.s k), (⟨89, []⟩, U25.s k)]
def L0 (l : T0) : LS R := ⟨[], [(1, ⟨false, [.ptr 100000 0]⟩), (3, ⟨false, [.lst (.int .i64)]⟩), (4, ⟨false, [.int .i64]⟩)], [(100000, .box [.lst (.int .i64), .int .i64, .lst tBlock])], fun x => l x.1.2.1.1 x.1.2.2.1.1 x.2.1⟩
def L1 (l : T1) : LS R := ⟨[], [(1, ⟨false, [.ptr 100000 0]⟩), (3, ⟨false, [.lst (.int .i64)]⟩), (4, ⟨false, [.int .i64]⟩), (5, ⟨false, [.int .i64]⟩), (6, ⟨false, [.ptr 100001 0]⟩), (7, ⟨false, [.own 100002]⟩), (8, ⟨false, [.int .i64]⟩), (9, ⟨false, [.int .i64]⟩)], [(100000, .box [.lst (.int .i64), .int .i64, .lst tBlock]), (100001, .box [.lst tPhi, .lst tInst, .int .i64, .int .i64, .int .i64, .int .i64]), (100002, .row true (.int .i64))], fun x => l x.1.2.1.1 x.1.2.2.1.1 x.1.2.2.2.1.1 x.1.2.2.2.2.2.2.1.1 x.1.2.2.2.2.2.2.2.1.1 x.2.1 x.2.2.1 x.2.2.2.1⟩
def L2 (l : T2) : LS R := ⟨[], [(1, ⟨false, [.ptr 100000 0]⟩), (3, ⟨false, [.lst (.int .i64)]⟩), (4, ⟨false, [.int .i64]⟩), (5, ⟨false, [.int .i64]⟩), (6, ⟨false, [.ptr 100001 0]⟩), (7, ⟨false, [.own 100002]⟩), (8, ⟨false, [.int .i64]⟩), (9, ⟨false, [.int .i64]⟩), (10, ⟨false, [.int .i64]⟩)], [(100000, .box [.lst (.int .i64), .int .i64, .lst tBlock]), (100001, .box [.lst tPhi, .lst tInst, .int .i64, .int .i64, .int .i64, .int .i64]), (100002, .row true (.int .i64))], fun x => l x.1.2.1.1 x.1.2.2.1.1 x.1.2.2.2.1.1 x.1.2.2.2.2.2.2.1.1 x.1.2.2.2.2.2.2.2.1.1 x.1.2.2.2.2.2.2.2.2.1.1 x.2.1 x.2.2.1 x.2.2.2.1⟩
def L3 (l : T3) : LS R := ⟨[], [(1, ⟨false, [.ptr 100000 0]⟩), (3, ⟨false, [.lst (.int .i64)]⟩), (4, ⟨false, [.int .i64]⟩), (5, ⟨false, [.int .i64]⟩), (6, ⟨false, [.ptr 100001 0]⟩), (8, ⟨false, [.int .i64]⟩), (12, ⟨false, [.int .i64]⟩)], [(100000, .box [.lst (.int .i64), .int .i64, .lst tBlock]), (100001, .box [.lst tPhi, .lst tInst, .int .i64, .int .i64, .int .i64, .int .i64])], fun x => l x.1.2.1.1 x.1.2.2.1.1 x.1.2.2.2.1.1 x.1.2.2.2.2.2.1.1 x.1.2.2.2.2.2.2.1.1 x.2.1 x.2.2.1⟩
def L4 (l : T2) : LS R := ⟨[], [(1, ⟨false, [.ptr 100000 0]⟩), (3, ⟨false, [.lst (.int .i64)]⟩), (4, ⟨false, [.int .i64]⟩), (5, ⟨false, [.int .i64]⟩), (6, ⟨false, [.ptr 100001 0]⟩), (8, ⟨false, [.int .i64]⟩), (12, ⟨false, [.int .i64]⟩), (13, ⟨false, [.own 100002]⟩), (14, ⟨false, [.int .i64]⟩)], [(100000, .box [.lst (.int .i64), .int .i64, .lst tBlock]), (100001, .box [.lst tPhi, .lst tInst, .int .i64, .int .i64, .int .i64, .int .i64]), (100002, .row true (.int .i64))], fun x => l x.1.2.1.1 x.1.2.2.1.1 x.1.2.2.2.1.1 x.1.2.2.2.2.2.1.1 x.1.2.2.2.2.2.2.1.1 x.1.2.2.2.2.2.2.2.2.1.1 x.2.1 x.2.2.1 x.2.2.2.1⟩
def L (l0 : T0) (l1 : T1) (l2 : T2) (l3 : T3) (l4 : T2) : List (LS R) := [L0 l0, L1 l1, L2 l2, L3 l3, L4 l4]
def c : Code := Tryz.f53.body.getD .skip
theorem eq (k : Nat) (x) : (s k).pf x = execF tab (E k) Tryz.f53 c (s k) (L (l0 k) (l1 k) (l2 k) (l3 k) (l4 k)) x := by kernel_rfl
theorem r0 (l0 : T0) (l1 : T1) (l2 : T2) (l3 : T3) (l4 : T2) (k : Nat) (x) : (L0 (l0_ k l0 l1 l2 l3 l4)).l x = roundOf tab (E k) (L l0 l1 l2 l3 l4) c (fin tab Tryz.f53 (s k)) 0 (L0 l0) x := by kernel_rfl
theorem r1 (l0 : T0) (l1 : T1) (l2 : T2) (l3 : T3) (l4 : T2) (k : Nat) (x) : (L1 (l1_ k l0 l1 l2 l3 l4)).l x = roundOf tab (E k) (L l0 l1 l2 l3 l4) c (fin tab Tryz.f53 (s k)) 1 (L1 l1) x := by kernel_rfl
theorem r2 (l0 : T0) (l1 : T1) (l2 : T2) (l3 : T3) (l4 : T2) (k : Nat) (x) : (L2 (l2_ k l0 l1 l2 l3 l4)).l x = roundOf tab (E k) (L l0 l1 l2 l3 l4) c (fin tab Tryz.f53 (s k)) 2 (L2 l2) x := by kernel_rfl
theorem r3 (l0 : T0) (l1 : T1) (l2 : T2) (l3 : T3) (l4 : T2) (k : Nat) (x) : (L3 (l3_ k l0 l1 l2 l3 l4)).l x = roundOf tab (E k) (L l0 l1 l2 l3 l4) c (fin tab Tryz.f53 (s k)) 3 (L3 l3) x := by kernel_rfl
theorem r4 (l0 : T0) (l1 : T1) (l2 : T2) (l3 : T3) (l4 : T2) (k : Nat) (x) : (L4 (l4_ k l0 l1 l2 l3 l4)).l x = roundOf tab (E k) (L l0 l1 l2 l3 l4) c (fin tab Tryz.f53 (s k)) 4 (L4 l4) x := by kernel_rfl
theorem sound : ∀ k, Sound Tryz.prog 53 (s k) := snd S (fun k => (s k).pf) E (fun k => (EntsOK.cons (U44.sound k) (EntsOK.cons (U34.sound k) (EntsOK.cons (U33.sound k) (EntsOK.cons (U46.sound k) (EntsOK.cons (U25.sound k) EntsOK.nil)))))) (fun k => L (l0 k) (l1 k) (l2 k) (l3 k) (l4 k)) (fun k => ⟨⟨(L0 (l0 (k + 1))).l, rfl, fun x => r0 (l0 k) (l1 k) (l2 k) (l3 k) (l4 k) k x⟩, ⟨(L1 (l1 (k + 1))).l, rfl, fun x => r1 (l0 k) (l1 k) (l2 k) (l3 k) (l4 k) k x⟩, ⟨(L2 (l2 (k + 1))).l, rfl, fun x => r2 (l0 k) (l1 k) (l2 k) (l3 k) (l4 k) k x⟩, ⟨(L3 (l3 (k + 1))).l, rfl, fun x => r3 (l0 k) (l1 k) (l2 k) (l3 k) (l4 k) k x⟩, ⟨(L4 (l4 (k + 1))).l, rfl, fun x => r4 (l0 k) (l1 k) (l2 k) (l3 k) (l4 k) k x⟩, trivial⟩) eq
end U47
namespace U48
abbrev R := (((Int × Unit) × Unit) × Unit)
def f (k : Nat) (a0 : tModuleD) (a1 : tFuncD) : Option R := Option.bind (U34.f k a1 0) fun r1 => bif decide (0 < ((List.length r1.2.1 : Nat) : Int)) then (some (((2, ()), ()), ())) else (bif (decide (0 ≤ 0)) && (decide (0 < ((List.length a1.2.2.1 : Nat) : Int))) then (bif decide (0 < ((List.length ((List.getD a1.2.2.1 0 tBlockZ).1) : Nat) : Int)) then (some (((2, ()), ()), ())) else (Option.bind (U35.f k a1) fun r2 => bif !r2.1.1.1 then (some (((3, ()), ()), ())) else (Option.bind (U41.f k a1) fun r3 => bif !r3.1.1.1 then (some (((4, ()), ()), ())) else (Option.bind (U42.f k (a0.1, ()) a1) fun r4 => bif !r4.1.1.1 then (some (((5, ()), ()), ())) else (Option.bind (U47.f k a1) fun r5 => bif !r5.1.1.1 then (some (((6, ()), ()), ())) else (some (((0, ()), ()), ()))))))) else none)
abbrev S : ShapeParts := ⟨[⟨true, [.lst tFunc]⟩, ⟨true, [.lst (.int .i64), .int .i64, .lst tBlock]⟩], [], false, [⟨false, [.int .i64]⟩], [], []⟩
def s (k : Nat) : FS := S.fs fun x => f k x.1.1 x.1.2.1
def E (k : Nat) : Ents := [(⟨49, []⟩, U34.s k), (⟨50, []⟩, U35.s k), (⟨51, []⟩, U41.s k), (⟨52, []⟩, U42.s k), (⟨53, []⟩, U47.s k)]
def L : List (LS R) := []
def c : Code := Tryz.f22.body.getD .skip
theorem eq (k : Nat) (x) : (s k).pf x = execF tab (E k) Tryz.f22 c (s k) L x := by kernel_rfl
theorem sound : ∀ k, Sound Tryz.prog 22 (s k) := snd S (fun k => (s k).pf) E (fun k => (EntsOK.cons (U34.sound k) (EntsOK.cons (U35.sound k) (EntsOK.cons (U41.sound k) (EntsOK.cons (U42.sound k) (EntsOK.cons (U47.sound k) EntsOK.nil)))))) (fun k => L) (fun k => trivial) eq
end U48
namespace U49
abbrev R := (((Int × Unit) × Unit) × Unit)
abbrev T0 : Type := Int → (List tFuncD) → Option R
def l0_ (k : Nat) (l0 : T0) (a0 : Int) (a1 : List tFuncD) : Option R := bif decide (a0 < ((List.length a1 : Nat) : Int)) then (bif (decide (0 ≤ a0)) && (decide (a0 < ((List.length a1 : Nat) : Int))) then (Option.bind (U48.f k (a1, ()) (List.getD a1 (Int.toNat a0) tFuncZ)) fun r1 => bif !decide (r1.1.1.1 = 0) then (some (((r1.1.1.1, ()), ()), ())) else (l0 (IntKind.wrap .i64 (a0 + 1)) a1)) else none) else (some (((0, ()), ()), ()))
def all : Nat → (T0) × Unit
 | 0 => (fun _ _ => none, ())
 | k + 1 => (l0_ k (all k).1, ())
def l0 (k : Nat) : T0 := (all k).1
def f (k : Nat) (a0 : tModuleD) : Option R := Option.bind (U31.f k (a0.1, ())) fun r1 => bif !r1.1.1.1 then (some (((1, ()), ()), ())) else (l0 k 0 a0.1)
abbrev S : ShapeParts := ⟨[⟨true, [.lst tFunc]⟩], [], false, [⟨false, [.int .i64]⟩], [], []⟩
def s (k : Nat) : FS := S.fs fun x => f k x.1.1
def E (k : Nat) : Ents := [(⟨21, []⟩, U31.s k), (⟨22, []⟩, U48.s k)]
def L0 (l : T0) : LS R := ⟨[], [(1, ⟨false, [.ptr 100000 0]⟩), (3, ⟨false, [.int .i64]⟩)], [(100000, .box [.lst tFunc])], fun x => l x.1.2.1.1 x.2.1.1⟩
def L (l0 : T0) : List (LS R) := [L0 l0]
def c : Code := Tryz.f12.body.getD .skip
theorem eq (k : Nat) (x) : (s k).pf x = execF tab (E k) Tryz.f12 c (s k) (L (l0 k)) x := by kernel_rfl
theorem r0 (l0 : T0) (k : Nat) (x) : (L0 (l0_ k l0)).l x = roundOf tab (E k) (L l0) c (fin tab Tryz.f12 (s k)) 0 (L0 l0) x := by kernel_rfl
theorem sound : ∀ k, Sound Tryz.prog 12 (s k) := snd S (fun k => (s k).pf) E (fun k => (EntsOK.cons (U31.sound k) (EntsOK.cons (U48.sound k) EntsOK.nil))) (fun k => L (l0 k)) (fun k => ⟨⟨(L0 (l0 (k + 1))).l, rfl, fun x => r0 (l0 k) k x⟩, trivial⟩) eq
end U49
namespace U50
abbrev R := (((Int × Int × Int × Int × Int × Int × Unit × Unit) × Unit) × ((List Int) × Unit))
def f (k : Nat) (a0 : tInstD) : Option R := Option.bind (U24.f k a0.2.2.2.2.2.2.1) fun r1 => some (((a0.1, a0.2.1, a0.2.2.1, a0.2.2.2.1, a0.2.2.2.2.1, a0.2.2.2.2.2.1, (), ()), ()), (r1.2.1, ()))
abbrev S : ShapeParts := ⟨[⟨true, [.int .i64, .int .i64, .int .i64, .int .i64, .int .i64, .int .i64, .lst (.int .i64)]⟩], [], false, [⟨true, [.int .i64, .int .i64, .int .i64, .int .i64, .int .i64, .int .i64, .own 100]⟩], [(100, .row true (.int .i64))], []⟩
def s (k : Nat) : FS := S.fs fun x => f k x.1.1
def E (k : Nat) : Ents := [(⟨54, []⟩, U24.s k)]
def L : List (LS R) := []
def c : Code := Tryz.f59.body.getD .skip
theorem eq (k : Nat) (x) : (s k).pf x = execF tab (E k) Tryz.f59 c (s k) L x := by kernel_rfl
theorem sound : ∀ k, Sound Tryz.prog 59 (s k) := snd S (fun k => (s k).pf) E (fun k => (EntsOK.cons (U24.sound k) EntsOK.nil)) (fun k => L) (fun k => trivial) eq
end U50
namespace U51
abbrev R := (((Unit × Unit × Int × Int × Int × Int × Unit) × Unit) × ((List tPhiD) × (List tInstD) × Unit))
abbrev T0 : Type := Int → tBlockD → Int → Int → Int → Int → (List tPhiD) → (List tInstD) → Int → Int → Int → Int → (List tPhiD) → (List tInstD) → Option R
def l0_ (k : Nat) (l0 : T0) (l1 : T0) (a0 : Int) (a1 : tBlockD) (a2 : Int) (a3 : Int) (a4 : Int) (a5 : Int) (a6 : List tPhiD) (a7 : List tInstD) (a8 : Int) (a9 : Int) (a10 : Int) (a11 : Int) (a12 : List tPhiD) (a13 : List tInstD) : Option R := bif decide (a0 < ((List.length a1.1 : Nat) : Int)) then (bif (decide (0 ≤ a0)) && (decide (a0 < ((List.length a1.1 : Nat) : Int))) then (bif (decide (0 ≤ a0)) && (decide (a0 < ((List.length a1.1 : Nat) : Int))) then (Option.bind (U24.f k ((List.getD a1.1 (Int.toNat a0) tPhiZ).2.1)) fun r1 => bif decide ((List.length a12 + List.length [(((List.getD a1.1 (Int.toNat a0) tPhiZ).1, r1.2.1, ()) : tPhiD)]) * 32 ≤ 140737488355328) then (l0 (IntKind.wrap .i64 (a0 + 1)) a1 a2 a3 a4 a5 a6 a7 a8 a9 a10 a11 (a12 ++ [(((List.getD a1.1 (Int.toNat a0) tPhiZ).1, r1.2.1, ()) : tPhiD)]) a13) else none) else none) else none) else (l1 0 a1 a2 a3 a4 a5 a6 a7 a8 a9 a10 a11 a12 a13)
def l1_ (k : Nat) (l0 : T0) (l1 : T0) (a0 : Int) (a1 : tBlockD) (a2 : Int) (a3 : Int) (a4 : Int) (a5 : Int) (a6 : List tPhiD) (a7 : List tInstD) (a8 : Int) (a9 : Int) (a10 : Int) (a11 : Int) (a12 : List tPhiD) (a13 : List tInstD) : Option R := bif decide (a0 < ((List.length a1.2.1 : Nat) : Int)) then (bif (decide (0 ≤ a0)) && (decide (a0 < ((List.length a1.2.1 : Nat) : Int))) then (Option.bind (U50.f k (List.getD a1.2.1 (Int.toNat a0) tInstZ)) fun r1 => bif decide ((List.length a13 + List.length [((r1.1.1.1, r1.1.1.2.1, r1.1.1.2.2.1, r1.1.1.2.2.2.1, r1.1.1.2.2.2.2.1, r1.1.1.2.2.2.2.2.1, r1.2.1, ()) : tInstD)]) * 72 ≤ 140737488355328) then (l1 (IntKind.wrap .i64 (a0 + 1)) a1 a2 a3 a4 a5 a6 a7 a8 a9 a10 a11 a12 (a13 ++ [((r1.1.1.1, r1.1.1.2.1, r1.1.1.2.2.1, r1.1.1.2.2.2.1, r1.1.1.2.2.2.2.1, r1.1.1.2.2.2.2.2.1, r1.2.1, ()) : tInstD)])) else none) else none) else (some ((((), (), a8, a9, a10, a11, ()), ()), (a12, a13, ())))
def all : Nat → (T0) × (T0) × Unit
 | 0 => (fun _ _ _ _ _ _ _ _ _ _ _ _ _ _ => none, fun _ _ _ _ _ _ _ _ _ _ _ _ _ _ => none, ())
 | k + 1 => (l0_ k (all k).1 (all k).2.1, l1_ k (all k).1 (all k).2.1, ())
def l0 (k : Nat) : T0 := (all k).1
def l1 (k : Nat) : T0 := (all k).2.1
def f (k : Nat) (a0 : tBlockD) : Option R := l0 k 0 a0 0 0 0 0 ([] : List tPhiD) ([] : List tInstD) a0.2.2.1 a0.2.2.2.1 a0.2.2.2.2.1 a0.2.2.2.2.2.1 ([] : List tPhiD) ([] : List tInstD)
abbrev S : ShapeParts := ⟨[⟨true, [.lst tPhi, .lst tInst, .int .i64, .int .i64, .int .i64, .int .i64]⟩], [], false, [⟨true, [.own 100, .own 101, .int .i64, .int .i64, .int .i64, .int .i64]⟩], [(100, .row true tPhi), (101, .row true tInst)], []⟩
def s (k : Nat) : FS := S.fs fun x => f k x.1.1
def E (k : Nat) : Ents := [(⟨54, []⟩, U24.s k), (⟨59, []⟩, U50.s k)]
def L0 (l : T0) : LS R := ⟨[], [(1, ⟨false, [.ptr 100000 0]⟩), (2, ⟨false, [.ptr 100001 0]⟩), (3, ⟨false, [.ptr 100004 0]⟩), (4, ⟨false, [.int .i64]⟩)], [(100000, .box [.lst tPhi, .lst tInst, .int .i64, .int .i64, .int .i64, .int .i64]), (100001, .box [.own 100002, .own 100003, .int .i64, .int .i64, .int .i64, .int .i64]), (100002, .row true tPhi), (100003, .row true tInst), (100004, .box [.own 100005, .own 100006, .int .i64, .int .i64, .int .i64, .int .i64]), (100005, .row true tPhi), (100006, .row true tInst)], fun x => l x.1.2.2.2.1.1 x.2.1 x.2.2.1.2.2.1 x.2.2.1.2.2.2.1 x.2.2.1.2.2.2.2.1 x.2.2.1.2.2.2.2.2.1 x.2.2.2.1 x.2.2.2.2.1 x.2.2.2.2.2.1.2.2.1 x.2.2.2.2.2.1.2.2.2.1 x.2.2.2.2.2.1.2.2.2.2.1 x.2.2.2.2.2.1.2.2.2.2.2.1 x.2.2.2.2.2.2.1 x.2.2.2.2.2.2.2.1⟩
def L1 (l : T0) : LS R := ⟨[], [(1, ⟨false, [.ptr 100000 0]⟩), (2, ⟨false, [.ptr 100001 0]⟩), (3, ⟨false, [.ptr 100004 0]⟩), (5, ⟨false, [.int .i64]⟩)], [(100000, .box [.lst tPhi, .lst tInst, .int .i64, .int .i64, .int .i64, .int .i64]), (100001, .box [.own 100002, .own 100003, .int .i64, .int .i64, .int .i64, .int .i64]), (100002, .row true tPhi), (100003, .row true tInst), (100004, .box [.own 100005, .own 100006, .int .i64, .int .i64, .int .i64, .int .i64]), (100005, .row true tPhi), (100006, .row true tInst)], fun x => l x.1.2.2.2.1.1 x.2.1 x.2.2.1.2.2.1 x.2.2.1.2.2.2.1 x.2.2.1.2.2.2.2.1 x.2.2.1.2.2.2.2.2.1 x.2.2.2.1 x.2.2.2.2.1 x.2.2.2.2.2.1.2.2.1 x.2.2.2.2.2.1.2.2.2.1 x.2.2.2.2.2.1.2.2.2.2.1 x.2.2.2.2.2.1.2.2.2.2.2.1 x.2.2.2.2.2.2.1 x.2.2.2.2.2.2.2.1⟩
def L (l0 : T0) (l1 : T0) : List (LS R) := [L0 l0, L1 l1]
def c : Code := Tryz.f55.body.getD .skip
theorem eq (k : Nat) (x) : (s k).pf x = execF tab (E k) Tryz.f55 c (s k) (L (l0 k) (l1 k)) x := by kernel_rfl
theorem r0 (l0 : T0) (l1 : T0) (k : Nat) (x) : (L0 (l0_ k l0 l1)).l x = roundOf tab (E k) (L l0 l1) c (fin tab Tryz.f55 (s k)) 0 (L0 l0) x := by kernel_rfl
theorem r1 (l0 : T0) (l1 : T0) (k : Nat) (x) : (L1 (l1_ k l0 l1)).l x = roundOf tab (E k) (L l0 l1) c (fin tab Tryz.f55 (s k)) 1 (L1 l1) x := by kernel_rfl
theorem sound : ∀ k, Sound Tryz.prog 55 (s k) := snd S (fun k => (s k).pf) E (fun k => (EntsOK.cons (U24.sound k) (EntsOK.cons (U50.sound k) EntsOK.nil))) (fun k => L (l0 k) (l1 k)) (fun k => ⟨⟨(L0 (l0 (k + 1))).l, rfl, fun x => r0 (l0 k) (l1 k) k x⟩, ⟨(L1 (l1 (k + 1))).l, rfl, fun x => r1 (l0 k) (l1 k) k x⟩, trivial⟩) eq
end U51
namespace U52
abbrev R := (((Unit × Int × Unit × Unit) × Unit) × ((List Int) × (List tBlockD) × Unit))
abbrev T0 : Type := Int → tFuncD → Int → (List Int) → (List tBlockD) → Int → (List Int) → (List tBlockD) → Option R
def l0_ (k : Nat) (l0 : T0) (a0 : Int) (a1 : tFuncD) (a2 : Int) (a3 : List Int) (a4 : List tBlockD) (a5 : Int) (a6 : List Int) (a7 : List tBlockD) : Option R := bif decide (a0 < ((List.length a1.2.2.1 : Nat) : Int)) then (bif (decide (0 ≤ a0)) && (decide (a0 < ((List.length a1.2.2.1 : Nat) : Int))) then (Option.bind (U51.f k (List.getD a1.2.2.1 (Int.toNat a0) tBlockZ)) fun r1 => bif decide ((List.length a7 + List.length [((r1.2.1, r1.2.2.1, r1.1.1.2.2.1, r1.1.1.2.2.2.1, r1.1.1.2.2.2.2.1, r1.1.1.2.2.2.2.2.1, ()) : tBlockD)]) * 80 ≤ 140737488355328) then (l0 (IntKind.wrap .i64 (a0 + 1)) a1 a2 a3 a4 a5 a6 (a7 ++ [((r1.2.1, r1.2.2.1, r1.1.1.2.2.1, r1.1.1.2.2.2.1, r1.1.1.2.2.2.2.1, r1.1.1.2.2.2.2.2.1, ()) : tBlockD)])) else none) else none) else (some ((((), a5, (), ()), ()), (a6, a7, ())))
def all : Nat → (T0) × Unit
 | 0 => (fun _ _ _ _ _ _ _ _ => none, ())
 | k + 1 => (l0_ k (all k).1, ())
def l0 (k : Nat) : T0 := (all k).1
def f (k : Nat) (a0 : tFuncD) : Option R := Option.bind (U24.f k a0.1) fun r1 => l0 k 0 a0 0 ([] : List Int) ([] : List tBlockD) a0.2.1 r1.2.1 ([] : List tBlockD)
abbrev S : ShapeParts := ⟨[⟨true, [.lst (.int .i64), .int .i64, .lst tBlock]⟩], [], false, [⟨true, [.own 100, .int .i64, .own 101]⟩], [(100, .row true (.int .i64)), (101, .row true tBlock)], []⟩
def s (k : Nat) : FS := S.fs fun x => f k x.1.1
def E (k : Nat) : Ents := [(⟨54, []⟩, U24.s k), (⟨55, []⟩, U51.s k)]
def L0 (l : T0) : LS R := ⟨[], [(1, ⟨false, [.ptr 100000 0]⟩), (2, ⟨false, [.ptr 100001 0]⟩), (3, ⟨false, [.ptr 100004 0]⟩), (4, ⟨false, [.int .i64]⟩)], [(100000, .box [.lst (.int .i64), .int .i64, .lst tBlock]), (100001, .box [.own 100002, .int .i64, .own 100003]), (100002, .row true (.int .i64)), (100003, .row true tBlock), (100004, .box [.own 100005, .int .i64, .own 100006]), (100005, .row true (.int .i64)), (100006, .row true tBlock)], fun x => l x.1.2.2.2.1.1 x.2.1 x.2.2.1.2.1 x.2.2.2.1 x.2.2.2.2.1 x.2.2.2.2.2.1.2.1 x.2.2.2.2.2.2.1 x.2.2.2.2.2.2.2.1⟩
def L (l0 : T0) : List (LS R) := [L0 l0]
def c : Code := Tryz.f23.body.getD .skip
theorem eq (k : Nat) (x) : (s k).pf x = execF tab (E k) Tryz.f23 c (s k) (L (l0 k)) x := by kernel_rfl
theorem r0 (l0 : T0) (k : Nat) (x) : (L0 (l0_ k l0)).l x = roundOf tab (E k) (L l0) c (fin tab Tryz.f23 (s k)) 0 (L0 l0) x := by kernel_rfl
theorem sound : ∀ k, Sound Tryz.prog 23 (s k) := snd S (fun k => (s k).pf) E (fun k => (EntsOK.cons (U24.sound k) (EntsOK.cons (U51.sound k) EntsOK.nil))) (fun k => L (l0 k)) (fun k => ⟨⟨(L0 (l0 (k + 1))).l, rfl, fun x => r0 (l0 k) k x⟩, trivial⟩) eq
end U52
namespace U53
abbrev R := (((Int × Int × Int × Int × Int × Int × (List Int) × Unit) × (Bool × Unit) × Unit) × Unit)
def f (k : Nat) (a0 : tFuncD) (a1 : Int) : Option R := Option.bind (U36.f k a0 a1) fun r1 => bif decide (r1.1.1.1 < 0) then (some (((0, 0, 0, 0, 0, 0, ([] : List Int), ()), (false, ()), ()), ())) else (bif (decide (0 ≤ r1.1.1.1)) && (decide (r1.1.1.1 < ((List.length a0.2.2.1 : Nat) : Int))) then (bif decide (r1.1.2.1.1 < ((List.length ((List.getD a0.2.2.1 (Int.toNat r1.1.1.1) tBlockZ).1) : Nat) : Int)) then (some (((0, 0, 0, 0, 0, 0, ([] : List Int), ()), (false, ()), ()), ())) else (bif (decide (0 ≤ r1.1.1.1)) && (decide (r1.1.1.1 < ((List.length a0.2.2.1 : Nat) : Int))) then (bif (decide (0 ≤ IntKind.wrap .i64 (r1.1.2.1.1 - ((List.length ((List.getD a0.2.2.1 (Int.toNat r1.1.1.1) tBlockZ).1) : Nat) : Int)))) && (decide (IntKind.wrap .i64 (r1.1.2.1.1 - ((List.length ((List.getD a0.2.2.1 (Int.toNat r1.1.1.1) tBlockZ).1) : Nat) : Int)) < ((List.length ((List.getD a0.2.2.1 (Int.toNat r1.1.1.1) tBlockZ).2.1) : Nat) : Int))) then (some (((List.getD ((List.getD a0.2.2.1 (Int.toNat r1.1.1.1) tBlockZ).2.1) (Int.toNat (IntKind.wrap .i64 (r1.1.2.1.1 - ((List.length ((List.getD a0.2.2.1 (Int.toNat r1.1.1.1) tBlockZ).1) : Nat) : Int)))) tInstZ), (true, ()), ()), ())) else none) else none)) else none)
abbrev S : ShapeParts := ⟨[⟨true, [.lst (.int .i64), .int .i64, .lst tBlock]⟩, ⟨false, [.int .i64]⟩], [], true, [⟨true, [.int .i64, .int .i64, .int .i64, .int .i64, .int .i64, .int .i64, .lst (.int .i64)]⟩, ⟨false, [.bool]⟩], [], []⟩
def s (k : Nat) : FS := S.fs fun x => f k x.1.1 x.1.2.1.1
def E (k : Nat) : Ents := [(⟨62, []⟩, U36.s k)]
def L : List (LS R) := []
def c : Code := Tryz.f58.body.getD .skip
theorem eq (k : Nat) (x) : (s k).pf x = execF tab (E k) Tryz.f58 c (s k) L x := by kernel_rfl
theorem sound : ∀ k, Sound Tryz.prog 58 (s k) := snd S (fun k => (s k).pf) E (fun k => (EntsOK.cons (U36.sound k) EntsOK.nil)) (fun k => L) (fun k => trivial) eq
end U53
namespace U54
abbrev R := (((Bool × Unit) × Unit) × Unit)
def f (k : Nat) (a0 : Int) : Option R := bif decide (a0 = 1) then (some (((true, ()), ()), ())) else (bif decide (a0 = 3) then (some (((true, ()), ()), ())) else (Option.bind (U21.f k a0 8 10) fun r1 => bif r1.1.1.1 then (some (((true, ()), ()), ())) else (bif decide (a0 = 14) then (some (((true, ()), ()), ())) else (some (((decide (a0 = 15), ()), ()), ())))))
abbrev S : ShapeParts := ⟨[⟨false, [.int .i64]⟩], [], false, [⟨false, [.bool]⟩], [], []⟩
def s (k : Nat) : FS := S.fs fun x => f k x.1.1.1
def E (k : Nat) : Ents := [(⟨47, []⟩, U21.s k)]
def L : List (LS R) := []
def c : Code := Tryz.f60.body.getD .skip
theorem eq (k : Nat) (x) : (s k).pf x = execF tab (E k) Tryz.f60 c (s k) L x := by kernel_rfl
theorem sound : ∀ k, Sound Tryz.prog 60 (s k) := snd S (fun k => (s k).pf) E (fun k => (EntsOK.cons (U21.sound k) EntsOK.nil)) (fun k => L) (fun k => trivial) eq
end U54
namespace U55
abbrev R := (((Unit × Unit) × Unit) × ((List ByteArray) × Unit))
def f (k : Nat) : Option R := some ((((), ()), ()), ([ByteArray.empty, (ByteArray.mk #[97, 100, 100]), (ByteArray.mk #[115, 117, 98]), (ByteArray.mk #[109, 117, 108]), (ByteArray.mk #[117, 100, 105, 118]), (ByteArray.mk #[115, 100, 105, 118]), (ByteArray.mk #[117, 114, 101, 109]), (ByteArray.mk #[115, 114, 101, 109]), (ByteArray.mk #[97, 110, 100]), (ByteArray.mk #[111, 114]), (ByteArray.mk #[120, 111, 114]), (ByteArray.mk #[115, 104, 108]), (ByteArray.mk #[108, 115, 104, 114]), (ByteArray.mk #[97, 115, 104, 114]), (ByteArray.mk #[101, 113]), (ByteArray.mk #[110, 101]), (ByteArray.mk #[117, 108, 116]), (ByteArray.mk #[115, 108, 116]), (ByteArray.mk #[122, 101, 120, 116]), (ByteArray.mk #[115, 101, 120, 116]), (ByteArray.mk #[116, 114, 117, 110, 99]), (ByteArray.mk #[99, 111, 110, 115, 116]), (ByteArray.mk #[115, 101, 108, 101, 99, 116]), (ByteArray.mk #[108, 111, 97, 100]), (ByteArray.mk #[115, 116, 111, 114, 101]), (ByteArray.mk #[112, 114, 105, 110, 116]), (ByteArray.mk #[99, 97, 108, 108]), (ByteArray.mk #[99, 111, 112, 121])], ()))
abbrev S : ShapeParts := ⟨[], [], false, [⟨false, [.own 100]⟩], [(100, .row true .str)], []⟩
def s (k : Nat) : FS := S.fs fun x => f k
def E (k : Nat) : Ents := []
def L : List (LS R) := []
def c : Code := Tryz.f90.body.getD .skip
theorem eq (k : Nat) (x) : (s k).pf x = execF tab (E k) Tryz.f90 c (s k) L x := by kernel_rfl
theorem sound : ∀ k, Sound Tryz.prog 90 (s k) := snd S (fun k => (s k).pf) E (fun k => EntsOK.nil) (fun k => L) (fun k => trivial) eq
end U55
namespace U56
abbrev R := (((ByteArray × Unit) × Unit) × Unit)
def l0_ (k : Nat) (l0 : Int → ByteArray → Option R) (a0 : Int) (a1 : ByteArray) : Option R := bif decide (10 ≤ a0) then (bif !decide (10 = 0) then (bif decide (ByteArray.size (strOf [IntKind.wrap .u8 (IntKind.wrap .i64 (48 + (Int.tmod a0 10)))]) + ByteArray.size a1 ≤ big) then (bif !decide (10 = 0) then (l0 (IntKind.wrap .i64 (Int.tdiv a0 10)) ((strOf [IntKind.wrap .u8 (IntKind.wrap .i64 (48 + (Int.tmod a0 10)))]) ++ a1)) else none) else none) else none) else (bif decide (ByteArray.size (strOf [IntKind.wrap .u8 (IntKind.wrap .i64 (48 + a0))]) + ByteArray.size a1 ≤ big) then (some ((((strOf [IntKind.wrap .u8 (IntKind.wrap .i64 (48 + a0))]) ++ a1, ()), ()), ())) else none)
def all : Nat → (Int → ByteArray → Option R) × Unit
 | 0 => (fun _ _ => none, ())
 | k + 1 => (l0_ k (all k).1, ())
def l0 (k : Nat) : Int → ByteArray → Option R := (all k).1
def f (k : Nat) (a0 : Int) : Option R := bif decide (a0 < 0) then none else (l0 k a0 ByteArray.empty)
abbrev S : ShapeParts := ⟨[⟨false, [.int .i64]⟩], [], false, [⟨false, [.str]⟩], [], []⟩
def s (k : Nat) : FS := S.fs fun x => f k x.1.1.1
def E (k : Nat) : Ents := []
def L0 (l : Int → ByteArray → Option R) : LS R := ⟨[], [(0, ⟨false, [.int .i64]⟩), (3, ⟨false, [.str]⟩)], [], fun x => l x.1.1.1 x.1.2.1.1⟩
def L (l0 : Int → ByteArray → Option R) : List (LS R) := [L0 l0]
def c : Code := Tryz.f91.body.getD .skip
theorem eq (k : Nat) (x) : (s k).pf x = execF tab (E k) Tryz.f91 c (s k) (L (l0 k)) x := by kernel_rfl
theorem r0 (l0 : Int → ByteArray → Option R) (k : Nat) (x) : (L0 (l0_ k l0)).l x = roundOf tab (E k) (L l0) c (fin tab Tryz.f91 (s k)) 0 (L0 l0) x := by kernel_rfl
theorem sound : ∀ k, Sound Tryz.prog 91 (s k) := snd S (fun k => (s k).pf) E (fun k => EntsOK.nil) (fun k => L (l0 k)) (fun k => ⟨⟨(L0 (l0 (k + 1))).l, rfl, fun x => r0 (l0 k) k x⟩, trivial⟩) eq
end U56
namespace U57
abbrev R := (((ByteArray × Unit) × Unit) × Unit)
abbrev T0 : Type := (List Int) → ByteArray → Int → Option R
def l0_ (k : Nat) (l0 : T0) (a0 : List Int) (a1 : ByteArray) (a2 : Int) : Option R := bif decide (a2 < ((List.length a0 : Nat) : Int)) then (bif decide (ByteArray.size a1 + ByteArray.size (ByteArray.mk #[32]) ≤ big) then (bif (decide (0 ≤ a2)) && (decide (a2 < ((List.length a0 : Nat) : Int))) then (Option.bind (U56.f k (List.getD a0 (Int.toNat a2) 0)) fun r1 => bif decide (ByteArray.size (a1 ++ (ByteArray.mk #[32])) + ByteArray.size r1.1.1.1 ≤ big) then (l0 a0 ((a1 ++ (ByteArray.mk #[32])) ++ r1.1.1.1) (IntKind.wrap .i64 (a2 + 1))) else none) else none) else none) else (some (((a1, ()), ()), ()))
def all : Nat → (T0) × Unit
 | 0 => (fun _ _ _ => none, ())
 | k + 1 => (l0_ k (all k).1, ())
def l0 (k : Nat) : T0 := (all k).1
def f (k : Nat) (a0 : List Int) : Option R := l0 k a0 ByteArray.empty 0
abbrev S : ShapeParts := ⟨[⟨false, [.lst (.int .i64)]⟩], [], false, [⟨false, [.str]⟩], [], []⟩
def s (k : Nat) : FS := S.fs fun x => f k x.1.1.1
def E (k : Nat) : Ents := [(⟨91, []⟩, U56.s k)]
def L0 (l : T0) : LS R := ⟨[], [(0, ⟨false, [.lst (.int .i64)]⟩), (3, ⟨false, [.str]⟩), (4, ⟨false, [.int .i64]⟩)], [], fun x => l x.1.1.1 x.1.2.1.1 x.1.2.2.1.1⟩
def L (l0 : T0) : List (LS R) := [L0 l0]
def c : Code := Tryz.f92.body.getD .skip
theorem eq (k : Nat) (x) : (s k).pf x = execF tab (E k) Tryz.f92 c (s k) (L (l0 k)) x := by kernel_rfl
theorem r0 (l0 : T0) (k : Nat) (x) : (L0 (l0_ k l0)).l x = roundOf tab (E k) (L l0) c (fin tab Tryz.f92 (s k)) 0 (L0 l0) x := by kernel_rfl
theorem sound : ∀ k, Sound Tryz.prog 92 (s k) := snd S (fun k => (s k).pf) E (fun k => (EntsOK.cons (U56.sound k) EntsOK.nil)) (fun k => L (l0 k)) (fun k => ⟨⟨(L0 (l0 (k + 1))).l, rfl, fun x => r0 (l0 k) k x⟩, trivial⟩) eq
end U57
namespace U58
abbrev R := (((ByteArray × Unit) × Unit) × Unit)
def f (k : Nat) (a0 : tInstD) : Option R := Option.bind (U55.f k) fun r1 => bif (decide (0 ≤ a0.1)) && (decide (a0.1 < ((List.length r1.2.1 : Nat) : Int))) then (bif decide (ByteArray.size (List.getD r1.2.1 (Int.toNat a0.1) ByteArray.empty) + ByteArray.size (ByteArray.mk #[32]) ≤ big) then (Option.bind (U56.f k a0.2.1) fun r2 => bif decide (ByteArray.size ((List.getD r1.2.1 (Int.toNat a0.1) ByteArray.empty) ++ (ByteArray.mk #[32])) + ByteArray.size r2.1.1.1 ≤ big) then (bif decide (a0.1 = 21) then (bif decide (ByteArray.size (((List.getD r1.2.1 (Int.toNat a0.1) ByteArray.empty) ++ (ByteArray.mk #[32])) ++ r2.1.1.1) + ByteArray.size (ByteArray.mk #[32]) ≤ big) then (Option.bind (U56.f k a0.2.2.2.2.2.1) fun r3 => bif decide (ByteArray.size ((((List.getD r1.2.1 (Int.toNat a0.1) ByteArray.empty) ++ (ByteArray.mk #[32])) ++ r2.1.1.1) ++ (ByteArray.mk #[32])) + ByteArray.size r3.1.1.1 ≤ big) then (Option.bind (U25.f k a0) fun r4 => Option.bind (U57.f k r4.2.1) fun r5 => bif decide (ByteArray.size (((((List.getD r1.2.1 (Int.toNat a0.1) ByteArray.empty) ++ (ByteArray.mk #[32])) ++ r2.1.1.1) ++ (ByteArray.mk #[32])) ++ r3.1.1.1) + ByteArray.size r5.1.1.1 ≤ big) then (some ((((((((List.getD r1.2.1 (Int.toNat a0.1) ByteArray.empty) ++ (ByteArray.mk #[32])) ++ r2.1.1.1) ++ (ByteArray.mk #[32])) ++ r3.1.1.1) ++ r5.1.1.1, ()), ()), ())) else none) else none) else none) else (bif decide (a0.1 = 26) then (bif decide (ByteArray.size (((List.getD r1.2.1 (Int.toNat a0.1) ByteArray.empty) ++ (ByteArray.mk #[32])) ++ r2.1.1.1) + ByteArray.size (ByteArray.mk #[32]) ≤ big) then (Option.bind (U56.f k a0.2.2.2.2.2.1) fun r6 => bif decide (ByteArray.size ((((List.getD r1.2.1 (Int.toNat a0.1) ByteArray.empty) ++ (ByteArray.mk #[32])) ++ r2.1.1.1) ++ (ByteArray.mk #[32])) + ByteArray.size r6.1.1.1 ≤ big) then (Option.bind (U25.f k a0) fun r7 => Option.bind (U57.f k r7.2.1) fun r8 => bif decide (ByteArray.size (((((List.getD r1.2.1 (Int.toNat a0.1) ByteArray.empty) ++ (ByteArray.mk #[32])) ++ r2.1.1.1) ++ (ByteArray.mk #[32])) ++ r6.1.1.1) + ByteArray.size r8.1.1.1 ≤ big) then (some ((((((((List.getD r1.2.1 (Int.toNat a0.1) ByteArray.empty) ++ (ByteArray.mk #[32])) ++ r2.1.1.1) ++ (ByteArray.mk #[32])) ++ r6.1.1.1) ++ r8.1.1.1, ()), ()), ())) else none) else none) else none) else (Option.bind (U25.f k a0) fun r9 => Option.bind (U57.f k r9.2.1) fun r10 => bif decide (ByteArray.size (((List.getD r1.2.1 (Int.toNat a0.1) ByteArray.empty) ++ (ByteArray.mk #[32])) ++ r2.1.1.1) + ByteArray.size r10.1.1.1 ≤ big) then (some ((((((List.getD r1.2.1 (Int.toNat a0.1) ByteArray.empty) ++ (ByteArray.mk #[32])) ++ r2.1.1.1) ++ r10.1.1.1, ()), ()), ())) else none))) else none) else none) else none
abbrev S : ShapeParts := ⟨[⟨true, [.int .i64, .int .i64, .int .i64, .int .i64, .int .i64, .int .i64, .lst (.int .i64)]⟩], [], false, [⟨false, [.str]⟩], [], []⟩
def s (k : Nat) : FS := S.fs fun x => f k x.1.1
def E (k : Nat) : Ents := [(⟨90, []⟩, U55.s k), (⟨91, []⟩, U56.s k), (⟨89, []⟩, U25.s k), (⟨92, []⟩, U57.s k)]
def L : List (LS R) := []
def c : Code := Tryz.f61.body.getD .skip
theorem eq (k : Nat) (x) : (s k).pf x = execF tab (E k) Tryz.f61 c (s k) L x := by kernel_rfl
theorem sound : ∀ k, Sound Tryz.prog 61 (s k) := snd S (fun k => (s k).pf) E (fun k => (EntsOK.cons (U55.sound k) (EntsOK.cons (U56.sound k) (EntsOK.cons (U25.sound k) (EntsOK.cons (U57.sound k) EntsOK.nil))))) (fun k => L) (fun k => trivial) eq
end U58
namespace U59
abbrev R := (((ByteArray × Unit) × (Bool × Unit) × Unit) × Unit)
def f (k : Nat) (a0 : tFuncD) (a1 : Int) : Option R := Option.bind (U53.f k a0 a1) fun r1 => bif !r1.1.2.1.1 then (some (((ByteArray.empty, ()), (false, ()), ()), ())) else (bif decide (23 ≤ r1.1.1.1) then (some (((ByteArray.empty, ()), (false, ()), ()), ())) else (Option.bind (U50.f k r1.1.1) fun r2 => Option.bind (U54.f k r2.1.1.1) fun r3 => bif r3.1.1.1 then (bif decide (r2.1.1.2.2.2.1 < r2.1.1.2.2.1) then (Option.bind (U58.f k (r2.1.1.1, r2.1.1.2.1, r2.1.1.2.2.2.1, r2.1.1.2.2.1, r2.1.1.2.2.2.2.1, r2.1.1.2.2.2.2.2.1, r2.2.1, ())) fun r4 => some (((r4.1.1.1, ()), (true, ()), ()), ())) else (Option.bind (U58.f k (r2.1.1.1, r2.1.1.2.1, r2.1.1.2.2.1, r2.1.1.2.2.2.1, r2.1.1.2.2.2.2.1, r2.1.1.2.2.2.2.2.1, r2.2.1, ())) fun r5 => some (((r5.1.1.1, ()), (true, ()), ()), ()))) else (Option.bind (U58.f k (r2.1.1.1, r2.1.1.2.1, r2.1.1.2.2.1, r2.1.1.2.2.2.1, r2.1.1.2.2.2.2.1, r2.1.1.2.2.2.2.2.1, r2.2.1, ())) fun r6 => some (((r6.1.1.1, ()), (true, ()), ()), ()))))
abbrev S : ShapeParts := ⟨[⟨true, [.lst (.int .i64), .int .i64, .lst tBlock]⟩, ⟨false, [.int .i64]⟩], [], true, [⟨false, [.str]⟩, ⟨false, [.bool]⟩], [], []⟩
def s (k : Nat) : FS := S.fs fun x => f k x.1.1 x.1.2.1.1
def E (k : Nat) : Ents := [(⟨58, []⟩, U53.s k), (⟨59, []⟩, U50.s k), (⟨60, []⟩, U54.s k), (⟨61, []⟩, U58.s k)]
def L : List (LS R) := []
def c : Code := Tryz.f25.body.getD .skip
theorem eq (k : Nat) (x) : (s k).pf x = execF tab (E k) Tryz.f25 c (s k) L x := by kernel_rfl
theorem sound : ∀ k, Sound Tryz.prog 25 (s k) := snd S (fun k => (s k).pf) E (fun k => (EntsOK.cons (U53.sound k) (EntsOK.cons (U50.sound k) (EntsOK.cons (U54.sound k) (EntsOK.cons (U58.sound k) EntsOK.nil))))) (fun k => L) (fun k => trivial) eq
end U59
namespace U60
abbrev R := (((Int × Int × Int × Int × Int × Int × Unit × Unit) × Unit) × Unit)
def f (k : Nat) (a0 : Int) (a1 : Int) : Option R := some (((27, a0, a1, 0, 0, 0, (), ()), ()), ())
abbrev S : ShapeParts := ⟨[⟨false, [.int .i64]⟩, ⟨false, [.int .i64]⟩], [], false, [⟨true, [.int .i64, .int .i64, .int .i64, .int .i64, .int .i64, .int .i64, .nilc]⟩], [], []⟩
def s (k : Nat) : FS := S.fs fun x => f k x.1.1.1 x.1.2.1.1
def E (k : Nat) : Ents := []
def L : List (LS R) := []
def c : Code := Tryz.f29.body.getD .skip
theorem eq (k : Nat) (x) : (s k).pf x = execF tab (E k) Tryz.f29 c (s k) L x := by kernel_rfl
theorem sound : ∀ k, Sound Tryz.prog 29 (s k) := snd S (fun k => (s k).pf) E (fun k => EntsOK.nil) (fun k => L) (fun k => trivial) eq
end U60
namespace U61
abbrev R := (((Unit × Int × Unit × Unit) × Unit) × ((List Int) × (List tBlockD) × Unit))
abbrev T0 : Type := (List Int) → Int → Int → tFuncD → Int → (List Int) → (List tBlockD) → Int → (List Int) → (List tBlockD) → Option R
abbrev T1 : Type := (List Int) → Int → Int → Int → Int → tFuncD → Int → (List Int) → (List tBlockD) → Int → (List Int) → (List tBlockD) → Option R
abbrev T2 : Type := (List Int) → Int → Int → Int → Int → ByteArray → Bool → Int → tFuncD → Int → (List Int) → (List tBlockD) → Int → (List Int) → (List tBlockD) → Option R
def l0_ (k : Nat) (l0 : T0) (l1 : T1) (l2 : T2) (a0 : List Int) (a1 : Int) (a2 : Int) (a3 : tFuncD) (a4 : Int) (a5 : List Int) (a6 : List tBlockD) (a7 : Int) (a8 : List Int) (a9 : List tBlockD) : Option R := bif decide (a2 < ((List.length a3.2.2.1 : Nat) : Int)) then (bif (decide (0 ≤ a2)) && (decide (a2 < ((List.length a3.2.2.1 : Nat) : Int))) then (l1 a0 (IntKind.wrap .i64 (a1 + ((List.length ((List.getD a3.2.2.1 (Int.toNat a2) tBlockZ).1) : Nat) : Int))) a2 ((List.length ((List.getD a3.2.2.1 (Int.toNat a2) tBlockZ).1) : Nat) : Int) 0 a3 a4 a5 a6 a7 a8 a9) else none) else (some ((((), a7, (), ()), ()), (a8, a9, ())))
def l1_ (k : Nat) (l0 : T0) (l1 : T1) (l2 : T2) (a0 : List Int) (a1 : Int) (a2 : Int) (a3 : Int) (a4 : Int) (a5 : tFuncD) (a6 : Int) (a7 : List Int) (a8 : List tBlockD) (a9 : Int) (a10 : List Int) (a11 : List tBlockD) : Option R := bif (decide (0 ≤ a2)) && (decide (a2 < ((List.length a5.2.2.1 : Nat) : Int))) then (bif decide (a4 < ((List.length ((List.getD a5.2.2.1 (Int.toNat a2) tBlockZ).2.1) : Nat) : Int)) then (Option.bind (U59.f k a5 a1) fun r1 => bif !r1.1.2.1.1 then (l2 a0 a1 a2 a3 a4 r1.1.1.1 true ((List.length a5.1 : Nat) : Int) a5 a6 a7 a8 a9 a10 a11) else (Option.bind (U33.f k a0 a2) fun r2 => l2 a0 a1 a2 a3 a4 r1.1.1.1 (!r2.1.1.1) ((List.length a5.1 : Nat) : Int) a5 a6 a7 a8 a9 a10 a11)) else (l0 a0 a1 (IntKind.wrap .i64 (a2 + 1)) a5 a6 a7 a8 a9 a10 a11)) else none
def l2_ (k : Nat) (l0 : T0) (l1 : T1) (l2 : T2) (a0 : List Int) (a1 : Int) (a2 : Int) (a3 : Int) (a4 : Int) (a5 : ByteArray) (a6 : Bool) (a7 : Int) (a8 : tFuncD) (a9 : Int) (a10 : List Int) (a11 : List tBlockD) (a12 : Int) (a13 : List Int) (a14 : List tBlockD) : Option R := Option.bind (U22.f k a8) fun r1 => bif decide (a7 < r1.1.1.1) then (bif !a6 then (Option.bind (U59.f k a8 a7) fun r2 => bif !decide (a7 = a1) then (bif r2.1.2.1.1 then (bif strEq r2.1.1.1 a5 then (Option.bind (U46.f k a8 a7 a2 (IntKind.wrap .i64 (a3 + a4))) fun r3 => bif r3.1.1.1 then (bif (decide (0 ≤ a2)) && (decide (a2 < ((List.length a14 : Nat) : Int))) then (bif (decide (0 ≤ a2)) && (decide (a2 < ((List.length a14 : Nat) : Int))) then (bif decide (Int.toNat a2 = Int.toNat a2) then (bif (decide (0 ≤ a2)) && (decide (a2 < ((List.length a8.2.2.1 : Nat) : Int))) then (bif (decide (0 ≤ a4)) && (decide (a4 < ((List.length ((List.getD a8.2.2.1 (Int.toNat a2) tBlockZ).2.1) : Nat) : Int))) then (Option.bind (U38.f k (List.getD ((List.getD a8.2.2.1 (Int.toNat a2) tBlockZ).2.1) (Int.toNat a4) tInstZ)) fun r4 => Option.bind (U60.f k r4.1.1.1 a7) fun r5 => bif (decide (0 ≤ a4)) && (decide (a4 < ((List.length ((List.getD a14 (Int.toNat a2) tBlockZ).2.1) : Nat) : Int))) then (l2 a0 a1 a2 a3 a4 a5 true (IntKind.wrap .i64 (a7 + 1)) a8 a9 a10 a11 a12 a13 (List.set a14 (Int.toNat a2) ((List.getD a14 (Int.toNat a2) tBlockZ).1, List.set ((List.getD a14 (Int.toNat a2) tBlockZ).2.1) (Int.toNat a4) (r5.1.1.1, r5.1.1.2.1, r5.1.1.2.2.1, r5.1.1.2.2.2.1, r5.1.1.2.2.2.2.1, r5.1.1.2.2.2.2.2.1, ([] : List Int), ()), (List.getD a14 (Int.toNat a2) tBlockZ).2.2.1, (List.getD a14 (Int.toNat a2) tBlockZ).2.2.2.1, (List.getD a14 (Int.toNat a2) tBlockZ).2.2.2.2.1, (List.getD a14 (Int.toNat a2) tBlockZ).2.2.2.2.2.1, ()))) else none) else none) else none) else none) else none) else none) else (l2 a0 a1 a2 a3 a4 a5 a6 (IntKind.wrap .i64 (a7 + 1)) a8 a9 a10 a11 a12 a13 a14)) else (l2 a0 a1 a2 a3 a4 a5 a6 (IntKind.wrap .i64 (a7 + 1)) a8 a9 a10 a11 a12 a13 a14)) else (l2 a0 a1 a2 a3 a4 a5 a6 (IntKind.wrap .i64 (a7 + 1)) a8 a9 a10 a11 a12 a13 a14)) else (l2 a0 a1 a2 a3 a4 a5 a6 (IntKind.wrap .i64 (a7 + 1)) a8 a9 a10 a11 a12 a13 a14)) else (l1 a0 (IntKind.wrap .i64 (a1 + 1)) a2 a3 (IntKind.wrap .i64 (a4 + 1)) a8 a9 a10 a11 a12 a13 a14)) else (l1 a0 (IntKind.wrap .i64 (a1 + 1)) a2 a3 (IntKind.wrap .i64 (a4 + 1)) a8 a9 a10 a11 a12 a13 a14)
def all : Nat → (T0) × (T1) × (T2) × Unit
 | 0 => (fun _ _ _ _ _ _ _ _ _ _ => none, fun _ _ _ _ _ _ _ _ _ _ _ _ => none, fun _ _ _ _ _ _ _ _ _ _ _ _ _ _ _ => none, ())
 | k + 1 => (l0_ k (all k).1 (all k).2.1 (all k).2.2.1, l1_ k (all k).1 (all k).2.1 (all k).2.2.1, l2_ k (all k).1 (all k).2.1 (all k).2.2.1, ())
def l0 (k : Nat) : T0 := (all k).1
def l1 (k : Nat) : T1 := (all k).2.1
def l2 (k : Nat) : T2 := (all k).2.2.1
def f (k : Nat) (a0 : tFuncD) : Option R := Option.bind (U52.f k a0) fun r1 => Option.bind (U44.f k a0 (-1)) fun r2 => l0 k r2.1.1.1 ((List.length a0.1 : Nat) : Int) 0 a0 0 ([] : List Int) ([] : List tBlockD) r1.1.1.2.1 r1.2.1 r1.2.2.1
abbrev S : ShapeParts := ⟨[⟨true, [.lst (.int .i64), .int .i64, .lst tBlock]⟩], [], false, [⟨true, [.own 100, .int .i64, .own 101]⟩], [(100, .row true (.int .i64)), (101, .row true tBlock)], []⟩
def s (k : Nat) : FS := S.fs fun x => f k x.1.1
def E (k : Nat) : Ents := [(⟨23, []⟩, U52.s k), (⟨24, []⟩, U44.s k), (⟨25, []⟩, U59.s k), (⟨26, []⟩, U33.s k), (⟨27, []⟩, U22.s k), (⟨28, []⟩, U46.s k), (⟨30, []⟩, U38.s k), (⟨29, []⟩, U60.s k), (⟨23, [999998, 19, 1, 100006, 6, 2000000]⟩, U52.s k), (⟨23, [999998, 20, 2, 100006]⟩, U52.s k)]
def L0 (l : T0) : LS R := ⟨[], [(1, ⟨false, [.ptr 100000 0]⟩), (2, ⟨false, [.ptr 100001 0]⟩), (3, ⟨false, [.ptr 100004 0]⟩), (4, ⟨false, [.lst (.int .i64)]⟩), (5, ⟨false, [.int .i64]⟩), (6, ⟨false, [.int .i64]⟩)], [(100000, .box [.lst (.int .i64), .int .i64, .lst tBlock]), (100001, .box [.own 100002, .int .i64, .own 100003]), (100002, .row true (.int .i64)), (100003, .row true tBlock), (100004, .box [.own 100005, .int .i64, .own 100006]), (100005, .row true (.int .i64)), (100006, .row true tBlock)], fun x => l x.1.2.2.2.1.1 x.1.2.2.2.2.1.1 x.1.2.2.2.2.2.1.1 x.2.1 x.2.2.1.2.1 x.2.2.2.1 x.2.2.2.2.1 x.2.2.2.2.2.1.2.1 x.2.2.2.2.2.2.1 x.2.2.2.2.2.2.2.1⟩
def L1 (l : T1) : LS R := ⟨[], [(1, ⟨false, [.ptr 100000 0]⟩), (2, ⟨false, [.ptr 100001 0]⟩), (3, ⟨false, [.ptr 100004 0]⟩), (4, ⟨false, [.lst (.int .i64)]⟩), (5, ⟨false, [.int .i64]⟩), (6, ⟨false, [.int .i64]⟩), (7, ⟨false, [.int .i64]⟩), (8, ⟨false, [.int .i64]⟩)], [(100000, .box [.lst (.int .i64), .int .i64, .lst tBlock]), (100001, .box [.own 100002, .int .i64, .own 100003]), (100002, .row true (.int .i64)), (100003, .row true tBlock), (100004, .box [.own 100005, .int .i64, .own 100006]), (100005, .row true (.int .i64)), (100006, .row true tBlock)], fun x => l x.1.2.2.2.1.1 x.1.2.2.2.2.1.1 x.1.2.2.2.2.2.1.1 x.1.2.2.2.2.2.2.1.1 x.1.2.2.2.2.2.2.2.1.1 x.2.1 x.2.2.1.2.1 x.2.2.2.1 x.2.2.2.2.1 x.2.2.2.2.2.1.2.1 x.2.2.2.2.2.2.1 x.2.2.2.2.2.2.2.1⟩
def L2 (l : T2) : LS R := ⟨[], [(1, ⟨false, [.ptr 100000 0]⟩), (2, ⟨false, [.ptr 100001 0]⟩), (3, ⟨false, [.ptr 100004 0]⟩), (4, ⟨false, [.lst (.int .i64)]⟩), (5, ⟨false, [.int .i64]⟩), (6, ⟨false, [.int .i64]⟩), (7, ⟨false, [.int .i64]⟩), (8, ⟨false, [.int .i64]⟩), (9, ⟨false, [.str]⟩), (11, ⟨false, [.bool]⟩), (12, ⟨false, [.int .i64]⟩)], [(100000, .box [.lst (.int .i64), .int .i64, .lst tBlock]), (100001, .box [.own 100002, .int .i64, .own 100003]), (100002, .row true (.int .i64)), (100003, .row true tBlock), (100004, .box [.own 100005, .int .i64, .own 100006]), (100005, .row true (.int .i64)), (100006, .row true tBlock)], fun x => l x.1.2.2.2.1.1 x.1.2.2.2.2.1.1 x.1.2.2.2.2.2.1.1 x.1.2.2.2.2.2.2.1.1 x.1.2.2.2.2.2.2.2.1.1 x.1.2.2.2.2.2.2.2.2.1.1 x.1.2.2.2.2.2.2.2.2.2.1.1 x.1.2.2.2.2.2.2.2.2.2.2.1.1 x.2.1 x.2.2.1.2.1 x.2.2.2.1 x.2.2.2.2.1 x.2.2.2.2.2.1.2.1 x.2.2.2.2.2.2.1 x.2.2.2.2.2.2.2.1⟩
def L (l0 : T0) (l1 : T1) (l2 : T2) : List (LS R) := [L0 l0, L1 l1, L2 l2]
def c : Code := Tryz.f13.body.getD .skip
theorem eq (k : Nat) (x) : (s k).pf x = execF tab (E k) Tryz.f13 c (s k) (L (l0 k) (l1 k) (l2 k)) x := by kernel_rfl
theorem r0 (l0 : T0) (l1 : T1) (l2 : T2) (k : Nat) (x) : (L0 (l0_ k l0 l1 l2)).l x = roundOf tab (E k) (L l0 l1 l2) c (fin tab Tryz.f13 (s k)) 0 (L0 l0) x := by kernel_rfl
theorem r1 (l0 : T0) (l1 : T1) (l2 : T2) (k : Nat) (x) : (L1 (l1_ k l0 l1 l2)).l x = roundOf tab (E k) (L l0 l1 l2) c (fin tab Tryz.f13 (s k)) 1 (L1 l1) x := by kernel_rfl
theorem r2 (l0 : T0) (l1 : T1) (l2 : T2) (k : Nat) (x) : (L2 (l2_ k l0 l1 l2)).l x = roundOf tab (E k) (L l0 l1 l2) c (fin tab Tryz.f13 (s k)) 2 (L2 l2) x := by kernel_rfl
theorem sound : ∀ k, Sound Tryz.prog 13 (s k) := snd S (fun k => (s k).pf) E (fun k => (EntsOK.cons (U52.sound k) (EntsOK.cons (U44.sound k) (EntsOK.cons (U59.sound k) (EntsOK.cons (U33.sound k) (EntsOK.cons (U22.sound k) (EntsOK.cons (U46.sound k) (EntsOK.cons (U38.sound k) (EntsOK.cons (U60.sound k) (EntsOK.cons (U52.sound k) (EntsOK.cons (U52.sound k) EntsOK.nil))))))))))) (fun k => L (l0 k) (l1 k) (l2 k)) (fun k => ⟨⟨(L0 (l0 (k + 1))).l, rfl, fun x => r0 (l0 k) (l1 k) (l2 k) k x⟩, ⟨(L1 (l1 (k + 1))).l, rfl, fun x => r1 (l0 k) (l1 k) (l2 k) k x⟩, ⟨(L2 (l2 (k + 1))).l, rfl, fun x => r2 (l0 k) (l1 k) (l2 k) k x⟩, trivial⟩) eq
end U61
namespace U62
abbrev R := (((Unit × Unit) × (Bool × Unit) × Unit) × ((List tFuncD) × Unit))
abbrev T0 : Type := Int → (List tFuncD) → (List tFuncD) → (List tFuncD) → Option R
def l0_ (k : Nat) (l0 : T0) (a0 : Int) (a1 : List tFuncD) (a2 : List tFuncD) (a3 : List tFuncD) : Option R := bif decide (a0 < ((List.length a1 : Nat) : Int)) then (bif (decide (0 ≤ a0)) && (decide (a0 < ((List.length a1 : Nat) : Int))) then (Option.bind (U61.f k (List.getD a1 (Int.toNat a0) tFuncZ)) fun r1 => bif decide ((List.length a3 + List.length [((r1.2.1, r1.1.1.2.1, r1.2.2.1, ()) : tFuncD)]) * 56 ≤ 140737488355328) then (l0 (IntKind.wrap .i64 (a0 + 1)) a1 a2 (a3 ++ [((r1.2.1, r1.1.1.2.1, r1.2.2.1, ()) : tFuncD)])) else none) else none) else (some ((((), ()), (true, ()), ()), (a3, ())))
def all : Nat → (T0) × Unit
 | 0 => (fun _ _ _ _ => none, ())
 | k + 1 => (l0_ k (all k).1, ())
def l0 (k : Nat) : T0 := (all k).1
def f (k : Nat) (a0 : tModuleD) : Option R := Option.bind (U49.f k (a0.1, ())) fun r1 => bif !decide (r1.1.1.1 = 0) then (some ((((), ()), (false, ()), ()), (([] : List tFuncD), ()))) else (l0 k 0 a0.1 ([] : List tFuncD) ([] : List tFuncD))
abbrev S : ShapeParts := ⟨[⟨true, [.lst tFunc]⟩], [], true, [⟨true, [.own 100]⟩, ⟨false, [.bool]⟩], [(100, .row true tFunc)], []⟩
def s (k : Nat) : FS := S.fs fun x => f k x.1.1
def E (k : Nat) : Ents := [(⟨12, []⟩, U49.s k), (⟨13, []⟩, U61.s k)]
def L0 (l : T0) : LS R := ⟨[], [(1, ⟨false, [.ptr 100000 0]⟩), (2, ⟨false, [.ptr 100001 0]⟩), (4, ⟨false, [.ptr 100003 0]⟩), (5, ⟨false, [.int .i64]⟩)], [(100000, .box [.lst tFunc]), (100001, .box [.own 100002]), (100002, .row true tFunc), (100003, .box [.own 100004]), (100004, .row true tFunc)], fun x => l x.1.2.2.2.1.1 x.2.1.1 x.2.2.2.1 x.2.2.2.2.2.1⟩
def L (l0 : T0) : List (LS R) := [L0 l0]
def c : Code := Tryz.f5.body.getD .skip
theorem eq (k : Nat) (x) : (s k).pf x = execF tab (E k) Tryz.f5 c (s k) (L (l0 k)) x := by kernel_rfl
theorem r0 (l0 : T0) (k : Nat) (x) : (L0 (l0_ k l0)).l x = roundOf tab (E k) (L l0) c (fin tab Tryz.f5 (s k)) 0 (L0 l0) x := by kernel_rfl
theorem sound : ∀ k, Sound Tryz.prog 5 (s k) := snd S (fun k => (s k).pf) E (fun k => (EntsOK.cons (U49.sound k) (EntsOK.cons (U61.sound k) EntsOK.nil))) (fun k => L (l0 k)) (fun k => ⟨⟨(L0 (l0 (k + 1))).l, rfl, fun x => r0 (l0 k) k x⟩, trivial⟩) eq
end U62
namespace U63
abbrev R := (((Bool × Unit) × Unit) × Unit)
def f (k : Nat) (a0 : Int) (a1 : Int) (a2 : Int) : Option R := bif decide (a1 ≤ a0) then (some (((decide (a0 ≤ a2), ()), ()), ())) else (some (((false, ()), ()), ()))
abbrev S : ShapeParts := ⟨[⟨false, [.int .i64]⟩, ⟨false, [.int .i64]⟩, ⟨false, [.int .i64]⟩], [], false, [⟨false, [.bool]⟩], [], []⟩
def s (k : Nat) : FS := S.fs fun x => f k x.1.1.1 x.1.2.1.1 x.1.2.2.1.1
def E (k : Nat) : Ents := []
def L : List (LS R) := []
def c : Code := Tryz.f119.body.getD .skip
theorem eq (k : Nat) (x) : (s k).pf x = execF tab (E k) Tryz.f119 c (s k) L x := by kernel_rfl
theorem sound : ∀ k, Sound Tryz.prog 119 (s k) := snd S (fun k => (s k).pf) E (fun k => EntsOK.nil) (fun k => L) (fun k => trivial) eq
end U63
namespace U64
abbrev R := (((Bool × Unit) × Unit) × Unit)
def f (k : Nat) (a0 : Int) : Option R := bif decide (a0 = 1) then (some (((true, ()), ()), ())) else (bif decide (a0 = 8) then (some (((true, ()), ()), ())) else (bif decide (a0 = 16) then (some (((true, ()), ()), ())) else (some (((decide (a0 = 32), ()), ()), ()))))
abbrev S : ShapeParts := ⟨[⟨false, [.int .i64]⟩], [], false, [⟨false, [.bool]⟩], [], []⟩
def s (k : Nat) : FS := S.fs fun x => f k x.1.1.1
def E (k : Nat) : Ents := []
def L : List (LS R) := []
def c : Code := Tryz.f120.body.getD .skip
theorem eq (k : Nat) (x) : (s k).pf x = execF tab (E k) Tryz.f120 c (s k) L x := by kernel_rfl
theorem sound : ∀ k, Sound Tryz.prog 120 (s k) := snd S (fun k => (s k).pf) E (fun k => EntsOK.nil) (fun k => L) (fun k => trivial) eq
end U64
namespace U65
abbrev R := (((Bool × Unit) × Unit) × Unit)
def f (k : Nat) (a0 : Int) : Option R := Option.bind (U64.f k a0) fun r1 => some (((!r1.1.1.1, ()), ()), ())
abbrev S : ShapeParts := ⟨[⟨false, [.int .i64]⟩], [], false, [⟨false, [.bool]⟩], [], []⟩
def s (k : Nat) : FS := S.fs fun x => f k x.1.1.1
def E (k : Nat) : Ents := [(⟨120, []⟩, U64.s k)]
def L : List (LS R) := []
def c : Code := Tryz.f145.body.getD .skip
theorem eq (k : Nat) (x) : (s k).pf x = execF tab (E k) Tryz.f145 c (s k) L x := by kernel_rfl
theorem sound : ∀ k, Sound Tryz.prog 145 (s k) := snd S (fun k => (s k).pf) E (fun k => (EntsOK.cons (U64.sound k) EntsOK.nil)) (fun k => L) (fun k => trivial) eq
end U65
namespace U66
abbrev R := (((Int × Unit) × Unit) × Unit)
abbrev T0 : Type := (List Int) → Int → Int → Option R
def l0_ (k : Nat) (l0 : T0) (a0 : List Int) (a1 : Int) (a2 : Int) : Option R := bif decide (a2 < a1) then (bif (decide (0 ≤ a2)) && (decide (a2 < ((List.length a0 : Nat) : Int))) then (Option.bind (U65.f k (List.getD a0 (Int.toNat a2) 0)) fun r1 => bif r1.1.1.1 then (some (((a2, ()), ()), ())) else (l0 a0 a1 (IntKind.wrap .i64 (a2 + 1)))) else none) else (some (((-1, ()), ()), ()))
def all : Nat → (T0) × Unit
 | 0 => (fun _ _ _ => none, ())
 | k + 1 => (l0_ k (all k).1, ())
def l0 (k : Nat) : T0 := (all k).1
def f (k : Nat) (a0 : List Int) : Option R := l0 k a0 ((List.length a0 : Nat) : Int) 0
abbrev S : ShapeParts := ⟨[⟨false, [.lst (.int .i64)]⟩, ⟨false, [.fn 145 []]⟩], [], false, [⟨false, [.int .i64]⟩], [], []⟩
def s (k : Nat) : FS := S.fs fun x => f k x.1.1.1
def E (k : Nat) : Ents := [(⟨145, []⟩, U65.s k)]
def L0 (l : T0) : LS R := ⟨[], [(0, ⟨false, [.lst (.int .i64)]⟩), (1, ⟨false, [.fn 145 []]⟩), (7, ⟨false, [.int .i64]⟩), (8, ⟨false, [.int .i64]⟩)], [], fun x => l x.1.1.1 x.1.2.2.1.1 x.1.2.2.2.1.1⟩
def L (l0 : T0) : List (LS R) := [L0 l0]
def c : Code := Tryz.f167.body.getD .skip
theorem eq (k : Nat) (x) : (s k).pf x = execF tab (E k) Tryz.f167 c (s k) (L (l0 k)) x := by kernel_rfl
theorem r0 (l0 : T0) (k : Nat) (x) : (L0 (l0_ k l0)).l x = roundOf tab (E k) (L l0) c (fin tab Tryz.f167 (s k)) 0 (L0 l0) x := by kernel_rfl
theorem sound : ∀ k, Sound Tryz.prog 167 (s k) := snd S (fun k => (s k).pf) E (fun k => (EntsOK.cons (U65.sound k) EntsOK.nil)) (fun k => L (l0 k)) (fun k => ⟨⟨(L0 (l0 (k + 1))).l, rfl, fun x => r0 (l0 k) k x⟩, trivial⟩) eq
end U66
namespace U67
abbrev R := (((Bool × Unit) × Unit) × Unit)
def f (k : Nat) (a0 : List Int) : Option R := Option.bind (U66.f k a0) fun r1 => some (((decide (0 ≤ r1.1.1.1), ()), ()), ())
abbrev S : ShapeParts := ⟨[⟨false, [.lst (.int .i64)]⟩, ⟨false, [.fn 145 []]⟩], [], false, [⟨false, [.bool]⟩], [], []⟩
def s (k : Nat) : FS := S.fs fun x => f k x.1.1.1
def E (k : Nat) : Ents := [(⟨167, [145]⟩, U66.s k)]
def L : List (LS R) := []
def c : Code := Tryz.f144.body.getD .skip
theorem eq (k : Nat) (x) : (s k).pf x = execF tab (E k) Tryz.f144 c (s k) L x := by kernel_rfl
theorem sound : ∀ k, Sound Tryz.prog 144 (s k) := snd S (fun k => (s k).pf) E (fun k => (EntsOK.cons (U66.sound k) EntsOK.nil)) (fun k => L) (fun k => trivial) eq
end U67
namespace U68
abbrev R := (((Int × Unit) × Unit) × Unit)
abbrev T0 : Type := Int → (List tBlockD) → Int → Int → Option R
def l0_ (k : Nat) (l0 : T0) (a0 : Int) (a1 : List tBlockD) (a2 : Int) (a3 : Int) : Option R := bif decide (a3 < a2) then (bif (decide (0 ≤ a3)) && (decide (a3 < ((List.length a1 : Nat) : Int))) then (l0 (IntKind.wrap .i64 (a0 + (IntKind.wrap .i64 (((List.length ((List.getD a1 (Int.toNat a3) tBlockZ).1) : Nat) : Int) + ((List.length ((List.getD a1 (Int.toNat a3) tBlockZ).2.1) : Nat) : Int))))) a1 a2 (IntKind.wrap .i64 (a3 + 1))) else none) else (some (((a0, ()), ()), ()))
def all : Nat → (T0) × Unit
 | 0 => (fun _ _ _ _ => none, ())
 | k + 1 => (l0_ k (all k).1, ())
def l0 (k : Nat) : T0 := (all k).1
def f (k : Nat) (a0 : tFuncD) : Option R := l0 k ((List.length a0.1 : Nat) : Int) a0.2.2.1 ((List.length a0.2.2.1 : Nat) : Int) 0
abbrev S : ShapeParts := ⟨[⟨true, [.lst (.int .i64), .int .i64, .lst tBlock]⟩], [], false, [⟨false, [.int .i64]⟩], [], []⟩
def s (k : Nat) : FS := S.fs fun x => f k x.1.1
def E (k : Nat) : Ents := []
def L0 (l : T0) : LS R := ⟨[], [(3, ⟨false, [.int .i64]⟩), (10, ⟨false, [.lst tBlock]⟩), (11, ⟨false, [.int .i64]⟩), (12, ⟨false, [.int .i64]⟩)], [], fun x => l x.1.1.1 x.1.2.1.1 x.1.2.2.1.1 x.1.2.2.2.1.1⟩
def L (l0 : T0) : List (LS R) := [L0 l0]
def c : Code := Tryz.f74.body.getD .skip
theorem eq (k : Nat) (x) : (s k).pf x = execF tab (E k) Tryz.f74 c (s k) (L (l0 k)) x := by kernel_rfl
theorem r0 (l0 : T0) (k : Nat) (x) : (L0 (l0_ k l0)).l x = roundOf tab (E k) (L l0) c (fin tab Tryz.f74 (s k)) 0 (L0 l0) x := by kernel_rfl
theorem sound : ∀ k, Sound Tryz.prog 74 (s k) := snd S (fun k => (s k).pf) E (fun k => EntsOK.nil) (fun k => L (l0 k)) (fun k => ⟨⟨(L0 (l0 (k + 1))).l, rfl, fun x => r0 (l0 k) k x⟩, trivial⟩) eq
end U68
namespace U69
abbrev R := (((Bool × Unit) × Unit) × Unit)
def f (k : Nat) (a0 : Int) (a1 : Int) : Option R := Option.bind (U63.f k a0 0 (IntKind.wrap .i64 (a1 - 1))) fun r1 => some (((!r1.1.1.1, ()), ()), ())
abbrev S : ShapeParts := ⟨[⟨false, [.int .i64]⟩, ⟨false, [.ptr 0 0]⟩], [(0, .cbox [.int .i64])], false, [⟨false, [.bool]⟩], [], []⟩
def s (k : Nat) : FS := S.fs fun x => f k x.1.1.1 x.2.1.1
def E (k : Nat) : Ents := [(⟨119, []⟩, U63.s k)]
def L : List (LS R) := []
def c : Code := Tryz.f148.body.getD .skip
theorem eq (k : Nat) (x) : (s k).pf x = execF tab (E k) Tryz.f148 c (s k) L x := by kernel_rfl
theorem sound : ∀ k, Sound Tryz.prog 148 (s k) := snd S (fun k => (s k).pf) E (fun k => (EntsOK.cons (U63.sound k) EntsOK.nil)) (fun k => L) (fun k => trivial) eq
end U69
namespace U70
abbrev R := (((Int × Unit) × Unit) × Unit)
abbrev T0 : Type := (List Int) → Int → Int → Int → Option R
def l0_ (k : Nat) (l0 : T0) (a0 : List Int) (a1 : Int) (a2 : Int) (a3 : Int) : Option R := bif decide (a2 < a1) then (bif (decide (0 ≤ a2)) && (decide (a2 < ((List.length a0 : Nat) : Int))) then (Option.bind (U69.f k (List.getD a0 (Int.toNat a2) 0) a3) fun r1 => bif r1.1.1.1 then (some (((a2, ()), ()), ())) else (l0 a0 a1 (IntKind.wrap .i64 (a2 + 1)) a3)) else none) else (some (((-1, ()), ()), ()))
def all : Nat → (T0) × Unit
 | 0 => (fun _ _ _ _ => none, ())
 | k + 1 => (l0_ k (all k).1, ())
def l0 (k : Nat) : T0 := (all k).1
def f (k : Nat) (a0 : List Int) (a1 : Int) : Option R := l0 k a0 ((List.length a0 : Nat) : Int) 0 a1
abbrev S : ShapeParts := ⟨[⟨false, [.lst (.int .i64)]⟩, ⟨false, [.fn 148 [(0, 0)]]⟩], [(0, .cbox [.int .i64])], false, [⟨false, [.int .i64]⟩], [], []⟩
def s (k : Nat) : FS := S.fs fun x => f k x.1.1.1 x.2.1.1
def E (k : Nat) : Ents := [(⟨148, []⟩, U69.s k)]
def L0 (l : T0) : LS R := ⟨[], [(0, ⟨false, [.lst (.int .i64)]⟩), (1, ⟨false, [.fn 148 [(0, 0)]]⟩), (7, ⟨false, [.int .i64]⟩), (8, ⟨false, [.int .i64]⟩)], [(0, .cbox [.int .i64])], fun x => l x.1.1.1 x.1.2.2.1.1 x.1.2.2.2.1.1 x.2.1.1⟩
def L (l0 : T0) : List (LS R) := [L0 l0]
def c : Code := Tryz.f167.body.getD .skip
theorem eq (k : Nat) (x) : (s k).pf x = execF tab (E k) Tryz.f167 c (s k) (L (l0 k)) x := by kernel_rfl
theorem r0 (l0 : T0) (k : Nat) (x) : (L0 (l0_ k l0)).l x = roundOf tab (E k) (L l0) c (fin tab Tryz.f167 (s k)) 0 (L0 l0) x := by kernel_rfl
theorem sound : ∀ k, Sound Tryz.prog 167 (s k) := snd S (fun k => (s k).pf) E (fun k => (EntsOK.cons (U69.sound k) EntsOK.nil)) (fun k => L (l0 k)) (fun k => ⟨⟨(L0 (l0 (k + 1))).l, rfl, fun x => r0 (l0 k) k x⟩, trivial⟩) eq
end U70
namespace U71
abbrev R := (((Bool × Unit) × Unit) × Unit)
def f (k : Nat) (a0 : List Int) (a1 : Int) : Option R := Option.bind (U70.f k a0 a1) fun r1 => some (((decide (0 ≤ r1.1.1.1), ()), ()), ())
abbrev S : ShapeParts := ⟨[⟨false, [.lst (.int .i64)]⟩, ⟨false, [.fn 148 [(0, 0)]]⟩], [(0, .cbox [.int .i64])], false, [⟨false, [.bool]⟩], [], []⟩
def s (k : Nat) : FS := S.fs fun x => f k x.1.1.1 x.2.1.1
def E (k : Nat) : Ents := [(⟨167, [148]⟩, U70.s k)]
def L : List (LS R) := []
def c : Code := Tryz.f144.body.getD .skip
theorem eq (k : Nat) (x) : (s k).pf x = execF tab (E k) Tryz.f144 c (s k) L x := by kernel_rfl
theorem sound : ∀ k, Sound Tryz.prog 144 (s k) := snd S (fun k => (s k).pf) E (fun k => (EntsOK.cons (U70.sound k) EntsOK.nil)) (fun k => L) (fun k => trivial) eq
end U71
namespace U72
abbrev R := (((Bool × Unit) × Unit) × Unit)
def f (k : Nat) (a0 : tPhiD) (a1 : Int) : Option R := Option.bind (U64.f k a0.1) fun r1 => bif !r1.1.1.1 then (some (((true, ()), ()), ())) else (bif decide (10 < ((List.length a0.2.1 : Nat) : Int)) then (some (((true, ()), ()), ())) else (Option.bind (U71.f k a0.2.1 a1) fun r2 => some (((r2.1.1.1, ()), ()), ())))
abbrev S : ShapeParts := ⟨[⟨true, [.int .i64, .lst (.int .i64)]⟩, ⟨false, [.ptr 0 0]⟩], [(0, .cbox [.int .i64])], false, [⟨false, [.bool]⟩], [], []⟩
def s (k : Nat) : FS := S.fs fun x => f k x.1.1 x.2.1.1
def E (k : Nat) : Ents := [(⟨120, []⟩, U64.s k), (⟨144, [148]⟩, U71.s k)]
def L : List (LS R) := []
def c : Code := Tryz.f147.body.getD .skip
theorem eq (k : Nat) (x) : (s k).pf x = execF tab (E k) Tryz.f147 c (s k) L x := by kernel_rfl
theorem sound : ∀ k, Sound Tryz.prog 147 (s k) := snd S (fun k => (s k).pf) E (fun k => (EntsOK.cons (U64.sound k) (EntsOK.cons (U71.sound k) EntsOK.nil))) (fun k => L) (fun k => trivial) eq
end U72
namespace U73
abbrev R := (((Int × Unit) × Unit) × Unit)
abbrev T0 : Type := (List tPhiD) → Int → Int → Int → Option R
def l0_ (k : Nat) (l0 : T0) (a0 : List tPhiD) (a1 : Int) (a2 : Int) (a3 : Int) : Option R := bif decide (a2 < a1) then (bif (decide (0 ≤ a2)) && (decide (a2 < ((List.length a0 : Nat) : Int))) then (Option.bind (U72.f k (List.getD a0 (Int.toNat a2) tPhiZ) a3) fun r1 => bif r1.1.1.1 then (some (((a2, ()), ()), ())) else (l0 a0 a1 (IntKind.wrap .i64 (a2 + 1)) a3)) else none) else (some (((-1, ()), ()), ()))
def all : Nat → (T0) × Unit
 | 0 => (fun _ _ _ _ => none, ())
 | k + 1 => (l0_ k (all k).1, ())
def l0 (k : Nat) : T0 := (all k).1
def f (k : Nat) (a0 : List tPhiD) (a1 : Int) : Option R := l0 k a0 ((List.length a0 : Nat) : Int) 0 a1
abbrev S : ShapeParts := ⟨[⟨false, [.lst tPhi]⟩, ⟨false, [.fn 147 [(0, 0)]]⟩], [(0, .cbox [.int .i64])], false, [⟨false, [.int .i64]⟩], [], []⟩
def s (k : Nat) : FS := S.fs fun x => f k x.1.1.1 x.2.1.1
def E (k : Nat) : Ents := [(⟨147, []⟩, U72.s k)]
def L0 (l : T0) : LS R := ⟨[], [(0, ⟨false, [.lst tPhi]⟩), (1, ⟨false, [.fn 147 [(0, 0)]]⟩), (7, ⟨false, [.int .i64]⟩), (8, ⟨false, [.int .i64]⟩)], [(0, .cbox [.int .i64])], fun x => l x.1.1.1 x.1.2.2.1.1 x.1.2.2.2.1.1 x.2.1.1⟩
def L (l0 : T0) : List (LS R) := [L0 l0]
def c : Code := Tryz.f168.body.getD .skip
theorem eq (k : Nat) (x) : (s k).pf x = execF tab (E k) Tryz.f168 c (s k) (L (l0 k)) x := by kernel_rfl
theorem r0 (l0 : T0) (k : Nat) (x) : (L0 (l0_ k l0)).l x = roundOf tab (E k) (L l0) c (fin tab Tryz.f168 (s k)) 0 (L0 l0) x := by kernel_rfl
theorem sound : ∀ k, Sound Tryz.prog 168 (s k) := snd S (fun k => (s k).pf) E (fun k => (EntsOK.cons (U72.sound k) EntsOK.nil)) (fun k => L (l0 k)) (fun k => ⟨⟨(L0 (l0 (k + 1))).l, rfl, fun x => r0 (l0 k) k x⟩, trivial⟩) eq
end U73
namespace U74
abbrev R := (((Bool × Unit) × Unit) × Unit)
def f (k : Nat) (a0 : List tPhiD) (a1 : Int) : Option R := Option.bind (U73.f k a0 a1) fun r1 => some (((decide (0 ≤ r1.1.1.1), ()), ()), ())
abbrev S : ShapeParts := ⟨[⟨false, [.lst tPhi]⟩, ⟨false, [.fn 147 [(0, 0)]]⟩], [(0, .cbox [.int .i64])], false, [⟨false, [.bool]⟩], [], []⟩
def s (k : Nat) : FS := S.fs fun x => f k x.1.1.1 x.2.1.1
def E (k : Nat) : Ents := [(⟨168, [147]⟩, U73.s k)]
def L : List (LS R) := []
def c : Code := Tryz.f146.body.getD .skip
theorem eq (k : Nat) (x) : (s k).pf x = execF tab (E k) Tryz.f146 c (s k) L x := by kernel_rfl
theorem sound : ∀ k, Sound Tryz.prog 146 (s k) := snd S (fun k => (s k).pf) E (fun k => (EntsOK.cons (U73.sound k) EntsOK.nil)) (fun k => L) (fun k => trivial) eq
end U74
namespace U75
abbrev R := (((Bool × Unit) × Unit) × Unit)
def f (k : Nat) (a0 : Int) : Option R := Option.bind (U63.f k a0 1 17) fun r1 => some (((r1.1.1.1, ()), ()), ())
abbrev S : ShapeParts := ⟨[⟨false, [.int .i64]⟩], [], false, [⟨false, [.bool]⟩], [], []⟩
def s (k : Nat) : FS := S.fs fun x => f k x.1.1.1
def E (k : Nat) : Ents := [(⟨119, []⟩, U63.s k)]
def L : List (LS R) := []
def c : Code := Tryz.f103.body.getD .skip
theorem eq (k : Nat) (x) : (s k).pf x = execF tab (E k) Tryz.f103 c (s k) L x := by kernel_rfl
theorem sound : ∀ k, Sound Tryz.prog 103 (s k) := snd S (fun k => (s k).pf) E (fun k => (EntsOK.cons (U63.sound k) EntsOK.nil)) (fun k => L) (fun k => trivial) eq
end U75
namespace U76
abbrev R := (((Bool × Unit) × Unit) × Unit)
def f (k : Nat) (a0 : Int) : Option R := Option.bind (U63.f k a0 18 20) fun r1 => some (((r1.1.1.1, ()), ()), ())
abbrev S : ShapeParts := ⟨[⟨false, [.int .i64]⟩], [], false, [⟨false, [.bool]⟩], [], []⟩
def s (k : Nat) : FS := S.fs fun x => f k x.1.1.1
def E (k : Nat) : Ents := [(⟨119, []⟩, U63.s k)]
def L : List (LS R) := []
def c : Code := Tryz.f118.body.getD .skip
theorem eq (k : Nat) (x) : (s k).pf x = execF tab (E k) Tryz.f118 c (s k) L x := by kernel_rfl
theorem sound : ∀ k, Sound Tryz.prog 118 (s k) := snd S (fun k => (s k).pf) E (fun k => (EntsOK.cons (U63.sound k) EntsOK.nil)) (fun k => L) (fun k => trivial) eq
end U76
namespace U77
abbrev R := (((Unit × Unit) × Unit) × ((List Int) × Unit))
def f (k : Nat) (a0 : tInstD) : Option R := Option.bind (U75.f k a0.1) fun r1 => bif r1.1.1.1 then (some ((((), ()), ()), ([a0.2.2.1, a0.2.2.2.1], ()))) else (bif decide (a0.1 = 24) then (some ((((), ()), ()), ([a0.2.2.1, a0.2.2.2.1], ()))) else (Option.bind (U76.f k a0.1) fun r2 => bif r2.1.1.1 then (some ((((), ()), ()), ([a0.2.2.1], ()))) else (bif decide (a0.1 = 23) then (some ((((), ()), ()), ([a0.2.2.1], ()))) else (bif decide (a0.1 = 25) then (some ((((), ()), ()), ([a0.2.2.1], ()))) else (bif decide (a0.1 = 27) then (some ((((), ()), ()), ([a0.2.2.1], ()))) else (bif decide (a0.1 = 22) then (some ((((), ()), ()), ([a0.2.2.1, a0.2.2.2.1, a0.2.2.2.2.1], ()))) else (bif decide (a0.1 = 26) then (Option.bind (slices_Clone_int64_int64.f k a0.2.2.2.2.2.2.1) fun r3 => some ((((), ()), ()), (r3.2.1, ()))) else (some ((((), ()), ()), (([] : List Int), ()))))))))))
abbrev S : ShapeParts := ⟨[⟨true, [.int .i64, .int .i64, .int .i64, .int .i64, .int .i64, .int .i64, .lst (.int .i64)]⟩], [], false, [⟨false, [.own 100]⟩], [(100, .row true (.int .i64))], []⟩
def s (k : Nat) : FS := S.fs fun x => f k x.1.1
def E (k : Nat) : Ents := [(⟨103, []⟩, U75.s k), (⟨118, []⟩, U76.s k), (⟨68, []⟩, slices_Clone_int64_int64.s k)]
def L : List (LS R) := []
def c : Code := Tryz.f101.body.getD .skip
theorem eq (k : Nat) (x) : (s k).pf x = execF tab (E k) Tryz.f101 c (s k) L x := by kernel_rfl
theorem sound : ∀ k, Sound Tryz.prog 101 (s k) := snd S (fun k => (s k).pf) E (fun k => (EntsOK.cons (U75.sound k) (EntsOK.cons (U76.sound k) (EntsOK.cons (slices_Clone_int64_int64.sound k) EntsOK.nil)))) (fun k => L) (fun k => trivial) eq
end U77
namespace U78
abbrev R := (((Bool × Unit) × Unit) × Unit)
def f (k : Nat) (a0 : Int) (a1 : Int) : Option R := Option.bind (U63.f k a0 0 (IntKind.wrap .i64 (a1 - 1))) fun r1 => some (((!r1.1.1.1, ()), ()), ())
abbrev S : ShapeParts := ⟨[⟨false, [.int .i64]⟩, ⟨false, [.ptr 0 0]⟩], [(0, .cbox [.int .i64])], false, [⟨false, [.bool]⟩], [], []⟩
def s (k : Nat) : FS := S.fs fun x => f k x.1.1.1 x.2.1.1
def E (k : Nat) : Ents := [(⟨119, []⟩, U63.s k)]
def L : List (LS R) := []
def c : Code := Tryz.f169.body.getD .skip
theorem eq (k : Nat) (x) : (s k).pf x = execF tab (E k) Tryz.f169 c (s k) L x := by kernel_rfl
theorem sound : ∀ k, Sound Tryz.prog 169 (s k) := snd S (fun k => (s k).pf) E (fun k => (EntsOK.cons (U63.sound k) EntsOK.nil)) (fun k => L) (fun k => trivial) eq
end U78
namespace U79
abbrev R := (((Int × Unit) × Unit) × Unit)
abbrev T0 : Type := (List Int) → Int → Int → Int → Option R
def l0_ (k : Nat) (l0 : T0) (a0 : List Int) (a1 : Int) (a2 : Int) (a3 : Int) : Option R := bif decide (a2 < a1) then (bif (decide (0 ≤ a2)) && (decide (a2 < ((List.length a0 : Nat) : Int))) then (Option.bind (U78.f k (List.getD a0 (Int.toNat a2) 0) a3) fun r1 => bif r1.1.1.1 then (some (((a2, ()), ()), ())) else (l0 a0 a1 (IntKind.wrap .i64 (a2 + 1)) a3)) else none) else (some (((-1, ()), ()), ()))
def all : Nat → (T0) × Unit
 | 0 => (fun _ _ _ _ => none, ())
 | k + 1 => (l0_ k (all k).1, ())
def l0 (k : Nat) : T0 := (all k).1
def f (k : Nat) (a0 : List Int) (a1 : Int) : Option R := l0 k a0 ((List.length a0 : Nat) : Int) 0 a1
abbrev S : ShapeParts := ⟨[⟨false, [.lst (.int .i64)]⟩, ⟨false, [.fn 169 [(0, 0)]]⟩], [(0, .cbox [.int .i64])], false, [⟨false, [.int .i64]⟩], [], []⟩
def s (k : Nat) : FS := S.fs fun x => f k x.1.1.1 x.2.1.1
def E (k : Nat) : Ents := [(⟨169, []⟩, U78.s k)]
def L0 (l : T0) : LS R := ⟨[], [(0, ⟨false, [.lst (.int .i64)]⟩), (1, ⟨false, [.fn 169 [(0, 0)]]⟩), (7, ⟨false, [.int .i64]⟩), (8, ⟨false, [.int .i64]⟩)], [(0, .cbox [.int .i64])], fun x => l x.1.1.1 x.1.2.2.1.1 x.1.2.2.2.1.1 x.2.1.1⟩
def L (l0 : T0) : List (LS R) := [L0 l0]
def c : Code := Tryz.f167.body.getD .skip
theorem eq (k : Nat) (x) : (s k).pf x = execF tab (E k) Tryz.f167 c (s k) (L (l0 k)) x := by kernel_rfl
theorem r0 (l0 : T0) (k : Nat) (x) : (L0 (l0_ k l0)).l x = roundOf tab (E k) (L l0) c (fin tab Tryz.f167 (s k)) 0 (L0 l0) x := by kernel_rfl
theorem sound : ∀ k, Sound Tryz.prog 167 (s k) := snd S (fun k => (s k).pf) E (fun k => (EntsOK.cons (U78.sound k) EntsOK.nil)) (fun k => L (l0 k)) (fun k => ⟨⟨(L0 (l0 (k + 1))).l, rfl, fun x => r0 (l0 k) k x⟩, trivial⟩) eq
end U79
namespace U80
abbrev R := (((Bool × Unit) × Unit) × Unit)
def f (k : Nat) (a0 : List Int) (a1 : Int) : Option R := Option.bind (U79.f k a0 a1) fun r1 => some (((decide (0 ≤ r1.1.1.1), ()), ()), ())
abbrev S : ShapeParts := ⟨[⟨false, [.lst (.int .i64)]⟩, ⟨false, [.fn 169 [(0, 0)]]⟩], [(0, .cbox [.int .i64])], false, [⟨false, [.bool]⟩], [], []⟩
def s (k : Nat) : FS := S.fs fun x => f k x.1.1.1 x.2.1.1
def E (k : Nat) : Ents := [(⟨167, [169]⟩, U79.s k)]
def L : List (LS R) := []
def c : Code := Tryz.f144.body.getD .skip
theorem eq (k : Nat) (x) : (s k).pf x = execF tab (E k) Tryz.f144 c (s k) L x := by kernel_rfl
theorem sound : ∀ k, Sound Tryz.prog 144 (s k) := snd S (fun k => (s k).pf) E (fun k => (EntsOK.cons (U79.sound k) EntsOK.nil)) (fun k => L) (fun k => trivial) eq
end U80
namespace U81
abbrev R := (((Bool × Unit) × Unit) × Unit)
def f (k : Nat) (a0 : Int) : Option R := some (((!decide (a0 = 0), ()), ()), ())
abbrev S : ShapeParts := ⟨[⟨false, [.int .i64]⟩], [], false, [⟨false, [.bool]⟩], [], []⟩
def s (k : Nat) : FS := S.fs fun x => f k x.1.1.1
def E (k : Nat) : Ents := []
def L : List (LS R) := []
def c : Code := Tryz.f170.body.getD .skip
theorem eq (k : Nat) (x) : (s k).pf x = execF tab (E k) Tryz.f170 c (s k) L x := by kernel_rfl
theorem sound : ∀ k, Sound Tryz.prog 170 (s k) := snd S (fun k => (s k).pf) E (fun k => EntsOK.nil) (fun k => L) (fun k => trivial) eq
end U81
namespace U82
abbrev R := (((Int × Unit) × Unit) × Unit)
abbrev T0 : Type := (List Int) → Int → Int → Option R
def l0_ (k : Nat) (l0 : T0) (a0 : List Int) (a1 : Int) (a2 : Int) : Option R := bif decide (a2 < a1) then (bif (decide (0 ≤ a2)) && (decide (a2 < ((List.length a0 : Nat) : Int))) then (Option.bind (U81.f k (List.getD a0 (Int.toNat a2) 0)) fun r1 => bif r1.1.1.1 then (some (((a2, ()), ()), ())) else (l0 a0 a1 (IntKind.wrap .i64 (a2 + 1)))) else none) else (some (((-1, ()), ()), ()))
def all : Nat → (T0) × Unit
 | 0 => (fun _ _ _ => none, ())
 | k + 1 => (l0_ k (all k).1, ())
def l0 (k : Nat) : T0 := (all k).1
def f (k : Nat) (a0 : List Int) : Option R := l0 k a0 ((List.length a0 : Nat) : Int) 0
abbrev S : ShapeParts := ⟨[⟨false, [.lst (.int .i64)]⟩, ⟨false, [.fn 170 []]⟩], [], false, [⟨false, [.int .i64]⟩], [], []⟩
def s (k : Nat) : FS := S.fs fun x => f k x.1.1.1
def E (k : Nat) : Ents := [(⟨170, []⟩, U81.s k)]
def L0 (l : T0) : LS R := ⟨[], [(0, ⟨false, [.lst (.int .i64)]⟩), (1, ⟨false, [.fn 170 []]⟩), (7, ⟨false, [.int .i64]⟩), (8, ⟨false, [.int .i64]⟩)], [], fun x => l x.1.1.1 x.1.2.2.1.1 x.1.2.2.2.1.1⟩
def L (l0 : T0) : List (LS R) := [L0 l0]
def c : Code := Tryz.f167.body.getD .skip
theorem eq (k : Nat) (x) : (s k).pf x = execF tab (E k) Tryz.f167 c (s k) (L (l0 k)) x := by kernel_rfl
theorem r0 (l0 : T0) (k : Nat) (x) : (L0 (l0_ k l0)).l x = roundOf tab (E k) (L l0) c (fin tab Tryz.f167 (s k)) 0 (L0 l0) x := by kernel_rfl
theorem sound : ∀ k, Sound Tryz.prog 167 (s k) := snd S (fun k => (s k).pf) E (fun k => (EntsOK.cons (U81.sound k) EntsOK.nil)) (fun k => L (l0 k)) (fun k => ⟨⟨(L0 (l0 (k + 1))).l, rfl, fun x => r0 (l0 k) k x⟩, trivial⟩) eq
end U82
namespace U83
abbrev R := (((Bool × Unit) × Unit) × Unit)
def f (k : Nat) (a0 : List Int) : Option R := Option.bind (U82.f k a0) fun r1 => some (((decide (0 ≤ r1.1.1.1), ()), ()), ())
abbrev S : ShapeParts := ⟨[⟨false, [.lst (.int .i64)]⟩, ⟨false, [.fn 170 []]⟩], [], false, [⟨false, [.bool]⟩], [], []⟩
def s (k : Nat) : FS := S.fs fun x => f k x.1.1.1
def E (k : Nat) : Ents := [(⟨167, [170]⟩, U82.s k)]
def L : List (LS R) := []
def c : Code := Tryz.f144.body.getD .skip
theorem eq (k : Nat) (x) : (s k).pf x = execF tab (E k) Tryz.f144 c (s k) L x := by kernel_rfl
theorem sound : ∀ k, Sound Tryz.prog 144 (s k) := snd S (fun k => (s k).pf) E (fun k => (EntsOK.cons (U82.sound k) EntsOK.nil)) (fun k => L) (fun k => trivial) eq
end U83
namespace U84
abbrev R := (((Bool × Unit) × Unit) × Unit)
def f (k : Nat) (a0 : tInstD) : Option R := bif decide (a0.1 = 24) then (bif decide (a0.1 = 24) then (some (((decide (a0.2.1 = 0), ()), ()), ())) else (bif decide (a0.1 = 23) then (some (((decide (a0.2.1 = 8), ()), ()), ())) else (Option.bind (U64.f k a0.2.1) fun r1 => some (((r1.1.1.1, ()), ()), ())))) else (bif decide (a0.1 = 25) then (some (((decide (a0.2.1 = 0), ()), ()), ())) else (bif decide (a0.1 = 23) then (some (((decide (a0.2.1 = 8), ()), ()), ())) else (Option.bind (U64.f k a0.2.1) fun r2 => some (((r2.1.1.1, ()), ()), ()))))
abbrev S : ShapeParts := ⟨[⟨true, [.int .i64, .int .i64, .int .i64, .int .i64, .int .i64, .int .i64, .lst (.int .i64)]⟩], [], false, [⟨false, [.bool]⟩], [], []⟩
def s (k : Nat) : FS := S.fs fun x => f k x.1.1
def E (k : Nat) : Ents := [(⟨120, []⟩, U64.s k)]
def L : List (LS R) := []
def c : Code := Tryz.f171.body.getD .skip
theorem eq (k : Nat) (x) : (s k).pf x = execF tab (E k) Tryz.f171 c (s k) L x := by kernel_rfl
theorem sound : ∀ k, Sound Tryz.prog 171 (s k) := snd S (fun k => (s k).pf) E (fun k => (EntsOK.cons (U64.sound k) EntsOK.nil)) (fun k => L) (fun k => trivial) eq
end U84
namespace U85
abbrev R := (((Int × Unit) × Unit) × Unit)
def f (k : Nat) (a0 : Int) : Option R := bif decide (0 ≤ a0) then (some (((IntKind.wrap .i64 ((V.shl .i64 1 a0) - 1), ()), ()), ())) else none
abbrev S : ShapeParts := ⟨[⟨false, [.int .i64]⟩], [], false, [⟨false, [.int .i64]⟩], [], []⟩
def s (k : Nat) : FS := S.fs fun x => f k x.1.1.1
def E (k : Nat) : Ents := []
def L : List (LS R) := []
def c : Code := Tryz.f192.body.getD .skip
theorem eq (k : Nat) (x) : (s k).pf x = execF tab (E k) Tryz.f192 c (s k) L x := by kernel_rfl
theorem sound : ∀ k, Sound Tryz.prog 192 (s k) := snd S (fun k => (s k).pf) E (fun k => EntsOK.nil) (fun k => L) (fun k => trivial) eq
end U85
namespace U86
abbrev R := (((Bool × Unit) × Unit) × Unit)
def f (k : Nat) (a0 : Int) (a1 : Int) : Option R := Option.bind (U64.f k a0) fun r1 => bif r1.1.1.1 then (Option.bind (U85.f k a0) fun r2 => Option.bind (U63.f k a1 0 r2.1.1.1) fun r3 => some (((r3.1.1.1, ()), ()), ())) else (some (((false, ()), ()), ()))
abbrev S : ShapeParts := ⟨[⟨false, [.int .i64]⟩, ⟨false, [.int .i64]⟩], [], false, [⟨false, [.bool]⟩], [], []⟩
def s (k : Nat) : FS := S.fs fun x => f k x.1.1.1 x.1.2.1.1
def E (k : Nat) : Ents := [(⟨120, []⟩, U64.s k), (⟨192, []⟩, U85.s k), (⟨119, []⟩, U63.s k)]
def L : List (LS R) := []
def c : Code := Tryz.f184.body.getD .skip
theorem eq (k : Nat) (x) : (s k).pf x = execF tab (E k) Tryz.f184 c (s k) L x := by kernel_rfl
theorem sound : ∀ k, Sound Tryz.prog 184 (s k) := snd S (fun k => (s k).pf) E (fun k => (EntsOK.cons (U64.sound k) (EntsOK.cons (U85.sound k) (EntsOK.cons (U63.sound k) EntsOK.nil)))) (fun k => L) (fun k => trivial) eq
end U86
namespace U87
abbrev R := (((Bool × Unit) × Unit) × Unit)
def f (k : Nat) (a0 : tInstD) (a1 : Int) : Option R := bif decide (a0.1 = 21) then (Option.bind (U86.f k a0.2.1 a0.2.2.2.2.2.1) fun r1 => some (((r1.1.1.1, ()), ()), ())) else (bif decide (a0.1 = 26) then (Option.bind (U63.f k a0.2.2.2.2.2.1 0 (IntKind.wrap .i64 (a1 - 1))) fun r2 => some (((r2.1.1.1, ()), ()), ())) else (some (((decide (a0.2.2.2.2.2.1 = 0), ()), ()), ())))
abbrev S : ShapeParts := ⟨[⟨true, [.int .i64, .int .i64, .int .i64, .int .i64, .int .i64, .int .i64, .lst (.int .i64)]⟩, ⟨false, [.int .i64]⟩], [], false, [⟨false, [.bool]⟩], [], []⟩
def s (k : Nat) : FS := S.fs fun x => f k x.1.1 x.1.2.1.1
def E (k : Nat) : Ents := [(⟨184, []⟩, U86.s k), (⟨119, []⟩, U63.s k)]
def L : List (LS R) := []
def c : Code := Tryz.f172.body.getD .skip
theorem eq (k : Nat) (x) : (s k).pf x = execF tab (E k) Tryz.f172 c (s k) L x := by kernel_rfl
theorem sound : ∀ k, Sound Tryz.prog 172 (s k) := snd S (fun k => (s k).pf) E (fun k => (EntsOK.cons (U86.sound k) (EntsOK.cons (U63.sound k) EntsOK.nil))) (fun k => L) (fun k => trivial) eq
end U87
namespace U88
abbrev R := (((Bool × Unit) × Unit) × Unit)
def f (k : Nat) (a0 : tInstD) (a1 : Int) (a2 : Int) : Option R := Option.bind (U63.f k a0.1 1 27) fun r1 => bif !r1.1.1.1 then (some (((false, ()), ()), ())) else (bif decide (4 < ((List.length a0.2.2.2.2.2.2.1 : Nat) : Int)) then (some (((false, ()), ()), ())) else (bif decide (0 < ((List.length a0.2.2.2.2.2.2.1 : Nat) : Int)) then (bif !decide (a0.1 = 26) then (some (((false, ()), ()), ())) else (Option.bind (U77.f k a0) fun r2 => Option.bind (U80.f k r2.2.1 a1) fun r3 => bif r3.1.1.1 then (some (((false, ()), ()), ())) else (bif decide (a0.1 = 26) then (bif (decide (0 ≤ 0)) && (decide (0 ≤ ((List.length [a0.2.2.1, a0.2.2.2.1, a0.2.2.2.2.1] : Nat) : Int))) then (Option.bind (U83.f k [a0.2.2.1, a0.2.2.2.1, a0.2.2.2.2.1]) fun r4 => bif r4.1.1.1 then (some (((false, ()), ()), ())) else (Option.bind (U84.f k a0) fun r5 => bif r5.1.1.1 then (Option.bind (U87.f k a0 a2) fun r6 => some (((r6.1.1.1, ()), ()), ())) else (some (((false, ()), ()), ())))) else none) else (bif (decide (0 ≤ ((List.length r2.2.1 : Nat) : Int))) && (decide (((List.length r2.2.1 : Nat) : Int) ≤ ((List.length [a0.2.2.1, a0.2.2.2.1, a0.2.2.2.2.1] : Nat) : Int))) then (Option.bind (U83.f k (List.drop (Int.toNat ((List.length r2.2.1 : Nat) : Int)) [a0.2.2.1, a0.2.2.2.1, a0.2.2.2.2.1])) fun r7 => bif r7.1.1.1 then (some (((false, ()), ()), ())) else (Option.bind (U84.f k a0) fun r8 => bif r8.1.1.1 then (Option.bind (U87.f k a0 a2) fun r9 => some (((r9.1.1.1, ()), ()), ())) else (some (((false, ()), ()), ())))) else none)))) else (Option.bind (U77.f k a0) fun r10 => Option.bind (U80.f k r10.2.1 a1) fun r11 => bif r11.1.1.1 then (some (((false, ()), ()), ())) else (bif decide (a0.1 = 26) then (bif (decide (0 ≤ 0)) && (decide (0 ≤ ((List.length [a0.2.2.1, a0.2.2.2.1, a0.2.2.2.2.1] : Nat) : Int))) then (Option.bind (U83.f k [a0.2.2.1, a0.2.2.2.1, a0.2.2.2.2.1]) fun r12 => bif r12.1.1.1 then (some (((false, ()), ()), ())) else (Option.bind (U84.f k a0) fun r13 => bif r13.1.1.1 then (Option.bind (U87.f k a0 a2) fun r14 => some (((r14.1.1.1, ()), ()), ())) else (some (((false, ()), ()), ())))) else none) else (bif (decide (0 ≤ ((List.length r10.2.1 : Nat) : Int))) && (decide (((List.length r10.2.1 : Nat) : Int) ≤ ((List.length [a0.2.2.1, a0.2.2.2.1, a0.2.2.2.2.1] : Nat) : Int))) then (Option.bind (U83.f k (List.drop (Int.toNat ((List.length r10.2.1 : Nat) : Int)) [a0.2.2.1, a0.2.2.2.1, a0.2.2.2.2.1])) fun r15 => bif r15.1.1.1 then (some (((false, ()), ()), ())) else (Option.bind (U84.f k a0) fun r16 => bif r16.1.1.1 then (Option.bind (U87.f k a0 a2) fun r17 => some (((r17.1.1.1, ()), ()), ())) else (some (((false, ()), ()), ())))) else none)))))
abbrev S : ShapeParts := ⟨[⟨true, [.int .i64, .int .i64, .int .i64, .int .i64, .int .i64, .int .i64, .lst (.int .i64)]⟩, ⟨false, [.int .i64]⟩, ⟨false, [.int .i64]⟩], [], false, [⟨false, [.bool]⟩], [], []⟩
def s (k : Nat) : FS := S.fs fun x => f k x.1.1 x.1.2.1.1 x.1.2.2.1.1
def E (k : Nat) : Ents := [(⟨119, []⟩, U63.s k), (⟨101, []⟩, U77.s k), (⟨144, [169]⟩, U80.s k), (⟨144, [170]⟩, U83.s k), (⟨171, []⟩, U84.s k), (⟨172, []⟩, U87.s k)]
def L : List (LS R) := []
def c : Code := Tryz.f150.body.getD .skip
theorem eq (k : Nat) (x) : (s k).pf x = execF tab (E k) Tryz.f150 c (s k) L x := by kernel_rfl
theorem sound : ∀ k, Sound Tryz.prog 150 (s k) := snd S (fun k => (s k).pf) E (fun k => (EntsOK.cons (U63.sound k) (EntsOK.cons (U77.sound k) (EntsOK.cons (U80.sound k) (EntsOK.cons (U83.sound k) (EntsOK.cons (U84.sound k) (EntsOK.cons (U87.sound k) EntsOK.nil))))))) (fun k => L) (fun k => trivial) eq
end U88
namespace U89
abbrev R := (((Bool × Unit) × Unit) × Unit)
def f (k : Nat) (a0 : tInstD) (a1 : Int) (a2 : Int) : Option R := Option.bind (U88.f k a0 a1 a2) fun r1 => some (((!r1.1.1.1, ()), ()), ())
abbrev S : ShapeParts := ⟨[⟨true, [.int .i64, .int .i64, .int .i64, .int .i64, .int .i64, .int .i64, .lst (.int .i64)]⟩, ⟨false, [.ptr 0 0]⟩, ⟨false, [.ptr 1 0]⟩], [(0, .cbox [.int .i64]), (1, .cbox [.int .i64])], false, [⟨false, [.bool]⟩], [], []⟩
def s (k : Nat) : FS := S.fs fun x => f k x.1.1 x.2.1.1 x.2.2.1.1
def E (k : Nat) : Ents := [(⟨150, []⟩, U88.s k)]
def L : List (LS R) := []
def c : Code := Tryz.f149.body.getD .skip
theorem eq (k : Nat) (x) : (s k).pf x = execF tab (E k) Tryz.f149 c (s k) L x := by kernel_rfl
theorem sound : ∀ k, Sound Tryz.prog 149 (s k) := snd S (fun k => (s k).pf) E (fun k => (EntsOK.cons (U88.sound k) EntsOK.nil)) (fun k => L) (fun k => trivial) eq
end U89
namespace U90
abbrev R := (((Int × Unit) × Unit) × Unit)
abbrev T0 : Type := (List tInstD) → Int → Int → Int → Int → Option R
def l0_ (k : Nat) (l0 : T0) (a0 : List tInstD) (a1 : Int) (a2 : Int) (a3 : Int) (a4 : Int) : Option R := bif decide (a2 < a1) then (bif (decide (0 ≤ a2)) && (decide (a2 < ((List.length a0 : Nat) : Int))) then (Option.bind (U89.f k (List.getD a0 (Int.toNat a2) tInstZ) a3 a4) fun r1 => bif r1.1.1.1 then (some (((a2, ()), ()), ())) else (l0 a0 a1 (IntKind.wrap .i64 (a2 + 1)) a3 a4)) else none) else (some (((-1, ()), ()), ()))
def all : Nat → (T0) × Unit
 | 0 => (fun _ _ _ _ _ => none, ())
 | k + 1 => (l0_ k (all k).1, ())
def l0 (k : Nat) : T0 := (all k).1
def f (k : Nat) (a0 : List tInstD) (a1 : Int) (a2 : Int) : Option R := l0 k a0 ((List.length a0 : Nat) : Int) 0 a1 a2
abbrev S : ShapeParts := ⟨[⟨false, [.lst tInst]⟩, ⟨false, [.fn 149 [(0, 0), (1, 0)]]⟩], [(0, .cbox [.int .i64]), (1, .cbox [.int .i64])], false, [⟨false, [.int .i64]⟩], [], []⟩
def s (k : Nat) : FS := S.fs fun x => f k x.1.1.1 x.2.1.1 x.2.2.1.1
def E (k : Nat) : Ents := [(⟨149, []⟩, U89.s k)]
def L0 (l : T0) : LS R := ⟨[], [(0, ⟨false, [.lst tInst]⟩), (1, ⟨false, [.fn 149 [(0, 0), (1, 0)]]⟩), (7, ⟨false, [.int .i64]⟩), (8, ⟨false, [.int .i64]⟩)], [(0, .cbox [.int .i64]), (1, .cbox [.int .i64])], fun x => l x.1.1.1 x.1.2.2.1.1 x.1.2.2.2.1.1 x.2.1.1 x.2.2.1.1⟩
def L (l0 : T0) : List (LS R) := [L0 l0]
def c : Code := Tryz.f158.body.getD .skip
theorem eq (k : Nat) (x) : (s k).pf x = execF tab (E k) Tryz.f158 c (s k) (L (l0 k)) x := by kernel_rfl
theorem r0 (l0 : T0) (k : Nat) (x) : (L0 (l0_ k l0)).l x = roundOf tab (E k) (L l0) c (fin tab Tryz.f158 (s k)) 0 (L0 l0) x := by kernel_rfl
theorem sound : ∀ k, Sound Tryz.prog 158 (s k) := snd S (fun k => (s k).pf) E (fun k => (EntsOK.cons (U89.sound k) EntsOK.nil)) (fun k => L (l0 k)) (fun k => ⟨⟨(L0 (l0 (k + 1))).l, rfl, fun x => r0 (l0 k) k x⟩, trivial⟩) eq
end U90
namespace U91
abbrev R := (((Bool × Unit) × Unit) × Unit)
def f (k : Nat) (a0 : List tInstD) (a1 : Int) (a2 : Int) : Option R := Option.bind (U90.f k a0 a1 a2) fun r1 => some (((decide (0 ≤ r1.1.1.1), ()), ()), ())
abbrev S : ShapeParts := ⟨[⟨false, [.lst tInst]⟩, ⟨false, [.fn 149 [(0, 0), (1, 0)]]⟩], [(0, .cbox [.int .i64]), (1, .cbox [.int .i64])], false, [⟨false, [.bool]⟩], [], []⟩
def s (k : Nat) : FS := S.fs fun x => f k x.1.1.1 x.2.1.1 x.2.2.1.1
def E (k : Nat) : Ents := [(⟨158, [149]⟩, U90.s k)]
def L : List (LS R) := []
def c : Code := Tryz.f135.body.getD .skip
theorem eq (k : Nat) (x) : (s k).pf x = execF tab (E k) Tryz.f135 c (s k) L x := by kernel_rfl
theorem sound : ∀ k, Sound Tryz.prog 135 (s k) := snd S (fun k => (s k).pf) E (fun k => (EntsOK.cons (U90.sound k) EntsOK.nil)) (fun k => L) (fun k => trivial) eq
end U91
namespace U92
abbrev R := (((Bool × Unit) × Unit) × Unit)
def f (k : Nat) (a0 : Int) (a1 : tFuncD) : Option R := Option.bind (U63.f k a0 0 (IntKind.wrap .i64 (((List.length a1.2.2.1 : Nat) : Int) - 1))) fun r1 => some (((r1.1.1.1, ()), ()), ())
abbrev S : ShapeParts := ⟨[⟨false, [.int .i64]⟩, ⟨false, [.ptr 0 0]⟩], [(0, .cbox [.lst (.int .i64), .int .i64, .lst tBlock])], false, [⟨false, [.bool]⟩], [], []⟩
def s (k : Nat) : FS := S.fs fun x => f k x.1.1.1 x.2.1
def E (k : Nat) : Ents := [(⟨119, []⟩, U63.s k)]
def L : List (LS R) := []
def c : Code := Tryz.f173.body.getD .skip
theorem eq (k : Nat) (x) : (s k).pf x = execF tab (E k) Tryz.f173 c (s k) L x := by kernel_rfl
theorem sound : ∀ k, Sound Tryz.prog 173 (s k) := snd S (fun k => (s k).pf) E (fun k => (EntsOK.cons (U63.sound k) EntsOK.nil)) (fun k => L) (fun k => trivial) eq
end U92
namespace U93
abbrev R := (((Bool × Unit) × Unit) × Unit)
def f (k : Nat) (a0 : tFuncD) (a1 : tTermD) (a2 : Int) : Option R := bif decide (a1.1 = 1) then (Option.bind (U63.f k a1.2.1 0 (IntKind.wrap .i64 (a2 - 1))) fun r1 => bif r1.1.1.1 then (bif decide (a1.2.2.1 = 0) then (some (((decide (a1.2.2.2.1 = 0), ()), ()), ())) else (some (((false, ()), ()), ()))) else (some (((false, ()), ()), ()))) else (bif decide (a1.1 = 2) then (bif decide (a1.2.1 = 0) then (Option.bind (U92.f k a1.2.2.1 a0) fun r2 => bif r2.1.1.1 then (some (((decide (a1.2.2.2.1 = 0), ()), ()), ())) else (some (((false, ()), ()), ()))) else (some (((false, ()), ()), ()))) else (bif decide (a1.1 = 3) then (Option.bind (U63.f k a1.2.1 0 (IntKind.wrap .i64 (a2 - 1))) fun r3 => bif r3.1.1.1 then (Option.bind (U92.f k a1.2.2.1 a0) fun r4 => bif r4.1.1.1 then (Option.bind (U92.f k a1.2.2.2.1 a0) fun r5 => bif r5.1.1.1 then (some (((!decide (a1.2.2.1 = a1.2.2.2.1), ()), ()), ())) else (some (((false, ()), ()), ()))) else (some (((false, ()), ()), ()))) else (some (((false, ()), ()), ()))) else (bif decide (a1.1 = 4) then (bif decide (a1.2.1 = 0) then (bif decide (a1.2.2.1 = 0) then (some (((decide (a1.2.2.2.1 = 0), ()), ()), ())) else (some (((false, ()), ()), ()))) else (some (((false, ()), ()), ()))) else (some (((false, ()), ()), ())))))
abbrev S : ShapeParts := ⟨[⟨true, [.lst (.int .i64), .int .i64, .lst tBlock]⟩, ⟨true, [.int .i64, .int .i64, .int .i64, .int .i64]⟩, ⟨false, [.int .i64]⟩], [], false, [⟨false, [.bool]⟩], [], []⟩
def s (k : Nat) : FS := S.fs fun x => f k x.1.1 x.1.2.1 x.1.2.2.1.1
def E (k : Nat) : Ents := [(⟨119, []⟩, U63.s k), (⟨173, []⟩, U92.s k)]
def L : List (LS R) := []
def c : Code := Tryz.f151.body.getD .skip
theorem eq (k : Nat) (x) : (s k).pf x = execF tab (E k) Tryz.f151 c (s k) L x := by kernel_rfl
theorem sound : ∀ k, Sound Tryz.prog 151 (s k) := snd S (fun k => (s k).pf) E (fun k => (EntsOK.cons (U63.sound k) (EntsOK.cons (U92.sound k) EntsOK.nil))) (fun k => L) (fun k => trivial) eq
end U93
namespace U94
abbrev R := (((Bool × Unit) × Unit) × Unit)
abbrev T0 : Type := (List tBlockD) → Int → Int → tFuncD → Int → Int → Option R
def l0_ (k : Nat) (l0 : T0) (a0 : List tBlockD) (a1 : Int) (a2 : Int) (a3 : tFuncD) (a4 : Int) (a5 : Int) : Option R := bif decide (a2 < a1) then (bif (decide (0 ≤ a2)) && (decide (a2 < ((List.length a0 : Nat) : Int))) then (Option.bind (U74.f k ((List.getD a0 (Int.toNat a2) tBlockZ).1) a5) fun r1 => bif r1.1.1.1 then (some (((false, ()), ()), ())) else (Option.bind (U91.f k ((List.getD a0 (Int.toNat a2) tBlockZ).2.1) a5 a4) fun r2 => bif r2.1.1.1 then (some (((false, ()), ()), ())) else (Option.bind (U93.f k a3 ((List.getD a0 (Int.toNat a2) tBlockZ).2.2) a5) fun r3 => bif !r3.1.1.1 then (some (((false, ()), ()), ())) else (l0 a0 a1 (IntKind.wrap .i64 (a2 + 1)) a3 a4 a5)))) else none) else (some (((true, ()), ()), ()))
def all : Nat → (T0) × Unit
 | 0 => (fun _ _ _ _ _ _ => none, ())
 | k + 1 => (l0_ k (all k).1, ())
def l0 (k : Nat) : T0 := (all k).1
def f (k : Nat) (a0 : tFuncD) (a1 : Int) : Option R := bif decide (4 < ((List.length a0.1 : Nat) : Int)) then (some (((false, ()), ()), ())) else (Option.bind (U64.f k a0.2.1) fun r1 => bif !r1.1.1.1 then (some (((false, ()), ()), ())) else (Option.bind (U63.f k ((List.length a0.2.2.1 : Nat) : Int) 1 10) fun r2 => bif !r2.1.1.1 then (some (((false, ()), ()), ())) else (Option.bind (U67.f k a0.1) fun r3 => bif r3.1.1.1 then (some (((false, ()), ()), ())) else (Option.bind (U68.f k a0) fun r4 => bif decide (60 < r4.1.1.1) then (some (((false, ()), ()), ())) else (l0 k a0.2.2.1 ((List.length a0.2.2.1 : Nat) : Int) 0 a0 a1 r4.1.1.1)))))
abbrev S : ShapeParts := ⟨[⟨true, [.lst (.int .i64), .int .i64, .lst tBlock]⟩, ⟨false, [.int .i64]⟩], [], false, [⟨false, [.bool]⟩], [], []⟩
def s (k : Nat) : FS := S.fs fun x => f k x.1.1 x.1.2.1.1
def E (k : Nat) : Ents := [(⟨120, []⟩, U64.s k), (⟨119, []⟩, U63.s k), (⟨144, [145]⟩, U67.s k), (⟨74, []⟩, U68.s k), (⟨146, [147]⟩, U74.s k), (⟨135, [149]⟩, U91.s k), (⟨151, []⟩, U93.s k)]
def L0 (l : T0) : LS R := ⟨[], [(2, ⟨false, [.ptr 100000 0]⟩), (3, ⟨false, [.ptr 100001 0]⟩), (5, ⟨false, [.ptr 100002 0]⟩), (35, ⟨false, [.lst tBlock]⟩), (36, ⟨false, [.int .i64]⟩), (37, ⟨false, [.int .i64]⟩)], [(100000, .box [.lst (.int .i64), .int .i64, .lst tBlock]), (100001, .box [.int .i64]), (100002, .box [.int .i64])], fun x => l x.1.2.2.2.1.1 x.1.2.2.2.2.1.1 x.1.2.2.2.2.2.1.1 x.2.1 x.2.2.1.1 x.2.2.2.1.1⟩
def L (l0 : T0) : List (LS R) := [L0 l0]
def c : Code := Tryz.f131.body.getD .skip
theorem eq (k : Nat) (x) : (s k).pf x = execF tab (E k) Tryz.f131 c (s k) (L (l0 k)) x := by kernel_rfl
theorem r0 (l0 : T0) (k : Nat) (x) : (L0 (l0_ k l0)).l x = roundOf tab (E k) (L l0) c (fin tab Tryz.f131 (s k)) 0 (L0 l0) x := by kernel_rfl
theorem sound : ∀ k, Sound Tryz.prog 131 (s k) := snd S (fun k => (s k).pf) E (fun k => (EntsOK.cons (U64.sound k) (EntsOK.cons (U63.sound k) (EntsOK.cons (U67.sound k) (EntsOK.cons (U68.sound k) (EntsOK.cons (U74.sound k) (EntsOK.cons (U91.sound k) (EntsOK.cons (U93.sound k) EntsOK.nil)))))))) (fun k => L (l0 k)) (fun k => ⟨⟨(L0 (l0 (k + 1))).l, rfl, fun x => r0 (l0 k) k x⟩, trivial⟩) eq
end U94
namespace U95
abbrev R := (((Bool × Unit) × Unit) × Unit)
def f (k : Nat) (a0 : tFuncD) (a1 : Int) : Option R := Option.bind (U94.f k a0 a1) fun r1 => some (((!r1.1.1.1, ()), ()), ())
abbrev S : ShapeParts := ⟨[⟨true, [.lst (.int .i64), .int .i64, .lst tBlock]⟩, ⟨false, [.ptr 0 0]⟩], [(0, .cbox [.int .i64])], false, [⟨false, [.bool]⟩], [], []⟩
def s (k : Nat) : FS := S.fs fun x => f k x.1.1 x.2.1.1
def E (k : Nat) : Ents := [(⟨131, []⟩, U94.s k)]
def L : List (LS R) := []
def c : Code := Tryz.f130.body.getD .skip
theorem eq (k : Nat) (x) : (s k).pf x = execF tab (E k) Tryz.f130 c (s k) L x := by kernel_rfl
theorem sound : ∀ k, Sound Tryz.prog 130 (s k) := snd S (fun k => (s k).pf) E (fun k => (EntsOK.cons (U94.sound k) EntsOK.nil)) (fun k => L) (fun k => trivial) eq
end U95
namespace U96
abbrev R := (((Int × Unit) × Unit) × Unit)
abbrev T0 : Type := (List tFuncD) → Int → Int → Int → Option R
def l0_ (k : Nat) (l0 : T0) (a0 : List tFuncD) (a1 : Int) (a2 : Int) (a3 : Int) : Option R := bif decide (a2 < a1) then (bif (decide (0 ≤ a2)) && (decide (a2 < ((List.length a0 : Nat) : Int))) then (Option.bind (U95.f k (List.getD a0 (Int.toNat a2) tFuncZ) a3) fun r1 => bif r1.1.1.1 then (some (((a2, ()), ()), ())) else (l0 a0 a1 (IntKind.wrap .i64 (a2 + 1)) a3)) else none) else (some (((-1, ()), ()), ()))
def all : Nat → (T0) × Unit
 | 0 => (fun _ _ _ _ => none, ())
 | k + 1 => (l0_ k (all k).1, ())
def l0 (k : Nat) : T0 := (all k).1
def f (k : Nat) (a0 : List tFuncD) (a1 : Int) : Option R := l0 k a0 ((List.length a0 : Nat) : Int) 0 a1
abbrev S : ShapeParts := ⟨[⟨false, [.lst tFunc]⟩, ⟨false, [.fn 130 [(0, 0)]]⟩], [(0, .cbox [.int .i64])], false, [⟨false, [.int .i64]⟩], [], []⟩
def s (k : Nat) : FS := S.fs fun x => f k x.1.1.1 x.2.1.1
def E (k : Nat) : Ents := [(⟨130, []⟩, U95.s k)]
def L0 (l : T0) : LS R := ⟨[], [(0, ⟨false, [.lst tFunc]⟩), (1, ⟨false, [.fn 130 [(0, 0)]]⟩), (7, ⟨false, [.int .i64]⟩), (8, ⟨false, [.int .i64]⟩)], [(0, .cbox [.int .i64])], fun x => l x.1.1.1 x.1.2.2.1.1 x.1.2.2.2.1.1 x.2.1.1⟩
def L (l0 : T0) : List (LS R) := [L0 l0]
def c : Code := Tryz.f143.body.getD .skip
theorem eq (k : Nat) (x) : (s k).pf x = execF tab (E k) Tryz.f143 c (s k) (L (l0 k)) x := by kernel_rfl
theorem r0 (l0 : T0) (k : Nat) (x) : (L0 (l0_ k l0)).l x = roundOf tab (E k) (L l0) c (fin tab Tryz.f143 (s k)) 0 (L0 l0) x := by kernel_rfl
theorem sound : ∀ k, Sound Tryz.prog 143 (s k) := snd S (fun k => (s k).pf) E (fun k => (EntsOK.cons (U95.sound k) EntsOK.nil)) (fun k => L (l0 k)) (fun k => ⟨⟨(L0 (l0 (k + 1))).l, rfl, fun x => r0 (l0 k) k x⟩, trivial⟩) eq
end U96
namespace U97
abbrev R := (((Bool × Unit) × Unit) × Unit)
def f (k : Nat) (a0 : List tFuncD) (a1 : Int) : Option R := Option.bind (U96.f k a0 a1) fun r1 => some (((decide (0 ≤ r1.1.1.1), ()), ()), ())
abbrev S : ShapeParts := ⟨[⟨false, [.lst tFunc]⟩, ⟨false, [.fn 130 [(0, 0)]]⟩], [(0, .cbox [.int .i64])], false, [⟨false, [.bool]⟩], [], []⟩
def s (k : Nat) : FS := S.fs fun x => f k x.1.1.1 x.2.1.1
def E (k : Nat) : Ents := [(⟨143, [130]⟩, U96.s k)]
def L : List (LS R) := []
def c : Code := Tryz.f129.body.getD .skip
theorem eq (k : Nat) (x) : (s k).pf x = execF tab (E k) Tryz.f129 c (s k) L x := by kernel_rfl
theorem sound : ∀ k, Sound Tryz.prog 129 (s k) := snd S (fun k => (s k).pf) E (fun k => (EntsOK.cons (U96.sound k) EntsOK.nil)) (fun k => L) (fun k => trivial) eq
end U97
namespace U98
abbrev R := (((Bool × Unit) × Unit) × Unit)
def f (k : Nat) (a0 : tModuleD) : Option R := Option.bind (U63.f k ((List.length a0.1 : Nat) : Int) 1 3) fun r1 => bif r1.1.1.1 then (Option.bind (U97.f k a0.1 ((List.length a0.1 : Nat) : Int)) fun r2 => some (((!r2.1.1.1, ()), ()), ())) else (some (((false, ()), ()), ()))
abbrev S : ShapeParts := ⟨[⟨true, [.lst tFunc]⟩], [], false, [⟨false, [.bool]⟩], [], []⟩
def s (k : Nat) : FS := S.fs fun x => f k x.1.1
def E (k : Nat) : Ents := [(⟨119, []⟩, U63.s k), (⟨129, [130]⟩, U97.s k)]
def L : List (LS R) := []
def c : Code := Tryz.f112.body.getD .skip
theorem eq (k : Nat) (x) : (s k).pf x = execF tab (E k) Tryz.f112 c (s k) L x := by kernel_rfl
theorem sound : ∀ k, Sound Tryz.prog 112 (s k) := snd S (fun k => (s k).pf) E (fun k => (EntsOK.cons (U63.sound k) (EntsOK.cons (U97.sound k) EntsOK.nil))) (fun k => L) (fun k => trivial) eq
end U98
namespace U99
abbrev R := (((Unit × Unit) × Unit) × ((List Int) × Unit))
def f (k : Nat) (a0 : tTermD) : Option R := bif decide (a0.1 = 2) then (some ((((), ()), ()), ([a0.2.2.1], ()))) else (bif decide (a0.1 = 3) then (some ((((), ()), ()), ([a0.2.2.1, a0.2.2.2.1], ()))) else (some ((((), ()), ()), (([] : List Int), ()))))
abbrev S : ShapeParts := ⟨[⟨true, [.int .i64, .int .i64, .int .i64, .int .i64]⟩], [], false, [⟨false, [.own 100]⟩], [(100, .row true (.int .i64))], []⟩
def s (k : Nat) : FS := S.fs fun x => f k x.1.1
def E (k : Nat) : Ents := []
def L : List (LS R) := []
def c : Code := Tryz.f70.body.getD .skip
theorem eq (k : Nat) (x) : (s k).pf x = execF tab (E k) Tryz.f70 c (s k) L x := by kernel_rfl
theorem sound : ∀ k, Sound Tryz.prog 70 (s k) := snd S (fun k => (s k).pf) E (fun k => EntsOK.nil) (fun k => L) (fun k => trivial) eq
end U99
namespace U100
abbrev R := (((Int × Unit) × Unit) × Unit)
abbrev T0 : Type := (List Int) → Int → Int → Int → Option R
def l0_ (k : Nat) (l0 : T0) (a0 : List Int) (a1 : Int) (a2 : Int) (a3 : Int) : Option R := bif decide (a3 < a2) then (bif (decide (0 ≤ a3)) && (decide (a3 < ((List.length a0 : Nat) : Int))) then (bif decide (a1 = List.getD a0 (Int.toNat a3) 0) then (some (((a3, ()), ()), ())) else (l0 a0 a1 a2 (IntKind.wrap .i64 (a3 + 1)))) else none) else (some (((-1, ()), ()), ()))
def all : Nat → (T0) × Unit
 | 0 => (fun _ _ _ _ => none, ())
 | k + 1 => (l0_ k (all k).1, ())
def l0 (k : Nat) : T0 := (all k).1
def f (k : Nat) (a0 : List Int) (a1 : Int) : Option R := l0 k a0 a1 ((List.length a0 : Nat) : Int) 0
abbrev S : ShapeParts := ⟨[⟨false, [.lst (.int .i64)]⟩, ⟨false, [.int .i64]⟩], [], false, [⟨false, [.int .i64]⟩], [], []⟩
def s (k : Nat) : FS := S.fs fun x => f k x.1.1.1 x.1.2.1.1
def E (k : Nat) : Ents := []
def L0 (l : T0) : LS R := ⟨[], [(0, ⟨false, [.lst (.int .i64)]⟩), (1, ⟨false, [.int .i64]⟩), (7, ⟨false, [.int .i64]⟩), (8, ⟨false, [.int .i64]⟩)], [], fun x => l x.1.1.1 x.1.2.1.1 x.1.2.2.1.1 x.1.2.2.2.1.1⟩
def L (l0 : T0) : List (LS R) := [L0 l0]
def c : Code := Tryz.f115.body.getD .skip
theorem eq (k : Nat) (x) : (s k).pf x = execF tab (E k) Tryz.f115 c (s k) (L (l0 k)) x := by kernel_rfl
theorem r0 (l0 : T0) (k : Nat) (x) : (L0 (l0_ k l0)).l x = roundOf tab (E k) (L l0) c (fin tab Tryz.f115 (s k)) 0 (L0 l0) x := by kernel_rfl
theorem sound : ∀ k, Sound Tryz.prog 115 (s k) := snd S (fun k => (s k).pf) E (fun k => EntsOK.nil) (fun k => L (l0 k)) (fun k => ⟨⟨(L0 (l0 (k + 1))).l, rfl, fun x => r0 (l0 k) k x⟩, trivial⟩) eq
end U100
namespace U101
abbrev R := (((Bool × Unit) × Unit) × Unit)
def f (k : Nat) (a0 : List Int) (a1 : Int) : Option R := Option.bind (U100.f k a0 a1) fun r1 => some (((decide (0 ≤ r1.1.1.1), ()), ()), ())
abbrev S : ShapeParts := ⟨[⟨false, [.lst (.int .i64)]⟩, ⟨false, [.int .i64]⟩], [], false, [⟨false, [.bool]⟩], [], []⟩
def s (k : Nat) : FS := S.fs fun x => f k x.1.1.1 x.1.2.1.1
def E (k : Nat) : Ents := [(⟨115, []⟩, U100.s k)]
def L : List (LS R) := []
def c : Code := Tryz.f97.body.getD .skip
theorem eq (k : Nat) (x) : (s k).pf x = execF tab (E k) Tryz.f97 c (s k) L x := by kernel_rfl
theorem sound : ∀ k, Sound Tryz.prog 97 (s k) := snd S (fun k => (s k).pf) E (fun k => (EntsOK.cons (U100.sound k) EntsOK.nil)) (fun k => L) (fun k => trivial) eq
end U101
namespace U102
abbrev R := (((Unit × Unit) × Unit) × ((List Int) × Unit))
abbrev T0 : Type := Int → (List tBlockD) → Int → Int → (List Int) → Option R
def l0_ (k : Nat) (l0 : T0) (a0 : Int) (a1 : List tBlockD) (a2 : Int) (a3 : Int) (a4 : List Int) : Option R := bif decide (a3 < a2) then (bif (decide (0 ≤ a3)) && (decide (a3 < ((List.length a1 : Nat) : Int))) then (Option.bind (U99.f k ((List.getD a1 (Int.toNat a3) tBlockZ).2.2)) fun r1 => Option.bind (U101.f k r1.2.1 a0) fun r2 => bif r2.1.1.1 then (bif decide ((List.length a4 + List.length [a3]) * 8 ≤ 140737488355328) then (l0 a0 a1 a2 (IntKind.wrap .i64 (a3 + 1)) (a4 ++ [a3])) else none) else (l0 a0 a1 a2 (IntKind.wrap .i64 (a3 + 1)) a4)) else none) else (some ((((), ()), ()), (a4, ())))
def all : Nat → (T0) × Unit
 | 0 => (fun _ _ _ _ _ => none, ())
 | k + 1 => (l0_ k (all k).1, ())
def l0 (k : Nat) : T0 := (all k).1
def f (k : Nat) (a0 : tFuncD) (a1 : Int) : Option R := l0 k a1 a0.2.2.1 ((List.length a0.2.2.1 : Nat) : Int) 0 ([] : List Int)
abbrev S : ShapeParts := ⟨[⟨true, [.lst (.int .i64), .int .i64, .lst tBlock]⟩, ⟨false, [.int .i64]⟩], [], false, [⟨false, [.own 100]⟩], [(100, .row true (.int .i64))], []⟩
def s (k : Nat) : FS := S.fs fun x => f k x.1.1 x.1.2.1.1
def E (k : Nat) : Ents := [(⟨70, []⟩, U99.s k), (⟨97, []⟩, U101.s k)]
def L0 (l : T0) : LS R := ⟨[], [(1, ⟨false, [.int .i64]⟩), (5, ⟨false, [.own 100000]⟩), (10, ⟨false, [.lst tBlock]⟩), (11, ⟨false, [.int .i64]⟩), (12, ⟨false, [.int .i64]⟩)], [(100000, .row true (.int .i64))], fun x => l x.1.1.1 x.1.2.2.1.1 x.1.2.2.2.1.1 x.1.2.2.2.2.1.1 x.2.1⟩
def L (l0 : T0) : List (LS R) := [L0 l0]
def c : Code := Tryz.f152.body.getD .skip
theorem eq (k : Nat) (x) : (s k).pf x = execF tab (E k) Tryz.f152 c (s k) (L (l0 k)) x := by kernel_rfl
theorem r0 (l0 : T0) (k : Nat) (x) : (L0 (l0_ k l0)).l x = roundOf tab (E k) (L l0) c (fin tab Tryz.f152 (s k)) 0 (L0 l0) x := by kernel_rfl
theorem sound : ∀ k, Sound Tryz.prog 152 (s k) := snd S (fun k => (s k).pf) E (fun k => (EntsOK.cons (U99.sound k) (EntsOK.cons (U101.sound k) EntsOK.nil))) (fun k => L (l0 k)) (fun k => ⟨⟨(L0 (l0 (k + 1))).l, rfl, fun x => r0 (l0 k) k x⟩, trivial⟩) eq
end U102
namespace U103
abbrev R := (((Bool × Unit) × Unit) × Unit)
def f (k : Nat) (a0 : tFuncD) : Option R := bif (decide (0 ≤ 0)) && (decide (0 < ((List.length a0.2.2.1 : Nat) : Int))) then (bif decide (((List.length ((List.getD a0.2.2.1 0 tBlockZ).1) : Nat) : Int) = 0) then (Option.bind (U102.f k a0 0) fun r1 => some (((decide (((List.length r1.2.1 : Nat) : Int) = 0), ()), ()), ())) else (some (((false, ()), ()), ()))) else none
abbrev S : ShapeParts := ⟨[⟨true, [.lst (.int .i64), .int .i64, .lst tBlock]⟩], [], false, [⟨false, [.bool]⟩], [], []⟩
def s (k : Nat) : FS := S.fs fun x => f k x.1.1
def E (k : Nat) : Ents := [(⟨152, []⟩, U102.s k)]
def L : List (LS R) := []
def c : Code := Tryz.f132.body.getD .skip
theorem eq (k : Nat) (x) : (s k).pf x = execF tab (E k) Tryz.f132 c (s k) L x := by kernel_rfl
theorem sound : ∀ k, Sound Tryz.prog 132 (s k) := snd S (fun k => (s k).pf) E (fun k => (EntsOK.cons (U102.sound k) EntsOK.nil)) (fun k => L) (fun k => trivial) eq
end U103
namespace U104
abbrev R := (((Bool × Unit) × Unit) × Unit)
def f (k : Nat) (a0 : tPhiD) (a1 : Int) : Option R := some (((!decide (((List.length a0.2.1 : Nat) : Int) = a1), ()), ()), ())
abbrev S : ShapeParts := ⟨[⟨true, [.int .i64, .lst (.int .i64)]⟩, ⟨false, [.ptr 0 0]⟩], [(0, .cbox [.int .i64])], false, [⟨false, [.bool]⟩], [], []⟩
def s (k : Nat) : FS := S.fs fun x => f k x.1.1 x.2.1.1
def E (k : Nat) : Ents := []
def L : List (LS R) := []
def c : Code := Tryz.f153.body.getD .skip
theorem eq (k : Nat) (x) : (s k).pf x = execF tab (E k) Tryz.f153 c (s k) L x := by kernel_rfl
theorem sound : ∀ k, Sound Tryz.prog 153 (s k) := snd S (fun k => (s k).pf) E (fun k => EntsOK.nil) (fun k => L) (fun k => trivial) eq
end U104
namespace U105
abbrev R := (((Int × Unit) × Unit) × Unit)
abbrev T0 : Type := (List tPhiD) → Int → Int → Int → Option R
def l0_ (k : Nat) (l0 : T0) (a0 : List tPhiD) (a1 : Int) (a2 : Int) (a3 : Int) : Option R := bif decide (a2 < a1) then (bif (decide (0 ≤ a2)) && (decide (a2 < ((List.length a0 : Nat) : Int))) then (Option.bind (U104.f k (List.getD a0 (Int.toNat a2) tPhiZ) a3) fun r1 => bif r1.1.1.1 then (some (((a2, ()), ()), ())) else (l0 a0 a1 (IntKind.wrap .i64 (a2 + 1)) a3)) else none) else (some (((-1, ()), ()), ()))
def all : Nat → (T0) × Unit
 | 0 => (fun _ _ _ _ => none, ())
 | k + 1 => (l0_ k (all k).1, ())
def l0 (k : Nat) : T0 := (all k).1
def f (k : Nat) (a0 : List tPhiD) (a1 : Int) : Option R := l0 k a0 ((List.length a0 : Nat) : Int) 0 a1
abbrev S : ShapeParts := ⟨[⟨false, [.lst tPhi]⟩, ⟨false, [.fn 153 [(0, 0)]]⟩], [(0, .cbox [.int .i64])], false, [⟨false, [.int .i64]⟩], [], []⟩
def s (k : Nat) : FS := S.fs fun x => f k x.1.1.1 x.2.1.1
def E (k : Nat) : Ents := [(⟨153, []⟩, U104.s k)]
def L0 (l : T0) : LS R := ⟨[], [(0, ⟨false, [.lst tPhi]⟩), (1, ⟨false, [.fn 153 [(0, 0)]]⟩), (7, ⟨false, [.int .i64]⟩), (8, ⟨false, [.int .i64]⟩)], [(0, .cbox [.int .i64])], fun x => l x.1.1.1 x.1.2.2.1.1 x.1.2.2.2.1.1 x.2.1.1⟩
def L (l0 : T0) : List (LS R) := [L0 l0]
def c : Code := Tryz.f168.body.getD .skip
theorem eq (k : Nat) (x) : (s k).pf x = execF tab (E k) Tryz.f168 c (s k) (L (l0 k)) x := by kernel_rfl
theorem r0 (l0 : T0) (k : Nat) (x) : (L0 (l0_ k l0)).l x = roundOf tab (E k) (L l0) c (fin tab Tryz.f168 (s k)) 0 (L0 l0) x := by kernel_rfl
theorem sound : ∀ k, Sound Tryz.prog 168 (s k) := snd S (fun k => (s k).pf) E (fun k => (EntsOK.cons (U104.sound k) EntsOK.nil)) (fun k => L (l0 k)) (fun k => ⟨⟨(L0 (l0 (k + 1))).l, rfl, fun x => r0 (l0 k) k x⟩, trivial⟩) eq
end U105
namespace U106
abbrev R := (((Bool × Unit) × Unit) × Unit)
def f (k : Nat) (a0 : List tPhiD) (a1 : Int) : Option R := Option.bind (U105.f k a0 a1) fun r1 => some (((decide (0 ≤ r1.1.1.1), ()), ()), ())
abbrev S : ShapeParts := ⟨[⟨false, [.lst tPhi]⟩, ⟨false, [.fn 153 [(0, 0)]]⟩], [(0, .cbox [.int .i64])], false, [⟨false, [.bool]⟩], [], []⟩
def s (k : Nat) : FS := S.fs fun x => f k x.1.1.1 x.2.1.1
def E (k : Nat) : Ents := [(⟨168, [153]⟩, U105.s k)]
def L : List (LS R) := []
def c : Code := Tryz.f146.body.getD .skip
theorem eq (k : Nat) (x) : (s k).pf x = execF tab (E k) Tryz.f146 c (s k) L x := by kernel_rfl
theorem sound : ∀ k, Sound Tryz.prog 146 (s k) := snd S (fun k => (s k).pf) E (fun k => (EntsOK.cons (U105.sound k) EntsOK.nil)) (fun k => L) (fun k => trivial) eq
end U106
namespace U107
abbrev R := (((Bool × Unit) × Unit) × Unit)
abbrev T0 : Type := (List tBlockD) → Int → Int → tFuncD → Option R
def l0_ (k : Nat) (l0 : T0) (a0 : List tBlockD) (a1 : Int) (a2 : Int) (a3 : tFuncD) : Option R := bif decide (a2 < a1) then (bif (decide (0 ≤ a2)) && (decide (a2 < ((List.length a0 : Nat) : Int))) then (Option.bind (U102.f k a3 a2) fun r1 => Option.bind (U106.f k ((List.getD a0 (Int.toNat a2) tBlockZ).1) ((List.length r1.2.1 : Nat) : Int)) fun r2 => bif r2.1.1.1 then (some (((false, ()), ()), ())) else (l0 a0 a1 (IntKind.wrap .i64 (a2 + 1)) a3)) else none) else (some (((true, ()), ()), ()))
def all : Nat → (T0) × Unit
 | 0 => (fun _ _ _ _ => none, ())
 | k + 1 => (l0_ k (all k).1, ())
def l0 (k : Nat) : T0 := (all k).1
def f (k : Nat) (a0 : tFuncD) : Option R := l0 k a0.2.2.1 ((List.length a0.2.2.1 : Nat) : Int) 0 a0
abbrev S : ShapeParts := ⟨[⟨true, [.lst (.int .i64), .int .i64, .lst tBlock]⟩], [], false, [⟨false, [.bool]⟩], [], []⟩
def s (k : Nat) : FS := S.fs fun x => f k x.1.1
def E (k : Nat) : Ents := [(⟨152, []⟩, U102.s k), (⟨146, [153]⟩, U106.s k)]
def L0 (l : T0) : LS R := ⟨[], [(1, ⟨false, [.ptr 100000 0]⟩), (7, ⟨false, [.lst tBlock]⟩), (8, ⟨false, [.int .i64]⟩), (9, ⟨false, [.int .i64]⟩)], [(100000, .box [.lst (.int .i64), .int .i64, .lst tBlock])], fun x => l x.1.2.1.1 x.1.2.2.1.1 x.1.2.2.2.1.1 x.2.1⟩
def L (l0 : T0) : List (LS R) := [L0 l0]
def c : Code := Tryz.f133.body.getD .skip
theorem eq (k : Nat) (x) : (s k).pf x = execF tab (E k) Tryz.f133 c (s k) (L (l0 k)) x := by kernel_rfl
theorem r0 (l0 : T0) (k : Nat) (x) : (L0 (l0_ k l0)).l x = roundOf tab (E k) (L l0) c (fin tab Tryz.f133 (s k)) 0 (L0 l0) x := by kernel_rfl
theorem sound : ∀ k, Sound Tryz.prog 133 (s k) := snd S (fun k => (s k).pf) E (fun k => (EntsOK.cons (U102.sound k) (EntsOK.cons (U106.sound k) EntsOK.nil))) (fun k => L (l0 k)) (fun k => ⟨⟨(L0 (l0 (k + 1))).l, rfl, fun x => r0 (l0 k) k x⟩, trivial⟩) eq
end U107
namespace U108
abbrev R := (((Bool × Unit) × Unit) × Unit)
def f (k : Nat) (a0 : tFuncD) (a1 : Int) : Option R := Option.bind (U68.f k a0) fun r1 => Option.bind (U63.f k a1 0 (IntKind.wrap .i64 (r1.1.1.1 - 1))) fun r2 => some (((r2.1.1.1, ()), ()), ())
abbrev S : ShapeParts := ⟨[⟨true, [.lst (.int .i64), .int .i64, .lst tBlock]⟩, ⟨false, [.int .i64]⟩], [], false, [⟨false, [.bool]⟩], [], []⟩
def s (k : Nat) : FS := S.fs fun x => f k x.1.1 x.1.2.1.1
def E (k : Nat) : Ents := [(⟨74, []⟩, U68.s k), (⟨119, []⟩, U63.s k)]
def L : List (LS R) := []
def c : Code := Tryz.f114.body.getD .skip
theorem eq (k : Nat) (x) : (s k).pf x = execF tab (E k) Tryz.f114 c (s k) L x := by kernel_rfl
theorem sound : ∀ k, Sound Tryz.prog 114 (s k) := snd S (fun k => (s k).pf) E (fun k => (EntsOK.cons (U68.sound k) (EntsOK.cons (U63.sound k) EntsOK.nil))) (fun k => L) (fun k => trivial) eq
end U108
namespace U109
abbrev R := (((Int × Unit) × (Int × Unit) × Unit) × Unit)
abbrev T0 : Type := Int → Int → (List tBlockD) → Int → Int → Option R
def l0_ (k : Nat) (l0 : T0) (a0 : Int) (a1 : Int) (a2 : List tBlockD) (a3 : Int) (a4 : Int) : Option R := bif decide (a4 < a3) then (bif (decide (0 ≤ a4)) && (decide (a4 < ((List.length a2 : Nat) : Int))) then (bif decide (a0 < IntKind.wrap .i64 (a1 + (IntKind.wrap .i64 (((List.length ((List.getD a2 (Int.toNat a4) tBlockZ).1) : Nat) : Int) + ((List.length ((List.getD a2 (Int.toNat a4) tBlockZ).2.1) : Nat) : Int))))) then (some (((a4, ()), (IntKind.wrap .i64 (a0 - a1), ()), ()), ())) else (l0 a0 (IntKind.wrap .i64 (a1 + (IntKind.wrap .i64 (((List.length ((List.getD a2 (Int.toNat a4) tBlockZ).1) : Nat) : Int) + ((List.length ((List.getD a2 (Int.toNat a4) tBlockZ).2.1) : Nat) : Int))))) a2 a3 (IntKind.wrap .i64 (a4 + 1)))) else none) else (some (((-2, ()), (0, ()), ()), ()))
def all : Nat → (T0) × Unit
 | 0 => (fun _ _ _ _ _ => none, ())
 | k + 1 => (l0_ k (all k).1, ())
def l0 (k : Nat) : T0 := (all k).1
def f (k : Nat) (a0 : tFuncD) (a1 : Int) : Option R := Option.bind (U108.f k a0 a1) fun r1 => bif !r1.1.1.1 then (some (((-2, ()), (0, ()), ()), ())) else (bif decide (a1 < ((List.length a0.1 : Nat) : Int)) then (some (((-1, ()), (a1, ()), ()), ())) else (l0 k a1 ((List.length a0.1 : Nat) : Int) a0.2.2.1 ((List.length a0.2.2.1 : Nat) : Int) 0))
abbrev S : ShapeParts := ⟨[⟨true, [.lst (.int .i64), .int .i64, .lst tBlock]⟩, ⟨false, [.int .i64]⟩], [], true, [⟨false, [.int .i64]⟩, ⟨false, [.int .i64]⟩], [], []⟩
def s (k : Nat) : FS := S.fs fun x => f k x.1.1 x.1.2.1.1
def E (k : Nat) : Ents := [(⟨114, []⟩, U108.s k)]
def L0 (l : T0) : LS R := ⟨[], [(1, ⟨false, [.int .i64]⟩), (6, ⟨false, [.int .i64]⟩), (22, ⟨false, [.lst tBlock]⟩), (23, ⟨false, [.int .i64]⟩), (24, ⟨false, [.int .i64]⟩)], [], fun x => l x.1.1.1 x.1.2.1.1 x.1.2.2.1.1 x.1.2.2.2.1.1 x.1.2.2.2.2.1.1⟩
def L (l0 : T0) : List (LS R) := [L0 l0]
def c : Code := Tryz.f96.body.getD .skip
theorem eq (k : Nat) (x) : (s k).pf x = execF tab (E k) Tryz.f96 c (s k) (L (l0 k)) x := by kernel_rfl
theorem r0 (l0 : T0) (k : Nat) (x) : (L0 (l0_ k l0)).l x = roundOf tab (E k) (L l0) c (fin tab Tryz.f96 (s k)) 0 (L0 l0) x := by kernel_rfl
theorem sound : ∀ k, Sound Tryz.prog 96 (s k) := snd S (fun k => (s k).pf) E (fun k => (EntsOK.cons (U108.sound k) EntsOK.nil)) (fun k => L (l0 k)) (fun k => ⟨⟨(L0 (l0 (k + 1))).l, rfl, fun x => r0 (l0 k) k x⟩, trivial⟩) eq
end U109
namespace U110
abbrev R := (((Int × Int × Int × Int × Int × Int × (List Int) × Unit) × (Bool × Unit) × Unit) × Unit)
def f (k : Nat) (a0 : tFuncD) (a1 : Int) : Option R := Option.bind (U109.f k a0 a1) fun r1 => bif decide (r1.1.1.1 < 0) then (some (((0, 0, 0, 0, 0, 0, ([] : List Int), ()), (false, ()), ()), ())) else (bif (decide (0 ≤ r1.1.1.1)) && (decide (r1.1.1.1 < ((List.length a0.2.2.1 : Nat) : Int))) then (bif decide (r1.1.2.1.1 < ((List.length ((List.getD a0.2.2.1 (Int.toNat r1.1.1.1) tBlockZ).1) : Nat) : Int)) then (some (((0, 0, 0, 0, 0, 0, ([] : List Int), ()), (false, ()), ()), ())) else (bif (decide (0 ≤ r1.1.1.1)) && (decide (r1.1.1.1 < ((List.length a0.2.2.1 : Nat) : Int))) then (bif (decide (0 ≤ r1.1.1.1)) && (decide (r1.1.1.1 < ((List.length a0.2.2.1 : Nat) : Int))) then (bif (decide (0 ≤ IntKind.wrap .i64 (r1.1.2.1.1 - ((List.length ((List.getD a0.2.2.1 (Int.toNat r1.1.1.1) tBlockZ).1) : Nat) : Int)))) && (decide (IntKind.wrap .i64 (r1.1.2.1.1 - ((List.length ((List.getD a0.2.2.1 (Int.toNat r1.1.1.1) tBlockZ).1) : Nat) : Int)) < ((List.length ((List.getD a0.2.2.1 (Int.toNat r1.1.1.1) tBlockZ).2.1) : Nat) : Int))) then (some (((List.getD ((List.getD a0.2.2.1 (Int.toNat r1.1.1.1) tBlockZ).2.1) (Int.toNat (IntKind.wrap .i64 (r1.1.2.1.1 - ((List.length ((List.getD a0.2.2.1 (Int.toNat r1.1.1.1) tBlockZ).1) : Nat) : Int)))) tInstZ), (true, ()), ()), ())) else none) else none) else none)) else none)
abbrev S : ShapeParts := ⟨[⟨true, [.lst (.int .i64), .int .i64, .lst tBlock]⟩, ⟨false, [.int .i64]⟩], [], true, [⟨true, [.int .i64, .int .i64, .int .i64, .int .i64, .int .i64, .int .i64, .lst (.int .i64)]⟩, ⟨false, [.bool]⟩], [], []⟩
def s (k : Nat) : FS := S.fs fun x => f k x.1.1 x.1.2.1.1
def E (k : Nat) : Ents := [(⟨96, []⟩, U109.s k)]
def L : List (LS R) := []
def c : Code := Tryz.f71.body.getD .skip
theorem eq (k : Nat) (x) : (s k).pf x = execF tab (E k) Tryz.f71 c (s k) L x := by kernel_rfl
theorem sound : ∀ k, Sound Tryz.prog 71 (s k) := snd S (fun k => (s k).pf) E (fun k => (EntsOK.cons (U109.sound k) EntsOK.nil)) (fun k => L) (fun k => trivial) eq
end U110
namespace U111
abbrev R := (((Int × Unit) × Unit) × Unit)
def f (k : Nat) (a0 : Int) (a1 : Int) : Option R := Option.bind (U75.f k a0) fun r1 => bif !r1.1.1.1 then (some (((0, ()), ()), ())) else (Option.bind (U64.f k a1) fun r2 => bif !r2.1.1.1 then (some (((0, ()), ()), ())) else (bif decide (14 ≤ a0) then (some (((1, ()), ()), ())) else (some (((a1, ()), ()), ()))))
abbrev S : ShapeParts := ⟨[⟨false, [.int .i64]⟩, ⟨false, [.int .i64]⟩], [], false, [⟨false, [.int .i64]⟩], [], []⟩
def s (k : Nat) : FS := S.fs fun x => f k x.1.1.1 x.1.2.1.1
def E (k : Nat) : Ents := [(⟨103, []⟩, U75.s k), (⟨120, []⟩, U64.s k)]
def L : List (LS R) := []
def c : Code := Tryz.f104.body.getD .skip
theorem eq (k : Nat) (x) : (s k).pf x = execF tab (E k) Tryz.f104 c (s k) L x := by kernel_rfl
theorem sound : ∀ k, Sound Tryz.prog 104 (s k) := snd S (fun k => (s k).pf) E (fun k => (EntsOK.cons (U75.sound k) (EntsOK.cons (U64.sound k) EntsOK.nil))) (fun k => L) (fun k => trivial) eq
end U111
namespace U112
abbrev R := (((Int × Unit) × Unit) × Unit)
def f (k : Nat) (a0 : tInstD) : Option R := Option.bind (U75.f k a0.1) fun r1 => bif r1.1.1.1 then (Option.bind (U111.f k a0.1 a0.2.1) fun r2 => some (((r2.1.1.1, ()), ()), ())) else (bif decide (a0.1 = 24) then (some (((0, ()), ()), ())) else (bif decide (a0.1 = 25) then (some (((0, ()), ()), ())) else (some (((a0.2.1, ()), ()), ()))))
abbrev S : ShapeParts := ⟨[⟨true, [.int .i64, .int .i64, .int .i64, .int .i64, .int .i64, .int .i64, .lst (.int .i64)]⟩], [], false, [⟨false, [.int .i64]⟩], [], []⟩
def s (k : Nat) : FS := S.fs fun x => f k x.1.1
def E (k : Nat) : Ents := [(⟨103, []⟩, U75.s k), (⟨104, []⟩, U111.s k)]
def L : List (LS R) := []
def c : Code := Tryz.f76.body.getD .skip
theorem eq (k : Nat) (x) : (s k).pf x = execF tab (E k) Tryz.f76 c (s k) L x := by kernel_rfl
theorem sound : ∀ k, Sound Tryz.prog 76 (s k) := snd S (fun k => (s k).pf) E (fun k => (EntsOK.cons (U75.sound k) (EntsOK.cons (U111.sound k) EntsOK.nil))) (fun k => L) (fun k => trivial) eq
end U112
namespace U113
abbrev R := (((Int × Unit) × Unit) × Unit)
def f (k : Nat) (a0 : tFuncD) (a1 : Int) : Option R := Option.bind (U109.f k a0 a1) fun r1 => bif decide (r1.1.1.1 = -2) then (some (((-1, ()), ()), ())) else (bif decide (r1.1.1.1 = -1) then (bif (decide (0 ≤ r1.1.2.1.1)) && (decide (r1.1.2.1.1 < ((List.length a0.1 : Nat) : Int))) then (some (((List.getD a0.1 (Int.toNat r1.1.2.1.1) 0, ()), ()), ())) else none) else (bif (decide (0 ≤ r1.1.1.1)) && (decide (r1.1.1.1 < ((List.length a0.2.2.1 : Nat) : Int))) then (bif decide (r1.1.2.1.1 < ((List.length ((List.getD a0.2.2.1 (Int.toNat r1.1.1.1) tBlockZ).1) : Nat) : Int)) then (bif (decide (0 ≤ r1.1.1.1)) && (decide (r1.1.1.1 < ((List.length a0.2.2.1 : Nat) : Int))) then (bif (decide (0 ≤ r1.1.2.1.1)) && (decide (r1.1.2.1.1 < ((List.length ((List.getD a0.2.2.1 (Int.toNat r1.1.1.1) tBlockZ).1) : Nat) : Int))) then (some ((((List.getD ((List.getD a0.2.2.1 (Int.toNat r1.1.1.1) tBlockZ).1) (Int.toNat r1.1.2.1.1) tPhiZ).1, ()), ()), ())) else none) else none) else (Option.bind (U110.f k a0 a1) fun r2 => Option.bind (U112.f k r2.1.1) fun r3 => some (((r3.1.1.1, ()), ()), ()))) else none))
abbrev S : ShapeParts := ⟨[⟨true, [.lst (.int .i64), .int .i64, .lst tBlock]⟩, ⟨false, [.int .i64]⟩], [], false, [⟨false, [.int .i64]⟩], [], []⟩
def s (k : Nat) : FS := S.fs fun x => f k x.1.1 x.1.2.1.1
def E (k : Nat) : Ents := [(⟨96, []⟩, U109.s k), (⟨71, []⟩, U110.s k), (⟨76, []⟩, U112.s k)]
def L : List (LS R) := []
def c : Code := Tryz.f155.body.getD .skip
theorem eq (k : Nat) (x) : (s k).pf x = execF tab (E k) Tryz.f155 c (s k) L x := by kernel_rfl
theorem sound : ∀ k, Sound Tryz.prog 155 (s k) := snd S (fun k => (s k).pf) E (fun k => (EntsOK.cons (U109.sound k) (EntsOK.cons (U110.sound k) (EntsOK.cons (U112.sound k) EntsOK.nil)))) (fun k => L) (fun k => trivial) eq
end U113
namespace U114
abbrev R := (((Bool × Unit) × Unit) × Unit)
def f (k : Nat) (a0 : Int) (a1 : tFuncD) (a2 : tPhiD) : Option R := Option.bind (U113.f k a1 a0) fun r1 => some (((!decide (r1.1.1.1 = a2.1), ()), ()), ())
abbrev S : ShapeParts := ⟨[⟨false, [.int .i64]⟩, ⟨false, [.ptr 0 0]⟩, ⟨false, [.ptr 1 0]⟩], [(0, .cbox [.lst (.int .i64), .int .i64, .lst tBlock]), (1, .cbox [.int .i64, .lst (.int .i64)])], false, [⟨false, [.bool]⟩], [], []⟩
def s (k : Nat) : FS := S.fs fun x => f k x.1.1.1 x.2.1 x.2.2.1
def E (k : Nat) : Ents := [(⟨155, []⟩, U113.s k)]
def L : List (LS R) := []
def c : Code := Tryz.f154.body.getD .skip
theorem eq (k : Nat) (x) : (s k).pf x = execF tab (E k) Tryz.f154 c (s k) L x := by kernel_rfl
theorem sound : ∀ k, Sound Tryz.prog 154 (s k) := snd S (fun k => (s k).pf) E (fun k => (EntsOK.cons (U113.sound k) EntsOK.nil)) (fun k => L) (fun k => trivial) eq
end U114
namespace U115
abbrev R := (((Int × Unit) × Unit) × Unit)
abbrev T0 : Type := (List Int) → Int → Int → tFuncD → tPhiD → Option R
def l0_ (k : Nat) (l0 : T0) (a0 : List Int) (a1 : Int) (a2 : Int) (a3 : tFuncD) (a4 : tPhiD) : Option R := bif decide (a2 < a1) then (bif (decide (0 ≤ a2)) && (decide (a2 < ((List.length a0 : Nat) : Int))) then (Option.bind (U114.f k (List.getD a0 (Int.toNat a2) 0) a3 a4) fun r1 => bif r1.1.1.1 then (some (((a2, ()), ()), ())) else (l0 a0 a1 (IntKind.wrap .i64 (a2 + 1)) a3 a4)) else none) else (some (((-1, ()), ()), ()))
def all : Nat → (T0) × Unit
 | 0 => (fun _ _ _ _ _ => none, ())
 | k + 1 => (l0_ k (all k).1, ())
def l0 (k : Nat) : T0 := (all k).1
def f (k : Nat) (a0 : List Int) (a1 : tFuncD) (a2 : tPhiD) : Option R := l0 k a0 ((List.length a0 : Nat) : Int) 0 a1 a2
abbrev S : ShapeParts := ⟨[⟨false, [.lst (.int .i64)]⟩, ⟨false, [.fn 154 [(0, 0), (1, 0)]]⟩], [(0, .cbox [.lst (.int .i64), .int .i64, .lst tBlock]), (1, .cbox [.int .i64, .lst (.int .i64)])], false, [⟨false, [.int .i64]⟩], [], []⟩
def s (k : Nat) : FS := S.fs fun x => f k x.1.1.1 x.2.1 x.2.2.1
def E (k : Nat) : Ents := [(⟨154, []⟩, U114.s k)]
def L0 (l : T0) : LS R := ⟨[], [(0, ⟨false, [.lst (.int .i64)]⟩), (1, ⟨false, [.fn 154 [(0, 0), (1, 0)]]⟩), (7, ⟨false, [.int .i64]⟩), (8, ⟨false, [.int .i64]⟩)], [(0, .cbox [.lst (.int .i64), .int .i64, .lst tBlock]), (1, .cbox [.int .i64, .lst (.int .i64)])], fun x => l x.1.1.1 x.1.2.2.1.1 x.1.2.2.2.1.1 x.2.1 x.2.2.1⟩
def L (l0 : T0) : List (LS R) := [L0 l0]
def c : Code := Tryz.f167.body.getD .skip
theorem eq (k : Nat) (x) : (s k).pf x = execF tab (E k) Tryz.f167 c (s k) (L (l0 k)) x := by kernel_rfl
theorem r0 (l0 : T0) (k : Nat) (x) : (L0 (l0_ k l0)).l x = roundOf tab (E k) (L l0) c (fin tab Tryz.f167 (s k)) 0 (L0 l0) x := by kernel_rfl
theorem sound : ∀ k, Sound Tryz.prog 167 (s k) := snd S (fun k => (s k).pf) E (fun k => (EntsOK.cons (U114.sound k) EntsOK.nil)) (fun k => L (l0 k)) (fun k => ⟨⟨(L0 (l0 (k + 1))).l, rfl, fun x => r0 (l0 k) k x⟩, trivial⟩) eq
end U115
namespace U116
abbrev R := (((Bool × Unit) × Unit) × Unit)
def f (k : Nat) (a0 : List Int) (a1 : tFuncD) (a2 : tPhiD) : Option R := Option.bind (U115.f k a0 a1 a2) fun r1 => some (((decide (0 ≤ r1.1.1.1), ()), ()), ())
abbrev S : ShapeParts := ⟨[⟨false, [.lst (.int .i64)]⟩, ⟨false, [.fn 154 [(0, 0), (1, 0)]]⟩], [(0, .cbox [.lst (.int .i64), .int .i64, .lst tBlock]), (1, .cbox [.int .i64, .lst (.int .i64)])], false, [⟨false, [.bool]⟩], [], []⟩
def s (k : Nat) : FS := S.fs fun x => f k x.1.1.1 x.2.1 x.2.2.1
def E (k : Nat) : Ents := [(⟨167, [154]⟩, U115.s k)]
def L : List (LS R) := []
def c : Code := Tryz.f144.body.getD .skip
theorem eq (k : Nat) (x) : (s k).pf x = execF tab (E k) Tryz.f144 c (s k) L x := by kernel_rfl
theorem sound : ∀ k, Sound Tryz.prog 144 (s k) := snd S (fun k => (s k).pf) E (fun k => (EntsOK.cons (U115.sound k) EntsOK.nil)) (fun k => L) (fun k => trivial) eq
end U116
namespace U117
abbrev R := (((Bool × Unit) × Unit) × Unit)
def f (k : Nat) (a0 : Int) (a1 : Int) (a2 : tFuncD) : Option R := Option.bind (U113.f k a2 a0) fun r1 => some (((decide (r1.1.1.1 = a1), ()), ()), ())
abbrev S : ShapeParts := ⟨[⟨false, [.int .i64]⟩, ⟨false, [.int .i64]⟩, ⟨false, [.ptr 0 0]⟩], [(0, .cbox [.lst (.int .i64), .int .i64, .lst tBlock])], false, [⟨false, [.bool]⟩], [], []⟩
def s (k : Nat) : FS := S.fs fun x => f k x.1.1.1 x.1.2.1.1 x.2.1
def E (k : Nat) : Ents := [(⟨155, []⟩, U113.s k)]
def L : List (LS R) := []
def c : Code := Tryz.f174.body.getD .skip
theorem eq (k : Nat) (x) : (s k).pf x = execF tab (E k) Tryz.f174 c (s k) L x := by kernel_rfl
theorem sound : ∀ k, Sound Tryz.prog 174 (s k) := snd S (fun k => (s k).pf) E (fun k => (EntsOK.cons (U113.sound k) EntsOK.nil)) (fun k => L) (fun k => trivial) eq
end U117
namespace U118
abbrev R := (((Bool × Unit) × Unit) × Unit)
def f (k : Nat) (a0 : tFuncD) (a1 : tInstD) : Option R := Option.bind (U113.f k a0 a1.2.2.1) fun r1 => Option.bind (U75.f k a1.1) fun r2 => bif r2.1.1.1 then (Option.bind (U117.f k a1.2.2.1 a1.2.1 a0) fun r3 => bif r3.1.1.1 then (Option.bind (U117.f k a1.2.2.2.1 a1.2.1 a0) fun r4 => some (((r4.1.1.1, ()), ()), ())) else (some (((false, ()), ()), ()))) else (bif decide (a1.1 = 27) then (Option.bind (U117.f k a1.2.2.1 a1.2.1 a0) fun r5 => some (((r5.1.1.1, ()), ()), ())) else (bif decide (a1.1 = 18) then (bif !decide (r1.1.1.1 = 0) then (some (((decide (r1.1.1.1 < a1.2.1), ()), ()), ())) else (some (((false, ()), ()), ()))) else (bif decide (a1.1 = 19) then (bif !decide (r1.1.1.1 = 0) then (some (((decide (r1.1.1.1 < a1.2.1), ()), ()), ())) else (some (((false, ()), ()), ()))) else (bif decide (a1.1 = 20) then (some (((decide (a1.2.1 < r1.1.1.1), ()), ()), ())) else (bif decide (a1.1 = 22) then (Option.bind (U117.f k a1.2.2.1 1 a0) fun r6 => bif r6.1.1.1 then (Option.bind (U117.f k a1.2.2.2.1 a1.2.1 a0) fun r7 => bif r7.1.1.1 then (Option.bind (U117.f k a1.2.2.2.2.1 a1.2.1 a0) fun r8 => some (((r8.1.1.1, ()), ()), ())) else (some (((false, ()), ()), ()))) else (some (((false, ()), ()), ()))) else (bif decide (a1.1 = 23) then (Option.bind (U117.f k a1.2.2.1 32 a0) fun r9 => some (((r9.1.1.1, ()), ()), ())) else (bif decide (a1.1 = 24) then (Option.bind (U117.f k a1.2.2.1 32 a0) fun r10 => bif r10.1.1.1 then (Option.bind (U117.f k a1.2.2.2.1 8 a0) fun r11 => some (((r11.1.1.1, ()), ()), ())) else (some (((false, ()), ()), ()))) else (bif decide (a1.1 = 25) then (some (((!decide (r1.1.1.1 = 0), ()), ()), ())) else (some (((true, ()), ()), ()))))))))))
abbrev S : ShapeParts := ⟨[⟨true, [.lst (.int .i64), .int .i64, .lst tBlock]⟩, ⟨true, [.int .i64, .int .i64, .int .i64, .int .i64, .int .i64, .int .i64, .lst (.int .i64)]⟩], [], false, [⟨false, [.bool]⟩], [], []⟩
def s (k : Nat) : FS := S.fs fun x => f k x.1.1 x.1.2.1
def E (k : Nat) : Ents := [(⟨155, []⟩, U113.s k), (⟨103, []⟩, U75.s k), (⟨174, []⟩, U117.s k)]
def L : List (LS R) := []
def c : Code := Tryz.f157.body.getD .skip
theorem eq (k : Nat) (x) : (s k).pf x = execF tab (E k) Tryz.f157 c (s k) L x := by kernel_rfl
theorem sound : ∀ k, Sound Tryz.prog 157 (s k) := snd S (fun k => (s k).pf) E (fun k => (EntsOK.cons (U113.sound k) (EntsOK.cons (U75.sound k) (EntsOK.cons (U117.sound k) EntsOK.nil)))) (fun k => L) (fun k => trivial) eq
end U118
namespace U119
abbrev R := (((Bool × Unit) × Unit) × Unit)
def f (k : Nat) (a0 : tInstD) (a1 : tFuncD) : Option R := Option.bind (U118.f k a1 a0) fun r1 => some (((!r1.1.1.1, ()), ()), ())
abbrev S : ShapeParts := ⟨[⟨true, [.int .i64, .int .i64, .int .i64, .int .i64, .int .i64, .int .i64, .lst (.int .i64)]⟩, ⟨false, [.ptr 0 0]⟩], [(0, .cbox [.lst (.int .i64), .int .i64, .lst tBlock])], false, [⟨false, [.bool]⟩], [], []⟩
def s (k : Nat) : FS := S.fs fun x => f k x.1.1 x.2.1
def E (k : Nat) : Ents := [(⟨157, []⟩, U118.s k)]
def L : List (LS R) := []
def c : Code := Tryz.f156.body.getD .skip
theorem eq (k : Nat) (x) : (s k).pf x = execF tab (E k) Tryz.f156 c (s k) L x := by kernel_rfl
theorem sound : ∀ k, Sound Tryz.prog 156 (s k) := snd S (fun k => (s k).pf) E (fun k => (EntsOK.cons (U118.sound k) EntsOK.nil)) (fun k => L) (fun k => trivial) eq
end U119
namespace U120
abbrev R := (((Int × Unit) × Unit) × Unit)
abbrev T0 : Type := (List tInstD) → Int → Int → tFuncD → Option R
def l0_ (k : Nat) (l0 : T0) (a0 : List tInstD) (a1 : Int) (a2 : Int) (a3 : tFuncD) : Option R := bif decide (a2 < a1) then (bif (decide (0 ≤ a2)) && (decide (a2 < ((List.length a0 : Nat) : Int))) then (Option.bind (U119.f k (List.getD a0 (Int.toNat a2) tInstZ) a3) fun r1 => bif r1.1.1.1 then (some (((a2, ()), ()), ())) else (l0 a0 a1 (IntKind.wrap .i64 (a2 + 1)) a3)) else none) else (some (((-1, ()), ()), ()))
def all : Nat → (T0) × Unit
 | 0 => (fun _ _ _ _ => none, ())
 | k + 1 => (l0_ k (all k).1, ())
def l0 (k : Nat) : T0 := (all k).1
def f (k : Nat) (a0 : List tInstD) (a1 : tFuncD) : Option R := l0 k a0 ((List.length a0 : Nat) : Int) 0 a1
abbrev S : ShapeParts := ⟨[⟨false, [.lst tInst]⟩, ⟨false, [.fn 156 [(0, 0)]]⟩], [(0, .cbox [.lst (.int .i64), .int .i64, .lst tBlock])], false, [⟨false, [.int .i64]⟩], [], []⟩
def s (k : Nat) : FS := S.fs fun x => f k x.1.1.1 x.2.1
def E (k : Nat) : Ents := [(⟨156, []⟩, U119.s k)]
def L0 (l : T0) : LS R := ⟨[], [(0, ⟨false, [.lst tInst]⟩), (1, ⟨false, [.fn 156 [(0, 0)]]⟩), (7, ⟨false, [.int .i64]⟩), (8, ⟨false, [.int .i64]⟩)], [(0, .cbox [.lst (.int .i64), .int .i64, .lst tBlock])], fun x => l x.1.1.1 x.1.2.2.1.1 x.1.2.2.2.1.1 x.2.1⟩
def L (l0 : T0) : List (LS R) := [L0 l0]
def c : Code := Tryz.f158.body.getD .skip
theorem eq (k : Nat) (x) : (s k).pf x = execF tab (E k) Tryz.f158 c (s k) (L (l0 k)) x := by kernel_rfl
theorem r0 (l0 : T0) (k : Nat) (x) : (L0 (l0_ k l0)).l x = roundOf tab (E k) (L l0) c (fin tab Tryz.f158 (s k)) 0 (L0 l0) x := by kernel_rfl
theorem sound : ∀ k, Sound Tryz.prog 158 (s k) := snd S (fun k => (s k).pf) E (fun k => (EntsOK.cons (U119.sound k) EntsOK.nil)) (fun k => L (l0 k)) (fun k => ⟨⟨(L0 (l0 (k + 1))).l, rfl, fun x => r0 (l0 k) k x⟩, trivial⟩) eq
end U120
namespace U121
abbrev R := (((Bool × Unit) × Unit) × Unit)
def f (k : Nat) (a0 : List tInstD) (a1 : tFuncD) : Option R := Option.bind (U120.f k a0 a1) fun r1 => some (((decide (0 ≤ r1.1.1.1), ()), ()), ())
abbrev S : ShapeParts := ⟨[⟨false, [.lst tInst]⟩, ⟨false, [.fn 156 [(0, 0)]]⟩], [(0, .cbox [.lst (.int .i64), .int .i64, .lst tBlock])], false, [⟨false, [.bool]⟩], [], []⟩
def s (k : Nat) : FS := S.fs fun x => f k x.1.1.1 x.2.1
def E (k : Nat) : Ents := [(⟨158, [156]⟩, U120.s k)]
def L : List (LS R) := []
def c : Code := Tryz.f135.body.getD .skip
theorem eq (k : Nat) (x) : (s k).pf x = execF tab (E k) Tryz.f135 c (s k) L x := by kernel_rfl
theorem sound : ∀ k, Sound Tryz.prog 135 (s k) := snd S (fun k => (s k).pf) E (fun k => (EntsOK.cons (U120.sound k) EntsOK.nil)) (fun k => L) (fun k => trivial) eq
end U121
namespace U122
abbrev R := (((Bool × Unit) × Unit) × Unit)
abbrev T0 : Type := (List tBlockD) → Int → Int → tFuncD → Option R
abbrev T1 : Type := (List tBlockD) → Int → Int → (List tPhiD) → Int → Int → tFuncD → tBlockD → Option R
def l0_ (k : Nat) (l0 : T0) (l1 : T1) (a0 : List tBlockD) (a1 : Int) (a2 : Int) (a3 : tFuncD) : Option R := bif decide (a2 < a1) then (bif (decide (0 ≤ a2)) && (decide (a2 < ((List.length a0 : Nat) : Int))) then (l1 a0 a1 a2 ((List.getD a0 (Int.toNat a2) tBlockZ).1) ((List.length ((List.getD a0 (Int.toNat a2) tBlockZ).1) : Nat) : Int) 0 a3 (List.getD a0 (Int.toNat a2) tBlockZ)) else none) else (some (((true, ()), ()), ()))
def l1_ (k : Nat) (l0 : T0) (l1 : T1) (a0 : List tBlockD) (a1 : Int) (a2 : Int) (a3 : List tPhiD) (a4 : Int) (a5 : Int) (a6 : tFuncD) (a7 : tBlockD) : Option R := bif decide (a5 < a4) then (bif (decide (0 ≤ a5)) && (decide (a5 < ((List.length a3 : Nat) : Int))) then (Option.bind (U116.f k ((List.getD a3 (Int.toNat a5) tPhiZ).2.1) a6 (List.getD a3 (Int.toNat a5) tPhiZ)) fun r1 => bif r1.1.1.1 then (some (((false, ()), ()), ())) else (l1 a0 a1 a2 a3 a4 (IntKind.wrap .i64 (a5 + 1)) a6 a7)) else none) else (Option.bind (U121.f k a7.2.1 a6) fun r2 => bif r2.1.1.1 then (some (((false, ()), ()), ())) else (bif decide (a7.2.2.1 = 1) then (Option.bind (U113.f k a6 a7.2.2.2.1) fun r3 => bif !decide (r3.1.1.1 = a6.2.1) then (some (((false, ()), ()), ())) else (bif decide (a7.2.2.1 = 3) then (Option.bind (U113.f k a6 a7.2.2.2.1) fun r4 => bif !decide (r4.1.1.1 = 1) then (some (((false, ()), ()), ())) else (l0 a0 a1 (IntKind.wrap .i64 (a2 + 1)) a6)) else (l0 a0 a1 (IntKind.wrap .i64 (a2 + 1)) a6))) else (bif decide (a7.2.2.1 = 3) then (Option.bind (U113.f k a6 a7.2.2.2.1) fun r5 => bif !decide (r5.1.1.1 = 1) then (some (((false, ()), ()), ())) else (l0 a0 a1 (IntKind.wrap .i64 (a2 + 1)) a6)) else (l0 a0 a1 (IntKind.wrap .i64 (a2 + 1)) a6))))
def all : Nat → (T0) × (T1) × Unit
 | 0 => (fun _ _ _ _ => none, fun _ _ _ _ _ _ _ _ => none, ())
 | k + 1 => (l0_ k (all k).1 (all k).2.1, l1_ k (all k).1 (all k).2.1, ())
def l0 (k : Nat) : T0 := (all k).1
def l1 (k : Nat) : T1 := (all k).2.1
def f (k : Nat) (a0 : tFuncD) : Option R := l0 k a0.2.2.1 ((List.length a0.2.2.1 : Nat) : Int) 0 a0
abbrev S : ShapeParts := ⟨[⟨true, [.lst (.int .i64), .int .i64, .lst tBlock]⟩], [], false, [⟨false, [.bool]⟩], [], []⟩
def s (k : Nat) : FS := S.fs fun x => f k x.1.1
def E (k : Nat) : Ents := [(⟨144, [154]⟩, U116.s k), (⟨135, [156]⟩, U121.s k), (⟨155, []⟩, U113.s k)]
def L0 (l : T0) : LS R := ⟨[], [(1, ⟨false, [.ptr 100000 0]⟩), (9, ⟨false, [.lst tBlock]⟩), (10, ⟨false, [.int .i64]⟩), (11, ⟨false, [.int .i64]⟩)], [(100000, .box [.lst (.int .i64), .int .i64, .lst tBlock])], fun x => l x.1.2.1.1 x.1.2.2.1.1 x.1.2.2.2.1.1 x.2.1⟩
def L1 (l : T1) : LS R := ⟨[], [(1, ⟨false, [.ptr 100000 0]⟩), (4, ⟨false, [.ptr 100001 0]⟩), (9, ⟨false, [.lst tBlock]⟩), (10, ⟨false, [.int .i64]⟩), (11, ⟨false, [.int .i64]⟩), (16, ⟨false, [.lst tPhi]⟩), (17, ⟨false, [.int .i64]⟩), (18, ⟨false, [.int .i64]⟩)], [(100000, .box [.lst (.int .i64), .int .i64, .lst tBlock]), (100001, .box [.lst tPhi, .lst tInst, .int .i64, .int .i64, .int .i64, .int .i64])], fun x => l x.1.2.2.1.1 x.1.2.2.2.1.1 x.1.2.2.2.2.1.1 x.1.2.2.2.2.2.1.1 x.1.2.2.2.2.2.2.1.1 x.1.2.2.2.2.2.2.2.1.1 x.2.1 x.2.2.1⟩
def L (l0 : T0) (l1 : T1) : List (LS R) := [L0 l0, L1 l1]
def c : Code := Tryz.f134.body.getD .skip
theorem eq (k : Nat) (x) : (s k).pf x = execF tab (E k) Tryz.f134 c (s k) (L (l0 k) (l1 k)) x := by kernel_rfl
theorem r0 (l0 : T0) (l1 : T1) (k : Nat) (x) : (L0 (l0_ k l0 l1)).l x = roundOf tab (E k) (L l0 l1) c (fin tab Tryz.f134 (s k)) 0 (L0 l0) x := by kernel_rfl
theorem r1 (l0 : T0) (l1 : T1) (k : Nat) (x) : (L1 (l1_ k l0 l1)).l x = roundOf tab (E k) (L l0 l1) c (fin tab Tryz.f134 (s k)) 1 (L1 l1) x := by kernel_rfl
theorem sound : ∀ k, Sound Tryz.prog 134 (s k) := snd S (fun k => (s k).pf) E (fun k => (EntsOK.cons (U116.sound k) (EntsOK.cons (U121.sound k) (EntsOK.cons (U113.sound k) EntsOK.nil)))) (fun k => L (l0 k) (l1 k)) (fun k => ⟨⟨(L0 (l0 (k + 1))).l, rfl, fun x => r0 (l0 k) (l1 k) k x⟩, ⟨(L1 (l1 (k + 1))).l, rfl, fun x => r1 (l0 k) (l1 k) k x⟩, trivial⟩) eq
end U122
namespace U123
abbrev R := (((Bool × Unit) × Unit) × Unit)
abbrev T0 : Type := (List Int) → Int → Int → tFuncD → tFuncD → Option R
def l0_ (k : Nat) (l0 : T0) (a0 : List Int) (a1 : Int) (a2 : Int) (a3 : tFuncD) (a4 : tFuncD) : Option R := bif decide (a2 < a1) then (bif (decide (0 ≤ a2)) && (decide (a2 < ((List.length a0 : Nat) : Int))) then (Option.bind (U113.f k a3 (List.getD a0 (Int.toNat a2) 0)) fun r1 => bif (decide (0 ≤ a2)) && (decide (a2 < ((List.length a4.1 : Nat) : Int))) then (bif !decide (r1.1.1.1 = List.getD a4.1 (Int.toNat a2) 0) then (some (((false, ()), ()), ())) else (l0 a0 a1 (IntKind.wrap .i64 (a2 + 1)) a3 a4)) else none) else none) else (some (((true, ()), ()), ()))
def all : Nat → (T0) × Unit
 | 0 => (fun _ _ _ _ _ => none, ())
 | k + 1 => (l0_ k (all k).1, ())
def l0 (k : Nat) : T0 := (all k).1
def f (k : Nat) (a0 : tModuleD) (a1 : tFuncD) (a2 : tInstD) : Option R := bif (decide (0 ≤ a2.2.2.2.2.2.1)) && (decide (a2.2.2.2.2.2.1 < ((List.length a0.1 : Nat) : Int))) then (bif !decide (a2.2.1 = (List.getD a0.1 (Int.toNat a2.2.2.2.2.2.1) tFuncZ).2.1) then (some (((false, ()), ()), ())) else (bif !decide (((List.length a2.2.2.2.2.2.2.1 : Nat) : Int) = ((List.length ((List.getD a0.1 (Int.toNat a2.2.2.2.2.2.1) tFuncZ).1) : Nat) : Int)) then (some (((false, ()), ()), ())) else (l0 k a2.2.2.2.2.2.2.1 ((List.length a2.2.2.2.2.2.2.1 : Nat) : Int) 0 a1 (List.getD a0.1 (Int.toNat a2.2.2.2.2.2.1) tFuncZ)))) else none
abbrev S : ShapeParts := ⟨[⟨true, [.lst tFunc]⟩, ⟨true, [.lst (.int .i64), .int .i64, .lst tBlock]⟩, ⟨true, [.int .i64, .int .i64, .int .i64, .int .i64, .int .i64, .int .i64, .lst (.int .i64)]⟩], [], false, [⟨false, [.bool]⟩], [], []⟩
def s (k : Nat) : FS := S.fs fun x => f k x.1.1 x.1.2.1 x.1.2.2.1
def E (k : Nat) : Ents := [(⟨155, []⟩, U113.s k)]
def L0 (l : T0) : LS R := ⟨[], [(4, ⟨false, [.ptr 100000 0]⟩), (7, ⟨false, [.ptr 100001 0]⟩), (31, ⟨false, [.lst (.int .i64)]⟩), (32, ⟨false, [.int .i64]⟩), (33, ⟨false, [.int .i64]⟩)], [(100000, .box [.lst (.int .i64), .int .i64, .lst tBlock]), (100001, .box [.lst (.int .i64), .int .i64, .lst tBlock])], fun x => l x.1.2.2.1.1 x.1.2.2.2.1.1 x.1.2.2.2.2.1.1 x.2.1 x.2.2.1⟩
def L (l0 : T0) : List (LS R) := [L0 l0]
def c : Code := Tryz.f137.body.getD .skip
theorem eq (k : Nat) (x) : (s k).pf x = execF tab (E k) Tryz.f137 c (s k) (L (l0 k)) x := by kernel_rfl
theorem r0 (l0 : T0) (k : Nat) (x) : (L0 (l0_ k l0)).l x = roundOf tab (E k) (L l0) c (fin tab Tryz.f137 (s k)) 0 (L0 l0) x := by kernel_rfl
theorem sound : ∀ k, Sound Tryz.prog 137 (s k) := snd S (fun k => (s k).pf) E (fun k => (EntsOK.cons (U113.sound k) EntsOK.nil)) (fun k => L (l0 k)) (fun k => ⟨⟨(L0 (l0 (k + 1))).l, rfl, fun x => r0 (l0 k) k x⟩, trivial⟩) eq
end U123
namespace U124
abbrev R := (((Bool × Unit) × Unit) × Unit)
def f (k : Nat) (a0 : tInstD) (a1 : List tFuncD) (a2 : tFuncD) : Option R := bif decide (a0.1 = 26) then (Option.bind (U123.f k (a1, ()) a2 a0) fun r1 => some (((!r1.1.1.1, ()), ()), ())) else (some (((false, ()), ()), ()))
abbrev S : ShapeParts := ⟨[⟨true, [.int .i64, .int .i64, .int .i64, .int .i64, .int .i64, .int .i64, .lst (.int .i64)]⟩, ⟨false, [.ptr 0 0]⟩, ⟨false, [.ptr 1 0]⟩], [(0, .cbox [.lst tFunc]), (1, .cbox [.lst (.int .i64), .int .i64, .lst tBlock])], false, [⟨false, [.bool]⟩], [], []⟩
def s (k : Nat) : FS := S.fs fun x => f k x.1.1 x.2.1.1 x.2.2.1
def E (k : Nat) : Ents := [(⟨137, []⟩, U123.s k)]
def L : List (LS R) := []
def c : Code := Tryz.f136.body.getD .skip
theorem eq (k : Nat) (x) : (s k).pf x = execF tab (E k) Tryz.f136 c (s k) L x := by kernel_rfl
theorem sound : ∀ k, Sound Tryz.prog 136 (s k) := snd S (fun k => (s k).pf) E (fun k => (EntsOK.cons (U123.sound k) EntsOK.nil)) (fun k => L) (fun k => trivial) eq
end U124
namespace U125
abbrev R := (((Int × Unit) × Unit) × Unit)
abbrev T0 : Type := (List tInstD) → Int → Int → (List tFuncD) → tFuncD → Option R
def l0_ (k : Nat) (l0 : T0) (a0 : List tInstD) (a1 : Int) (a2 : Int) (a3 : List tFuncD) (a4 : tFuncD) : Option R := bif decide (a2 < a1) then (bif (decide (0 ≤ a2)) && (decide (a2 < ((List.length a0 : Nat) : Int))) then (Option.bind (U124.f k (List.getD a0 (Int.toNat a2) tInstZ) a3 a4) fun r1 => bif r1.1.1.1 then (some (((a2, ()), ()), ())) else (l0 a0 a1 (IntKind.wrap .i64 (a2 + 1)) a3 a4)) else none) else (some (((-1, ()), ()), ()))
def all : Nat → (T0) × Unit
 | 0 => (fun _ _ _ _ _ => none, ())
 | k + 1 => (l0_ k (all k).1, ())
def l0 (k : Nat) : T0 := (all k).1
def f (k : Nat) (a0 : List tInstD) (a1 : List tFuncD) (a2 : tFuncD) : Option R := l0 k a0 ((List.length a0 : Nat) : Int) 0 a1 a2
abbrev S : ShapeParts := ⟨[⟨false, [.lst tInst]⟩, ⟨false, [.fn 136 [(0, 0), (1, 0)]]⟩], [(0, .cbox [.lst tFunc]), (1, .cbox [.lst (.int .i64), .int .i64, .lst tBlock])], false, [⟨false, [.int .i64]⟩], [], []⟩
def s (k : Nat) : FS := S.fs fun x => f k x.1.1.1 x.2.1.1 x.2.2.1
def E (k : Nat) : Ents := [(⟨136, []⟩, U124.s k)]
def L0 (l : T0) : LS R := ⟨[], [(0, ⟨false, [.lst tInst]⟩), (1, ⟨false, [.fn 136 [(0, 0), (1, 0)]]⟩), (7, ⟨false, [.int .i64]⟩), (8, ⟨false, [.int .i64]⟩)], [(0, .cbox [.lst tFunc]), (1, .cbox [.lst (.int .i64), .int .i64, .lst tBlock])], fun x => l x.1.1.1 x.1.2.2.1.1 x.1.2.2.2.1.1 x.2.1.1 x.2.2.1⟩
def L (l0 : T0) : List (LS R) := [L0 l0]
def c : Code := Tryz.f158.body.getD .skip
theorem eq (k : Nat) (x) : (s k).pf x = execF tab (E k) Tryz.f158 c (s k) (L (l0 k)) x := by kernel_rfl
theorem r0 (l0 : T0) (k : Nat) (x) : (L0 (l0_ k l0)).l x = roundOf tab (E k) (L l0) c (fin tab Tryz.f158 (s k)) 0 (L0 l0) x := by kernel_rfl
theorem sound : ∀ k, Sound Tryz.prog 158 (s k) := snd S (fun k => (s k).pf) E (fun k => (EntsOK.cons (U124.sound k) EntsOK.nil)) (fun k => L (l0 k)) (fun k => ⟨⟨(L0 (l0 (k + 1))).l, rfl, fun x => r0 (l0 k) k x⟩, trivial⟩) eq
end U125
namespace U126
abbrev R := (((Bool × Unit) × Unit) × Unit)
def f (k : Nat) (a0 : List tInstD) (a1 : List tFuncD) (a2 : tFuncD) : Option R := Option.bind (U125.f k a0 a1 a2) fun r1 => some (((decide (0 ≤ r1.1.1.1), ()), ()), ())
abbrev S : ShapeParts := ⟨[⟨false, [.lst tInst]⟩, ⟨false, [.fn 136 [(0, 0), (1, 0)]]⟩], [(0, .cbox [.lst tFunc]), (1, .cbox [.lst (.int .i64), .int .i64, .lst tBlock])], false, [⟨false, [.bool]⟩], [], []⟩
def s (k : Nat) : FS := S.fs fun x => f k x.1.1.1 x.2.1.1 x.2.2.1
def E (k : Nat) : Ents := [(⟨158, [136]⟩, U125.s k)]
def L : List (LS R) := []
def c : Code := Tryz.f135.body.getD .skip
theorem eq (k : Nat) (x) : (s k).pf x = execF tab (E k) Tryz.f135 c (s k) L x := by kernel_rfl
theorem sound : ∀ k, Sound Tryz.prog 135 (s k) := snd S (fun k => (s k).pf) E (fun k => (EntsOK.cons (U125.sound k) EntsOK.nil)) (fun k => L) (fun k => trivial) eq
end U126
namespace U127
abbrev R := (((Unit × Unit) × Unit) × ((List Bool) × Unit))
abbrev T0 : Type := Int → tFuncD → (List Bool) → (List Int) → Option R
def l0_ (k : Nat) (l0 : T0) (a0 : Int) (a1 : tFuncD) (a2 : List Bool) (a3 : List Int) : Option R := bif decide (0 < ((List.length a3 : Nat) : Int)) then (bif (decide (0 ≤ 0)) && (decide (0 < ((List.length a3 : Nat) : Int))) then (bif (decide (0 ≤ 1)) && (decide (1 ≤ ((List.length a3 : Nat) : Int))) then (bif decide (List.getD a3 0 0 = a0) then (l0 a0 a1 a2 (List.drop 1 a3)) else (bif (decide (0 ≤ List.getD a3 0 0)) && (decide (List.getD a3 0 0 < ((List.length a2 : Nat) : Int))) then (bif List.getD a2 (Int.toNat (List.getD a3 0 0)) false then (l0 a0 a1 a2 (List.drop 1 a3)) else (bif (decide (0 ≤ List.getD a3 0 0)) && (decide (List.getD a3 0 0 < ((List.length a2 : Nat) : Int))) then (bif (decide (0 ≤ List.getD a3 0 0)) && (decide (List.getD a3 0 0 < ((List.length a1.2.2.1 : Nat) : Int))) then (Option.bind (U99.f k ((List.getD a1.2.2.1 (Int.toNat (List.getD a3 0 0)) tBlockZ).2.2)) fun r1 => bif decide ((List.length (List.drop 1 a3) + List.length r1.2.1) * 8 ≤ 140737488355328) then (l0 a0 a1 (List.set a2 (Int.toNat (List.getD a3 0 0)) true) ((List.drop 1 a3) ++ r1.2.1)) else none) else none) else none)) else none)) else none) else none) else (some ((((), ()), ()), (a2, ())))
def all : Nat → (T0) × Unit
 | 0 => (fun _ _ _ _ => none, ())
 | k + 1 => (l0_ k (all k).1, ())
def l0 (k : Nat) : T0 := (all k).1
def f (k : Nat) (a0 : tFuncD) (a1 : Int) : Option R := bif (decide (((List.length a0.2.2.1 : Nat) : Int) = ((List.length a0.2.2.1 : Nat) : Int))) && (decide (0 ≤ ((List.length a0.2.2.1 : Nat) : Int))) && (decide (((List.length a0.2.2.1 : Nat) : Int) * 1 ≤ 281474976710656)) then (l0 k a1 a0 (List.replicate (Int.toNat ((List.length a0.2.2.1 : Nat) : Int)) false) [0]) else none
abbrev S : ShapeParts := ⟨[⟨true, [.lst (.int .i64), .int .i64, .lst tBlock]⟩, ⟨false, [.int .i64]⟩], [], false, [⟨false, [.own 100]⟩], [(100, .row true .bool)], []⟩
def s (k : Nat) : FS := S.fs fun x => f k x.1.1 x.1.2.1.1
def E (k : Nat) : Ents := [(⟨70, []⟩, U99.s k)]
def L0 (l : T0) : LS R := ⟨[], [(1, ⟨false, [.int .i64]⟩), (2, ⟨false, [.ptr 100000 0]⟩), (5, ⟨false, [.own 100001]⟩), (6, ⟨false, [.own 100002]⟩)], [(100000, .box [.lst (.int .i64), .int .i64, .lst tBlock]), (100001, .row true .bool), (100002, .row true (.int .i64))], fun x => l x.1.1.1 x.2.1 x.2.2.1 x.2.2.2.1⟩
def L (l0 : T0) : List (LS R) := [L0 l0]
def c : Code := Tryz.f35.body.getD .skip
theorem eq (k : Nat) (x) : (s k).pf x = execF tab (E k) Tryz.f35 c (s k) (L (l0 k)) x := by kernel_rfl
theorem r0 (l0 : T0) (k : Nat) (x) : (L0 (l0_ k l0)).l x = roundOf tab (E k) (L l0) c (fin tab Tryz.f35 (s k)) 0 (L0 l0) x := by kernel_rfl
theorem sound : ∀ k, Sound Tryz.prog 35 (s k) := snd S (fun k => (s k).pf) E (fun k => (EntsOK.cons (U99.sound k) EntsOK.nil)) (fun k => L (l0 k)) (fun k => ⟨⟨(L0 (l0 (k + 1))).l, rfl, fun x => r0 (l0 k) k x⟩, trivial⟩) eq
end U127
namespace U128
abbrev R := (((Int × Unit) × Unit) × Unit)
abbrev T0 : Type := Int → (List tBlockD) → Int → Int → Option R
def l0_ (k : Nat) (l0 : T0) (a0 : Int) (a1 : List tBlockD) (a2 : Int) (a3 : Int) : Option R := bif decide (a3 < a2) then (bif (decide (0 ≤ a3)) && (decide (a3 < ((List.length a1 : Nat) : Int))) then (l0 (IntKind.wrap .i64 (a0 + (IntKind.wrap .i64 (((List.length ((List.getD a1 (Int.toNat a3) tBlockZ).1) : Nat) : Int) + ((List.length ((List.getD a1 (Int.toNat a3) tBlockZ).2.1) : Nat) : Int))))) a1 a2 (IntKind.wrap .i64 (a3 + 1))) else none) else (some (((a0, ()), ()), ()))
def all : Nat → (T0) × Unit
 | 0 => (fun _ _ _ _ => none, ())
 | k + 1 => (l0_ k (all k).1, ())
def l0 (k : Nat) : T0 := (all k).1
def f (k : Nat) (a0 : tFuncD) (a1 : Int) : Option R := bif (decide (0 ≤ 0)) && (decide (0 ≤ a1)) && (decide (a1 ≤ ((List.length a0.2.2.1 : Nat) : Int))) then (l0 k ((List.length a0.1 : Nat) : Int) (List.take (Int.toNat a1) a0.2.2.1) ((List.length (List.take (Int.toNat a1) a0.2.2.1) : Nat) : Int) 0) else none
abbrev S : ShapeParts := ⟨[⟨true, [.lst (.int .i64), .int .i64, .lst tBlock]⟩, ⟨false, [.int .i64]⟩], [], false, [⟨false, [.int .i64]⟩], [], []⟩
def s (k : Nat) : FS := S.fs fun x => f k x.1.1 x.1.2.1.1
def E (k : Nat) : Ents := []
def L0 (l : T0) : LS R := ⟨[], [(5, ⟨false, [.int .i64]⟩), (14, ⟨false, [.lst tBlock]⟩), (15, ⟨false, [.int .i64]⟩), (16, ⟨false, [.int .i64]⟩)], [], fun x => l x.1.1.1 x.1.2.1.1 x.1.2.2.1.1 x.1.2.2.2.1.1⟩
def L (l0 : T0) : List (LS R) := [L0 l0]
def c : Code := Tryz.f36.body.getD .skip
theorem eq (k : Nat) (x) : (s k).pf x = execF tab (E k) Tryz.f36 c (s k) (L (l0 k)) x := by kernel_rfl
theorem r0 (l0 : T0) (k : Nat) (x) : (L0 (l0_ k l0)).l x = roundOf tab (E k) (L l0) c (fin tab Tryz.f36 (s k)) 0 (L0 l0) x := by kernel_rfl
theorem sound : ∀ k, Sound Tryz.prog 36 (s k) := snd S (fun k => (s k).pf) E (fun k => EntsOK.nil) (fun k => L (l0 k)) (fun k => ⟨⟨(L0 (l0 (k + 1))).l, rfl, fun x => r0 (l0 k) k x⟩, trivial⟩) eq
end U128
namespace U129
abbrev R := (((Bool × Unit) × Unit) × Unit)
def f (k : Nat) (a0 : tFuncD) (a1 : Int) (a2 : Int) : Option R := Option.bind (U127.f k a0 (-1)) fun r1 => bif (decide (0 ≤ a2)) && (decide (a2 < ((List.length r1.2.1 : Nat) : Int))) then (bif List.getD r1.2.1 (Int.toNat a2) false then (Option.bind (U127.f k a0 a1) fun r2 => bif (decide (0 ≤ a2)) && (decide (a2 < ((List.length r2.2.1 : Nat) : Int))) then (some (((!(List.getD r2.2.1 (Int.toNat a2) false), ()), ()), ())) else none) else (some (((false, ()), ()), ()))) else none
abbrev S : ShapeParts := ⟨[⟨true, [.lst (.int .i64), .int .i64, .lst tBlock]⟩, ⟨false, [.int .i64]⟩, ⟨false, [.int .i64]⟩], [], false, [⟨false, [.bool]⟩], [], []⟩
def s (k : Nat) : FS := S.fs fun x => f k x.1.1 x.1.2.1.1 x.1.2.2.1.1
def E (k : Nat) : Ents := [(⟨35, []⟩, U127.s k)]
def L : List (LS R) := []
def c : Code := Tryz.f102.body.getD .skip
theorem eq (k : Nat) (x) : (s k).pf x = execF tab (E k) Tryz.f102 c (s k) L x := by kernel_rfl
theorem sound : ∀ k, Sound Tryz.prog 102 (s k) := snd S (fun k => (s k).pf) E (fun k => (EntsOK.cons (U127.sound k) EntsOK.nil)) (fun k => L) (fun k => trivial) eq
end U129
namespace U130
abbrev R := (((Bool × Unit) × Unit) × Unit)
def f (k : Nat) (a0 : tFuncD) (a1 : Int) (a2 : Int) (a3 : Int) : Option R := Option.bind (U109.f k a0 a1) fun r1 => bif decide (r1.1.1.1 = -1) then (some (((true, ()), ()), ())) else (bif decide (r1.1.1.1 = a2) then (some (((decide (a1 < a3), ()), ()), ())) else (Option.bind (U129.f k a0 r1.1.1.1 a2) fun r2 => some (((r2.1.1.1, ()), ()), ())))
abbrev S : ShapeParts := ⟨[⟨true, [.lst (.int .i64), .int .i64, .lst tBlock]⟩, ⟨false, [.int .i64]⟩, ⟨false, [.int .i64]⟩, ⟨false, [.int .i64]⟩], [], false, [⟨false, [.bool]⟩], [], []⟩
def s (k : Nat) : FS := S.fs fun x => f k x.1.1 x.1.2.1.1 x.1.2.2.1.1 x.1.2.2.2.1.1
def E (k : Nat) : Ents := [(⟨96, []⟩, U109.s k), (⟨102, []⟩, U129.s k)]
def L : List (LS R) := []
def c : Code := Tryz.f75.body.getD .skip
theorem eq (k : Nat) (x) : (s k).pf x = execF tab (E k) Tryz.f75 c (s k) L x := by kernel_rfl
theorem sound : ∀ k, Sound Tryz.prog 75 (s k) := snd S (fun k => (s k).pf) E (fun k => (EntsOK.cons (U109.sound k) (EntsOK.cons (U129.sound k) EntsOK.nil))) (fun k => L) (fun k => trivial) eq
end U130
namespace U131
abbrev R := (((Bool × Unit) × Unit) × Unit)
def f (k : Nat) (a0 : Int) (a1 : tFuncD) (a2 : Int) (a3 : Int) (a4 : Int) : Option R := Option.bind (U130.f k a1 a0 a2 (IntKind.wrap .i64 (a3 + a4))) fun r1 => some (((!r1.1.1.1, ()), ()), ())
abbrev S : ShapeParts := ⟨[⟨false, [.int .i64]⟩, ⟨false, [.ptr 0 0]⟩, ⟨false, [.ptr 1 0]⟩, ⟨false, [.ptr 2 0]⟩, ⟨false, [.ptr 3 0]⟩], [(0, .cbox [.lst (.int .i64), .int .i64, .lst tBlock]), (1, .cbox [.int .i64]), (2, .cbox [.int .i64]), (3, .cbox [.int .i64])], false, [⟨false, [.bool]⟩], [], []⟩
def s (k : Nat) : FS := S.fs fun x => f k x.1.1.1 x.2.1 x.2.2.1.1 x.2.2.2.1.1 x.2.2.2.2.1.1
def E (k : Nat) : Ents := [(⟨75, []⟩, U130.s k)]
def L : List (LS R) := []
def c : Code := Tryz.f159.body.getD .skip
theorem eq (k : Nat) (x) : (s k).pf x = execF tab (E k) Tryz.f159 c (s k) L x := by kernel_rfl
theorem sound : ∀ k, Sound Tryz.prog 159 (s k) := snd S (fun k => (s k).pf) E (fun k => (EntsOK.cons (U130.sound k) EntsOK.nil)) (fun k => L) (fun k => trivial) eq
end U131
namespace U132
abbrev R := (((Int × Unit) × Unit) × Unit)
abbrev T0 : Type := (List Int) → Int → Int → tFuncD → Int → Int → Int → Option R
def l0_ (k : Nat) (l0 : T0) (a0 : List Int) (a1 : Int) (a2 : Int) (a3 : tFuncD) (a4 : Int) (a5 : Int) (a6 : Int) : Option R := bif decide (a2 < a1) then (bif (decide (0 ≤ a2)) && (decide (a2 < ((List.length a0 : Nat) : Int))) then (Option.bind (U131.f k (List.getD a0 (Int.toNat a2) 0) a3 a4 a5 a6) fun r1 => bif r1.1.1.1 then (some (((a2, ()), ()), ())) else (l0 a0 a1 (IntKind.wrap .i64 (a2 + 1)) a3 a4 a5 a6)) else none) else (some (((-1, ()), ()), ()))
def all : Nat → (T0) × Unit
 | 0 => (fun _ _ _ _ _ _ _ => none, ())
 | k + 1 => (l0_ k (all k).1, ())
def l0 (k : Nat) : T0 := (all k).1
def f (k : Nat) (a0 : List Int) (a1 : tFuncD) (a2 : Int) (a3 : Int) (a4 : Int) : Option R := l0 k a0 ((List.length a0 : Nat) : Int) 0 a1 a2 a3 a4
abbrev S : ShapeParts := ⟨[⟨false, [.lst (.int .i64)]⟩, ⟨false, [.fn 159 [(0, 0), (1, 0), (2, 0), (3, 0)]]⟩], [(0, .cbox [.lst (.int .i64), .int .i64, .lst tBlock]), (1, .cbox [.int .i64]), (2, .cbox [.int .i64]), (3, .cbox [.int .i64])], false, [⟨false, [.int .i64]⟩], [], []⟩
def s (k : Nat) : FS := S.fs fun x => f k x.1.1.1 x.2.1 x.2.2.1.1 x.2.2.2.1.1 x.2.2.2.2.1.1
def E (k : Nat) : Ents := [(⟨159, []⟩, U131.s k)]
def L0 (l : T0) : LS R := ⟨[], [(0, ⟨false, [.lst (.int .i64)]⟩), (1, ⟨false, [.fn 159 [(0, 0), (1, 0), (2, 0), (3, 0)]]⟩), (7, ⟨false, [.int .i64]⟩), (8, ⟨false, [.int .i64]⟩)], [(0, .cbox [.lst (.int .i64), .int .i64, .lst tBlock]), (1, .cbox [.int .i64]), (2, .cbox [.int .i64]), (3, .cbox [.int .i64])], fun x => l x.1.1.1 x.1.2.2.1.1 x.1.2.2.2.1.1 x.2.1 x.2.2.1.1 x.2.2.2.1.1 x.2.2.2.2.1.1⟩
def L (l0 : T0) : List (LS R) := [L0 l0]
def c : Code := Tryz.f167.body.getD .skip
theorem eq (k : Nat) (x) : (s k).pf x = execF tab (E k) Tryz.f167 c (s k) (L (l0 k)) x := by kernel_rfl
theorem r0 (l0 : T0) (k : Nat) (x) : (L0 (l0_ k l0)).l x = roundOf tab (E k) (L l0) c (fin tab Tryz.f167 (s k)) 0 (L0 l0) x := by kernel_rfl
theorem sound : ∀ k, Sound Tryz.prog 167 (s k) := snd S (fun k => (s k).pf) E (fun k => (EntsOK.cons (U131.sound k) EntsOK.nil)) (fun k => L (l0 k)) (fun k => ⟨⟨(L0 (l0 (k + 1))).l, rfl, fun x => r0 (l0 k) k x⟩, trivial⟩) eq
end U132
namespace U133
abbrev R := (((Bool × Unit) × Unit) × Unit)
def f (k : Nat) (a0 : List Int) (a1 : tFuncD) (a2 : Int) (a3 : Int) (a4 : Int) : Option R := Option.bind (U132.f k a0 a1 a2 a3 a4) fun r1 => some (((decide (0 ≤ r1.1.1.1), ()), ()), ())
abbrev S : ShapeParts := ⟨[⟨false, [.lst (.int .i64)]⟩, ⟨false, [.fn 159 [(0, 0), (1, 0), (2, 0), (3, 0)]]⟩], [(0, .cbox [.lst (.int .i64), .int .i64, .lst tBlock]), (1, .cbox [.int .i64]), (2, .cbox [.int .i64]), (3, .cbox [.int .i64])], false, [⟨false, [.bool]⟩], [], []⟩
def s (k : Nat) : FS := S.fs fun x => f k x.1.1.1 x.2.1 x.2.2.1.1 x.2.2.2.1.1 x.2.2.2.2.1.1
def E (k : Nat) : Ents := [(⟨167, [159]⟩, U132.s k)]
def L : List (LS R) := []
def c : Code := Tryz.f144.body.getD .skip
theorem eq (k : Nat) (x) : (s k).pf x = execF tab (E k) Tryz.f144 c (s k) L x := by kernel_rfl
theorem sound : ∀ k, Sound Tryz.prog 144 (s k) := snd S (fun k => (s k).pf) E (fun k => (EntsOK.cons (U132.sound k) EntsOK.nil)) (fun k => L) (fun k => trivial) eq
end U133
namespace U134
abbrev R := (((Bool × Unit) × Unit) × Unit)
abbrev T0 : Type := (List Bool) → (List tPhiD) → Int → Int → tFuncD → Int → tBlockD → (List Int) → Option R
abbrev T1 : Type := (List Bool) → (List tPhiD) → Int → Int → (List Int) → Int → Int → tFuncD → Int → tBlockD → (List Int) → Option R
abbrev T2 : Type := (List tInstD) → Int → Int → tFuncD → Int → tBlockD → Int → Option R
def l0_ (k : Nat) (l0 : T0) (l1 : T1) (l2 : T2) (a0 : List Bool) (a1 : List tPhiD) (a2 : Int) (a3 : Int) (a4 : tFuncD) (a5 : Int) (a6 : tBlockD) (a7 : List Int) : Option R := bif decide (a3 < a2) then (bif (decide (0 ≤ a3)) && (decide (a3 < ((List.length a1 : Nat) : Int))) then (l1 a0 a1 a2 a3 ((List.getD a1 (Int.toNat a3) tPhiZ).2.1) ((List.length ((List.getD a1 (Int.toNat a3) tPhiZ).2.1) : Nat) : Int) 0 a4 a5 a6 a7) else none) else (Option.bind (U128.f k a4 a5) fun r1 => l2 a6.2.1 ((List.length a6.2.1 : Nat) : Int) 0 a4 a5 a6 (IntKind.wrap .i64 (r1.1.1.1 + ((List.length a6.1 : Nat) : Int))))
def l1_ (k : Nat) (l0 : T0) (l1 : T1) (l2 : T2) (a0 : List Bool) (a1 : List tPhiD) (a2 : Int) (a3 : Int) (a4 : List Int) (a5 : Int) (a6 : Int) (a7 : tFuncD) (a8 : Int) (a9 : tBlockD) (a10 : List Int) : Option R := bif decide (a6 < a5) then (bif (decide (0 ≤ a6)) && (decide (a6 < ((List.length a4 : Nat) : Int))) then (bif (decide (0 ≤ a6)) && (decide (a6 < ((List.length a10 : Nat) : Int))) then (bif (decide (0 ≤ List.getD a10 (Int.toNat a6) 0)) && (decide (List.getD a10 (Int.toNat a6) 0 < ((List.length a0 : Nat) : Int))) then (bif List.getD a0 (Int.toNat (List.getD a10 (Int.toNat a6) 0)) false then (bif (decide (0 ≤ a6)) && (decide (a6 < ((List.length a10 : Nat) : Int))) then (Option.bind (U68.f k a7) fun r1 => Option.bind (U130.f k a7 (List.getD a4 (Int.toNat a6) 0) (List.getD a10 (Int.toNat a6) 0) r1.1.1.1) fun r2 => bif !r2.1.1.1 then (some (((false, ()), ()), ())) else (l1 a0 a1 a2 a3 a4 a5 (IntKind.wrap .i64 (a6 + 1)) a7 a8 a9 a10)) else none) else (l1 a0 a1 a2 a3 a4 a5 (IntKind.wrap .i64 (a6 + 1)) a7 a8 a9 a10)) else none) else none) else none) else (l0 a0 a1 a2 (IntKind.wrap .i64 (a3 + 1)) a7 a8 a9 a10)
def l2_ (k : Nat) (l0 : T0) (l1 : T1) (l2 : T2) (a0 : List tInstD) (a1 : Int) (a2 : Int) (a3 : tFuncD) (a4 : Int) (a5 : tBlockD) (a6 : Int) : Option R := bif decide (a2 < a1) then (bif (decide (0 ≤ a2)) && (decide (a2 < ((List.length a0 : Nat) : Int))) then (Option.bind (U77.f k (List.getD a0 (Int.toNat a2) tInstZ)) fun r1 => Option.bind (U133.f k r1.2.1 a3 a4 a6 a2) fun r2 => bif r2.1.1.1 then (some (((false, ()), ()), ())) else (l2 a0 a1 (IntKind.wrap .i64 (a2 + 1)) a3 a4 a5 a6)) else none) else (bif decide (a5.2.2.1 = 1) then (Option.bind (U68.f k a3) fun r3 => Option.bind (U130.f k a3 a5.2.2.2.1 a4 r3.1.1.1) fun r4 => some (((r4.1.1.1, ()), ()), ())) else (bif !(decide (a5.2.2.1 = 3)) then (some (((true, ()), ()), ())) else (Option.bind (U68.f k a3) fun r5 => Option.bind (U130.f k a3 a5.2.2.2.1 a4 r5.1.1.1) fun r6 => some (((r6.1.1.1, ()), ()), ()))))
def all : Nat → (T0) × (T1) × (T2) × Unit
 | 0 => (fun _ _ _ _ _ _ _ _ => none, fun _ _ _ _ _ _ _ _ _ _ _ => none, fun _ _ _ _ _ _ _ => none, ())
 | k + 1 => (l0_ k (all k).1 (all k).2.1 (all k).2.2.1, l1_ k (all k).1 (all k).2.1 (all k).2.2.1, l2_ k (all k).1 (all k).2.1 (all k).2.2.1, ())
def l0 (k : Nat) : T0 := (all k).1
def l1 (k : Nat) : T1 := (all k).2.1
def l2 (k : Nat) : T2 := (all k).2.2.1
def f (k : Nat) (a0 : tFuncD) (a1 : Int) (a2 : List Bool) : Option R := bif (decide (0 ≤ a1)) && (decide (a1 < ((List.length a0.2.2.1 : Nat) : Int))) then (Option.bind (U102.f k a0 a1) fun r1 => l0 k a2 ((List.getD a0.2.2.1 (Int.toNat a1) tBlockZ).1) ((List.length ((List.getD a0.2.2.1 (Int.toNat a1) tBlockZ).1) : Nat) : Int) 0 a0 a1 (List.getD a0.2.2.1 (Int.toNat a1) tBlockZ) r1.2.1) else none
abbrev S : ShapeParts := ⟨[⟨true, [.lst (.int .i64), .int .i64, .lst tBlock]⟩, ⟨false, [.int .i64]⟩, ⟨false, [.lst .bool]⟩], [], false, [⟨false, [.bool]⟩], [], []⟩
def s (k : Nat) : FS := S.fs fun x => f k x.1.1 x.1.2.1.1 x.1.2.2.1.1
def E (k : Nat) : Ents := [(⟨152, []⟩, U102.s k), (⟨36, []⟩, U128.s k), (⟨74, []⟩, U68.s k), (⟨75, []⟩, U130.s k), (⟨101, []⟩, U77.s k), (⟨144, [159]⟩, U133.s k)]
def L0 (l : T0) : LS R := ⟨[], [(2, ⟨false, [.lst .bool]⟩), (3, ⟨false, [.ptr 100000 0]⟩), (4, ⟨false, [.ptr 100001 0]⟩), (7, ⟨false, [.ptr 100002 0]⟩), (8, ⟨false, [.own 100003]⟩), (26, ⟨false, [.lst tPhi]⟩), (27, ⟨false, [.int .i64]⟩), (28, ⟨false, [.int .i64]⟩)], [(100000, .box [.lst (.int .i64), .int .i64, .lst tBlock]), (100001, .box [.int .i64]), (100002, .box [.lst tPhi, .lst tInst, .int .i64, .int .i64, .int .i64, .int .i64]), (100003, .row true (.int .i64))], fun x => l x.1.1.1 x.1.2.2.2.2.2.1.1 x.1.2.2.2.2.2.2.1.1 x.1.2.2.2.2.2.2.2.1.1 x.2.1 x.2.2.1.1 x.2.2.2.1 x.2.2.2.2.1⟩
def L1 (l : T1) : LS R := ⟨[], [(2, ⟨false, [.lst .bool]⟩), (3, ⟨false, [.ptr 100000 0]⟩), (4, ⟨false, [.ptr 100001 0]⟩), (7, ⟨false, [.ptr 100002 0]⟩), (8, ⟨false, [.own 100003]⟩), (26, ⟨false, [.lst tPhi]⟩), (27, ⟨false, [.int .i64]⟩), (28, ⟨false, [.int .i64]⟩), (33, ⟨false, [.lst (.int .i64)]⟩), (34, ⟨false, [.int .i64]⟩), (35, ⟨false, [.int .i64]⟩)], [(100000, .box [.lst (.int .i64), .int .i64, .lst tBlock]), (100001, .box [.int .i64]), (100002, .box [.lst tPhi, .lst tInst, .int .i64, .int .i64, .int .i64, .int .i64]), (100003, .row true (.int .i64))], fun x => l x.1.1.1 x.1.2.2.2.2.2.1.1 x.1.2.2.2.2.2.2.1.1 x.1.2.2.2.2.2.2.2.1.1 x.1.2.2.2.2.2.2.2.2.1.1 x.1.2.2.2.2.2.2.2.2.2.1.1 x.1.2.2.2.2.2.2.2.2.2.2.1.1 x.2.1 x.2.2.1.1 x.2.2.2.1 x.2.2.2.2.1⟩
def L2 (l : T2) : LS R := ⟨[], [(3, ⟨false, [.ptr 100000 0]⟩), (4, ⟨false, [.ptr 100001 0]⟩), (7, ⟨false, [.ptr 100002 0]⟩), (13, ⟨false, [.ptr 100003 0]⟩), (69, ⟨false, [.lst tInst]⟩), (70, ⟨false, [.int .i64]⟩), (71, ⟨false, [.int .i64]⟩)], [(100000, .box [.lst (.int .i64), .int .i64, .lst tBlock]), (100001, .box [.int .i64]), (100002, .box [.lst tPhi, .lst tInst, .int .i64, .int .i64, .int .i64, .int .i64]), (100003, .box [.int .i64])], fun x => l x.1.2.2.2.2.1.1 x.1.2.2.2.2.2.1.1 x.1.2.2.2.2.2.2.1.1 x.2.1 x.2.2.1.1 x.2.2.2.1 x.2.2.2.2.1.1⟩
def L (l0 : T0) (l1 : T1) (l2 : T2) : List (LS R) := [L0 l0, L1 l1, L2 l2]
def c : Code := Tryz.f138.body.getD .skip
theorem eq (k : Nat) (x) : (s k).pf x = execF tab (E k) Tryz.f138 c (s k) (L (l0 k) (l1 k) (l2 k)) x := by kernel_rfl
theorem r0 (l0 : T0) (l1 : T1) (l2 : T2) (k : Nat) (x) : (L0 (l0_ k l0 l1 l2)).l x = roundOf tab (E k) (L l0 l1 l2) c (fin tab Tryz.f138 (s k)) 0 (L0 l0) x := by kernel_rfl
theorem r1 (l0 : T0) (l1 : T1) (l2 : T2) (k : Nat) (x) : (L1 (l1_ k l0 l1 l2)).l x = roundOf tab (E k) (L l0 l1 l2) c (fin tab Tryz.f138 (s k)) 1 (L1 l1) x := by kernel_rfl
theorem r2 (l0 : T0) (l1 : T1) (l2 : T2) (k : Nat) (x) : (L2 (l2_ k l0 l1 l2)).l x = roundOf tab (E k) (L l0 l1 l2) c (fin tab Tryz.f138 (s k)) 2 (L2 l2) x := by kernel_rfl
theorem sound : ∀ k, Sound Tryz.prog 138 (s k) := snd S (fun k => (s k).pf) E (fun k => (EntsOK.cons (U102.sound k) (EntsOK.cons (U128.sound k) (EntsOK.cons (U68.sound k) (EntsOK.cons (U130.sound k) (EntsOK.cons (U77.sound k) (EntsOK.cons (U133.sound k) EntsOK.nil))))))) (fun k => L (l0 k) (l1 k) (l2 k)) (fun k => ⟨⟨(L0 (l0 (k + 1))).l, rfl, fun x => r0 (l0 k) (l1 k) (l2 k) k x⟩, ⟨(L1 (l1 (k + 1))).l, rfl, fun x => r1 (l0 k) (l1 k) (l2 k) k x⟩, ⟨(L2 (l2 (k + 1))).l, rfl, fun x => r2 (l0 k) (l1 k) (l2 k) k x⟩, trivial⟩) eq
end U134
namespace U135
abbrev R := (((Int × Unit) × Unit) × Unit)
abbrev T0 : Type := (List tBlockD) → Int → Int → (List tFuncD) → tFuncD → Option R
abbrev T1 : Type := Int → Int → tFuncD → (List Bool) → Option R
def l0_ (k : Nat) (l0 : T0) (l1 : T1) (a0 : List tBlockD) (a1 : Int) (a2 : Int) (a3 : List tFuncD) (a4 : tFuncD) : Option R := bif decide (a2 < a1) then (bif (decide (0 ≤ a2)) && (decide (a2 < ((List.length a0 : Nat) : Int))) then (Option.bind (U126.f k ((List.getD a0 (Int.toNat a2) tBlockZ).2.1) a3 a4) fun r1 => bif r1.1.1.1 then (some (((5, ()), ()), ())) else (l0 a0 a1 (IntKind.wrap .i64 (a2 + 1)) a3 a4)) else none) else (Option.bind (U127.f k a4 (-1)) fun r2 => l1 ((List.length r2.2.1 : Nat) : Int) 0 a4 r2.2.1)
def l1_ (k : Nat) (l0 : T0) (l1 : T1) (a0 : Int) (a1 : Int) (a2 : tFuncD) (a3 : List Bool) : Option R := bif decide (a1 < a0) then (bif (decide (0 ≤ a1)) && (decide (a1 < ((List.length a3 : Nat) : Int))) then (bif List.getD a3 (Int.toNat a1) false then (Option.bind (U134.f k a2 a1 a3) fun r1 => bif !r1.1.1.1 then (some (((6, ()), ()), ())) else (l1 a0 (IntKind.wrap .i64 (a1 + 1)) a2 a3)) else (l1 a0 (IntKind.wrap .i64 (a1 + 1)) a2 a3)) else none) else (some (((0, ()), ()), ()))
def all : Nat → (T0) × (T1) × Unit
 | 0 => (fun _ _ _ _ _ => none, fun _ _ _ _ => none, ())
 | k + 1 => (l0_ k (all k).1 (all k).2.1, l1_ k (all k).1 (all k).2.1, ())
def l0 (k : Nat) : T0 := (all k).1
def l1 (k : Nat) : T1 := (all k).2.1
def f (k : Nat) (a0 : tModuleD) (a1 : tFuncD) : Option R := Option.bind (U103.f k a1) fun r1 => bif !r1.1.1.1 then (some (((2, ()), ()), ())) else (Option.bind (U107.f k a1) fun r2 => bif !r2.1.1.1 then (some (((3, ()), ()), ())) else (Option.bind (U122.f k a1) fun r3 => bif !r3.1.1.1 then (some (((4, ()), ()), ())) else (l0 k a1.2.2.1 ((List.length a1.2.2.1 : Nat) : Int) 0 a0.1 a1)))
abbrev S : ShapeParts := ⟨[⟨true, [.lst tFunc]⟩, ⟨true, [.lst (.int .i64), .int .i64, .lst tBlock]⟩], [], false, [⟨false, [.int .i64]⟩], [], []⟩
def s (k : Nat) : FS := S.fs fun x => f k x.1.1 x.1.2.1
def E (k : Nat) : Ents := [(⟨132, []⟩, U103.s k), (⟨133, []⟩, U107.s k), (⟨134, []⟩, U122.s k), (⟨135, [136]⟩, U126.s k), (⟨35, []⟩, U127.s k), (⟨138, []⟩, U134.s k)]
def L0 (l : T0) : LS R := ⟨[], [(2, ⟨false, [.ptr 100000 0]⟩), (3, ⟨false, [.ptr 100001 0]⟩), (23, ⟨false, [.lst tBlock]⟩), (24, ⟨false, [.int .i64]⟩), (25, ⟨false, [.int .i64]⟩)], [(100000, .box [.lst tFunc]), (100001, .box [.lst (.int .i64), .int .i64, .lst tBlock])], fun x => l x.1.2.2.1.1 x.1.2.2.2.1.1 x.1.2.2.2.2.1.1 x.2.1.1 x.2.2.1⟩
def L1 (l : T1) : LS R := ⟨[], [(3, ⟨false, [.ptr 100000 0]⟩), (7, ⟨false, [.own 100001]⟩), (36, ⟨false, [.own 100001]⟩), (37, ⟨false, [.int .i64]⟩), (38, ⟨false, [.int .i64]⟩)], [(100000, .box [.lst (.int .i64), .int .i64, .lst tBlock]), (100001, .row true .bool)], fun x => l x.1.2.2.2.1.1 x.1.2.2.2.2.1.1 x.2.1 x.2.2.1⟩
def L (l0 : T0) (l1 : T1) : List (LS R) := [L0 l0, L1 l1]
def c : Code := Tryz.f113.body.getD .skip
theorem eq (k : Nat) (x) : (s k).pf x = execF tab (E k) Tryz.f113 c (s k) (L (l0 k) (l1 k)) x := by kernel_rfl
theorem r0 (l0 : T0) (l1 : T1) (k : Nat) (x) : (L0 (l0_ k l0 l1)).l x = roundOf tab (E k) (L l0 l1) c (fin tab Tryz.f113 (s k)) 0 (L0 l0) x := by kernel_rfl
theorem r1 (l0 : T0) (l1 : T1) (k : Nat) (x) : (L1 (l1_ k l0 l1)).l x = roundOf tab (E k) (L l0 l1) c (fin tab Tryz.f113 (s k)) 1 (L1 l1) x := by kernel_rfl
theorem sound : ∀ k, Sound Tryz.prog 113 (s k) := snd S (fun k => (s k).pf) E (fun k => (EntsOK.cons (U103.sound k) (EntsOK.cons (U107.sound k) (EntsOK.cons (U122.sound k) (EntsOK.cons (U126.sound k) (EntsOK.cons (U127.sound k) (EntsOK.cons (U134.sound k) EntsOK.nil))))))) (fun k => L (l0 k) (l1 k)) (fun k => ⟨⟨(L0 (l0 (k + 1))).l, rfl, fun x => r0 (l0 k) (l1 k) k x⟩, ⟨(L1 (l1 (k + 1))).l, rfl, fun x => r1 (l0 k) (l1 k) k x⟩, trivial⟩) eq
end U135
namespace U136
abbrev R := (((Int × Unit) × Unit) × Unit)
abbrev T0 : Type := (List tFuncD) → Int → Int → (List tFuncD) → Option R
def l0_ (k : Nat) (l0 : T0) (a0 : List tFuncD) (a1 : Int) (a2 : Int) (a3 : List tFuncD) : Option R := bif decide (a2 < a1) then (bif (decide (0 ≤ a2)) && (decide (a2 < ((List.length a0 : Nat) : Int))) then (Option.bind (U135.f k (a3, ()) (List.getD a0 (Int.toNat a2) tFuncZ)) fun r1 => bif !decide (r1.1.1.1 = 0) then (some (((r1.1.1.1, ()), ()), ())) else (l0 a0 a1 (IntKind.wrap .i64 (a2 + 1)) a3)) else none) else (some (((0, ()), ()), ()))
def all : Nat → (T0) × Unit
 | 0 => (fun _ _ _ _ => none, ())
 | k + 1 => (l0_ k (all k).1, ())
def l0 (k : Nat) : T0 := (all k).1
def f (k : Nat) (a0 : tModuleD) : Option R := Option.bind (U98.f k (a0.1, ())) fun r1 => bif !r1.1.1.1 then (some (((1, ()), ()), ())) else (l0 k a0.1 ((List.length a0.1 : Nat) : Int) 0 a0.1)
abbrev S : ShapeParts := ⟨[⟨true, [.lst tFunc]⟩], [], false, [⟨false, [.int .i64]⟩], [], []⟩
def s (k : Nat) : FS := S.fs fun x => f k x.1.1
def E (k : Nat) : Ents := [(⟨112, []⟩, U98.s k), (⟨113, []⟩, U135.s k)]
def L0 (l : T0) : LS R := ⟨[], [(1, ⟨false, [.ptr 100000 0]⟩), (10, ⟨false, [.lst tFunc]⟩), (11, ⟨false, [.int .i64]⟩), (12, ⟨false, [.int .i64]⟩)], [(100000, .box [.lst tFunc])], fun x => l x.1.2.1.1 x.1.2.2.1.1 x.1.2.2.2.1.1 x.2.1.1⟩
def L (l0 : T0) : List (LS R) := [L0 l0]
def c : Code := Tryz.f94.body.getD .skip
theorem eq (k : Nat) (x) : (s k).pf x = execF tab (E k) Tryz.f94 c (s k) (L (l0 k)) x := by kernel_rfl
theorem r0 (l0 : T0) (k : Nat) (x) : (L0 (l0_ k l0)).l x = roundOf tab (E k) (L l0) c (fin tab Tryz.f94 (s k)) 0 (L0 l0) x := by kernel_rfl
theorem sound : ∀ k, Sound Tryz.prog 94 (s k) := snd S (fun k => (s k).pf) E (fun k => (EntsOK.cons (U98.sound k) (EntsOK.cons (U135.sound k) EntsOK.nil))) (fun k => L (l0 k)) (fun k => ⟨⟨(L0 (l0 (k + 1))).l, rfl, fun x => r0 (l0 k) k x⟩, trivial⟩) eq
end U136
namespace U137
abbrev R := (((Bool × Unit) × Unit) × Unit)
def f (k : Nat) (a0 : tModuleD) : Option R := Option.bind (U136.f k (a0.1, ())) fun r1 => some (((decide (r1.1.1.1 = 0), ()), ()), ())
abbrev S : ShapeParts := ⟨[⟨true, [.lst tFunc]⟩], [], false, [⟨false, [.bool]⟩], [], []⟩
def s (k : Nat) : FS := S.fs fun x => f k x.1.1
def E (k : Nat) : Ents := [(⟨94, []⟩, U136.s k)]
def L : List (LS R) := []
def c : Code := Tryz.f67.body.getD .skip
theorem eq (k : Nat) (x) : (s k).pf x = execF tab (E k) Tryz.f67 c (s k) L x := by kernel_rfl
theorem sound : ∀ k, Sound Tryz.prog 67 (s k) := snd S (fun k => (s k).pf) E (fun k => (EntsOK.cons (U136.sound k) EntsOK.nil)) (fun k => L) (fun k => trivial) eq
end U137
namespace U138
abbrev R := (((Int × Int × Int × Int × Int × Int × Unit × Unit) × Unit) × ((List Int) × Unit))
def f (k : Nat) (a0 : tInstD) : Option R := Option.bind (slices_Clone_int64_int64.f k a0.2.2.2.2.2.2.1) fun r1 => some (((a0.1, a0.2.1, a0.2.2.1, a0.2.2.2.1, a0.2.2.2.2.1, a0.2.2.2.2.2.1, (), ()), ()), (r1.2.1, ()))
abbrev S : ShapeParts := ⟨[⟨true, [.int .i64, .int .i64, .int .i64, .int .i64, .int .i64, .int .i64, .lst (.int .i64)]⟩], [], false, [⟨true, [.int .i64, .int .i64, .int .i64, .int .i64, .int .i64, .int .i64, .own 100]⟩], [(100, .row true (.int .i64))], []⟩
def s (k : Nat) : FS := S.fs fun x => f k x.1.1
def E (k : Nat) : Ents := [(⟨68, []⟩, slices_Clone_int64_int64.s k)]
def L : List (LS R) := []
def c : Code := Tryz.f95.body.getD .skip
theorem eq (k : Nat) (x) : (s k).pf x = execF tab (E k) Tryz.f95 c (s k) L x := by kernel_rfl
theorem sound : ∀ k, Sound Tryz.prog 95 (s k) := snd S (fun k => (s k).pf) E (fun k => (EntsOK.cons (slices_Clone_int64_int64.sound k) EntsOK.nil)) (fun k => L) (fun k => trivial) eq
end U138
namespace U139
abbrev R := (((Unit × Unit × Int × Int × Int × Int × Unit) × Unit) × ((List tPhiD) × (List tInstD) × Unit))
abbrev T0 : Type := (List tPhiD) → Int → Int → tBlockD → Int → Int → Int → Int → (List tPhiD) → (List tInstD) → Int → Int → Int → Int → (List tPhiD) → (List tInstD) → Option R
abbrev T1 : Type := (List tInstD) → Int → Int → Int → Int → Int → Int → (List tPhiD) → (List tInstD) → Int → Int → Int → Int → (List tPhiD) → (List tInstD) → Option R
def l0_ (k : Nat) (l0 : T0) (l1 : T1) (a0 : List tPhiD) (a1 : Int) (a2 : Int) (a3 : tBlockD) (a4 : Int) (a5 : Int) (a6 : Int) (a7 : Int) (a8 : List tPhiD) (a9 : List tInstD) (a10 : Int) (a11 : Int) (a12 : Int) (a13 : Int) (a14 : List tPhiD) (a15 : List tInstD) : Option R := bif decide (a2 < a1) then (bif (decide (0 ≤ a2)) && (decide (a2 < ((List.length a0 : Nat) : Int))) then (Option.bind (slices_Clone_int64_int64.f k ((List.getD a0 (Int.toNat a2) tPhiZ).2.1)) fun r1 => bif decide ((List.length a14 + List.length [(((List.getD a0 (Int.toNat a2) tPhiZ).1, r1.2.1, ()) : tPhiD)]) * 32 ≤ 140737488355328) then (l0 a0 a1 (IntKind.wrap .i64 (a2 + 1)) a3 a4 a5 a6 a7 a8 a9 a10 a11 a12 a13 (a14 ++ [(((List.getD a0 (Int.toNat a2) tPhiZ).1, r1.2.1, ()) : tPhiD)]) a15) else none) else none) else (l1 a3.2.1 ((List.length a3.2.1 : Nat) : Int) 0 a4 a5 a6 a7 a8 a9 a10 a11 a12 a13 a14 a15)
def l1_ (k : Nat) (l0 : T0) (l1 : T1) (a0 : List tInstD) (a1 : Int) (a2 : Int) (a3 : Int) (a4 : Int) (a5 : Int) (a6 : Int) (a7 : List tPhiD) (a8 : List tInstD) (a9 : Int) (a10 : Int) (a11 : Int) (a12 : Int) (a13 : List tPhiD) (a14 : List tInstD) : Option R := bif decide (a2 < a1) then (bif (decide (0 ≤ a2)) && (decide (a2 < ((List.length a0 : Nat) : Int))) then (Option.bind (U138.f k (List.getD a0 (Int.toNat a2) tInstZ)) fun r1 => bif decide ((List.length a14 + List.length [((r1.1.1.1, r1.1.1.2.1, r1.1.1.2.2.1, r1.1.1.2.2.2.1, r1.1.1.2.2.2.2.1, r1.1.1.2.2.2.2.2.1, r1.2.1, ()) : tInstD)]) * 72 ≤ 140737488355328) then (l1 a0 a1 (IntKind.wrap .i64 (a2 + 1)) a3 a4 a5 a6 a7 a8 a9 a10 a11 a12 a13 (a14 ++ [((r1.1.1.1, r1.1.1.2.1, r1.1.1.2.2.1, r1.1.1.2.2.2.1, r1.1.1.2.2.2.2.1, r1.1.1.2.2.2.2.2.1, r1.2.1, ()) : tInstD)])) else none) else none) else (some ((((), (), a9, a10, a11, a12, ()), ()), (a13, a14, ())))
def all : Nat → (T0) × (T1) × Unit
 | 0 => (fun _ _ _ _ _ _ _ _ _ _ _ _ _ _ _ _ => none, fun _ _ _ _ _ _ _ _ _ _ _ _ _ _ _ => none, ())
 | k + 1 => (l0_ k (all k).1 (all k).2.1, l1_ k (all k).1 (all k).2.1, ())
def l0 (k : Nat) : T0 := (all k).1
def l1 (k : Nat) : T1 := (all k).2.1
def f (k : Nat) (a0 : tBlockD) : Option R := l0 k a0.1 ((List.length a0.1 : Nat) : Int) 0 a0 0 0 0 0 ([] : List tPhiD) ([] : List tInstD) a0.2.2.1 a0.2.2.2.1 a0.2.2.2.2.1 a0.2.2.2.2.2.1 ([] : List tPhiD) ([] : List tInstD)
abbrev S : ShapeParts := ⟨[⟨true, [.lst tPhi, .lst tInst, .int .i64, .int .i64, .int .i64, .int .i64]⟩], [], false, [⟨true, [.own 100, .own 101, .int .i64, .int .i64, .int .i64, .int .i64]⟩], [(100, .row true tPhi), (101, .row true tInst)], []⟩
def s (k : Nat) : FS := S.fs fun x => f k x.1.1
def E (k : Nat) : Ents := [(⟨68, []⟩, slices_Clone_int64_int64.s k), (⟨95, []⟩, U138.s k)]
def L0 (l : T0) : LS R := ⟨[], [(1, ⟨false, [.ptr 100000 0]⟩), (2, ⟨false, [.ptr 100001 0]⟩), (3, ⟨false, [.ptr 100004 0]⟩), (12, ⟨false, [.lst tPhi]⟩), (13, ⟨false, [.int .i64]⟩), (14, ⟨false, [.int .i64]⟩)], [(100000, .box [.lst tPhi, .lst tInst, .int .i64, .int .i64, .int .i64, .int .i64]), (100001, .box [.own 100002, .own 100003, .int .i64, .int .i64, .int .i64, .int .i64]), (100002, .row true tPhi), (100003, .row true tInst), (100004, .box [.own 100005, .own 100006, .int .i64, .int .i64, .int .i64, .int .i64]), (100005, .row true tPhi), (100006, .row true tInst)], fun x => l x.1.2.2.2.1.1 x.1.2.2.2.2.1.1 x.1.2.2.2.2.2.1.1 x.2.1 x.2.2.1.2.2.1 x.2.2.1.2.2.2.1 x.2.2.1.2.2.2.2.1 x.2.2.1.2.2.2.2.2.1 x.2.2.2.1 x.2.2.2.2.1 x.2.2.2.2.2.1.2.2.1 x.2.2.2.2.2.1.2.2.2.1 x.2.2.2.2.2.1.2.2.2.2.1 x.2.2.2.2.2.1.2.2.2.2.2.1 x.2.2.2.2.2.2.1 x.2.2.2.2.2.2.2.1⟩
def L1 (l : T1) : LS R := ⟨[], [(2, ⟨false, [.ptr 100000 0]⟩), (3, ⟨false, [.ptr 100003 0]⟩), (31, ⟨false, [.lst tInst]⟩), (32, ⟨false, [.int .i64]⟩), (33, ⟨false, [.int .i64]⟩)], [(100000, .box [.own 100001, .own 100002, .int .i64, .int .i64, .int .i64, .int .i64]), (100001, .row true tPhi), (100002, .row true tInst), (100003, .box [.own 100004, .own 100005, .int .i64, .int .i64, .int .i64, .int .i64]), (100004, .row true tPhi), (100005, .row true tInst)], fun x => l x.1.2.2.1.1 x.1.2.2.2.1.1 x.1.2.2.2.2.1.1 x.2.1.2.2.1 x.2.1.2.2.2.1 x.2.1.2.2.2.2.1 x.2.1.2.2.2.2.2.1 x.2.2.1 x.2.2.2.1 x.2.2.2.2.1.2.2.1 x.2.2.2.2.1.2.2.2.1 x.2.2.2.2.1.2.2.2.2.1 x.2.2.2.2.1.2.2.2.2.2.1 x.2.2.2.2.2.1 x.2.2.2.2.2.2.1⟩
def L (l0 : T0) (l1 : T1) : List (LS R) := [L0 l0, L1 l1]
def c : Code := Tryz.f69.body.getD .skip
theorem eq (k : Nat) (x) : (s k).pf x = execF tab (E k) Tryz.f69 c (s k) (L (l0 k) (l1 k)) x := by kernel_rfl
theorem r0 (l0 : T0) (l1 : T1) (k : Nat) (x) : (L0 (l0_ k l0 l1)).l x = roundOf tab (E k) (L l0 l1) c (fin tab Tryz.f69 (s k)) 0 (L0 l0) x := by kernel_rfl
theorem r1 (l0 : T0) (l1 : T1) (k : Nat) (x) : (L1 (l1_ k l0 l1)).l x = roundOf tab (E k) (L l0 l1) c (fin tab Tryz.f69 (s k)) 1 (L1 l1) x := by kernel_rfl
theorem sound : ∀ k, Sound Tryz.prog 69 (s k) := snd S (fun k => (s k).pf) E (fun k => (EntsOK.cons (slices_Clone_int64_int64.sound k) (EntsOK.cons (U138.sound k) EntsOK.nil))) (fun k => L (l0 k) (l1 k)) (fun k => ⟨⟨(L0 (l0 (k + 1))).l, rfl, fun x => r0 (l0 k) (l1 k) k x⟩, ⟨(L1 (l1 (k + 1))).l, rfl, fun x => r1 (l0 k) (l1 k) k x⟩, trivial⟩) eq
end U139
namespace U140
abbrev R := (((Unit × Int × Unit × Unit) × Unit) × ((List Int) × (List tBlockD) × Unit))
abbrev T0 : Type := (List tBlockD) → Int → Int → Int → (List Int) → (List tBlockD) → Int → (List Int) → (List tBlockD) → Option R
def l0_ (k : Nat) (l0 : T0) (a0 : List tBlockD) (a1 : Int) (a2 : Int) (a3 : Int) (a4 : List Int) (a5 : List tBlockD) (a6 : Int) (a7 : List Int) (a8 : List tBlockD) : Option R := bif decide (a2 < a1) then (bif (decide (0 ≤ a2)) && (decide (a2 < ((List.length a0 : Nat) : Int))) then (Option.bind (U139.f k (List.getD a0 (Int.toNat a2) tBlockZ)) fun r1 => bif decide ((List.length a8 + List.length [((r1.2.1, r1.2.2.1, r1.1.1.2.2.1, r1.1.1.2.2.2.1, r1.1.1.2.2.2.2.1, r1.1.1.2.2.2.2.2.1, ()) : tBlockD)]) * 80 ≤ 140737488355328) then (l0 a0 a1 (IntKind.wrap .i64 (a2 + 1)) a3 a4 a5 a6 a7 (a8 ++ [((r1.2.1, r1.2.2.1, r1.1.1.2.2.1, r1.1.1.2.2.2.1, r1.1.1.2.2.2.2.1, r1.1.1.2.2.2.2.2.1, ()) : tBlockD)])) else none) else none) else (some ((((), a6, (), ()), ()), (a7, a8, ())))
def all : Nat → (T0) × Unit
 | 0 => (fun _ _ _ _ _ _ _ _ _ => none, ())
 | k + 1 => (l0_ k (all k).1, ())
def l0 (k : Nat) : T0 := (all k).1
def f (k : Nat) (a0 : tFuncD) : Option R := Option.bind (slices_Clone_int64_int64.f k a0.1) fun r1 => l0 k a0.2.2.1 ((List.length a0.2.2.1 : Nat) : Int) 0 0 ([] : List Int) ([] : List tBlockD) a0.2.1 r1.2.1 ([] : List tBlockD)
abbrev S : ShapeParts := ⟨[⟨true, [.lst (.int .i64), .int .i64, .lst tBlock]⟩], [], false, [⟨true, [.own 100, .int .i64, .own 101]⟩], [(100, .row true (.int .i64)), (101, .row true tBlock)], []⟩
def s (k : Nat) : FS := S.fs fun x => f k x.1.1
def E (k : Nat) : Ents := [(⟨68, []⟩, slices_Clone_int64_int64.s k), (⟨69, []⟩, U139.s k)]
def L0 (l : T0) : LS R := ⟨[], [(2, ⟨false, [.ptr 100000 0]⟩), (3, ⟨false, [.ptr 100003 0]⟩), (13, ⟨false, [.lst tBlock]⟩), (14, ⟨false, [.int .i64]⟩), (15, ⟨false, [.int .i64]⟩)], [(100000, .box [.own 100001, .int .i64, .own 100002]), (100001, .row true (.int .i64)), (100002, .row true tBlock), (100003, .box [.own 100004, .int .i64, .own 100005]), (100004, .row true (.int .i64)), (100005, .row true tBlock)], fun x => l x.1.2.2.1.1 x.1.2.2.2.1.1 x.1.2.2.2.2.1.1 x.2.1.2.1 x.2.2.1 x.2.2.2.1 x.2.2.2.2.1.2.1 x.2.2.2.2.2.1 x.2.2.2.2.2.2.1⟩
def L (l0 : T0) : List (LS R) := [L0 l0]
def c : Code := Tryz.f34.body.getD .skip
theorem eq (k : Nat) (x) : (s k).pf x = execF tab (E k) Tryz.f34 c (s k) (L (l0 k)) x := by kernel_rfl
theorem r0 (l0 : T0) (k : Nat) (x) : (L0 (l0_ k l0)).l x = roundOf tab (E k) (L l0) c (fin tab Tryz.f34 (s k)) 0 (L0 l0) x := by kernel_rfl
theorem sound : ∀ k, Sound Tryz.prog 34 (s k) := snd S (fun k => (s k).pf) E (fun k => (EntsOK.cons (slices_Clone_int64_int64.sound k) (EntsOK.cons (U139.sound k) EntsOK.nil))) (fun k => L (l0 k)) (fun k => ⟨⟨(L0 (l0 (k + 1))).l, rfl, fun x => r0 (l0 k) k x⟩, trivial⟩) eq
end U140
namespace U141
abbrev R := (((Bool × Unit) × Unit) × Unit)
def f (k : Nat) (a0 : Int) (a1 : List Int) : Option R := Option.bind (U101.f k a1 a0) fun r1 => some (((r1.1.1.1, ()), ()), ())
abbrev S : ShapeParts := ⟨[⟨false, [.int .i64]⟩, ⟨false, [.lst (.int .i64)]⟩], [], false, [⟨false, [.bool]⟩], [], []⟩
def s (k : Nat) : FS := S.fs fun x => f k x.1.1.1 x.1.2.1.1
def E (k : Nat) : Ents := [(⟨97, []⟩, U101.s k)]
def L : List (LS R) := []
def c : Code := Tryz.f72.body.getD .skip
theorem eq (k : Nat) (x) : (s k).pf x = execF tab (E k) Tryz.f72 c (s k) L x := by kernel_rfl
theorem sound : ∀ k, Sound Tryz.prog 72 (s k) := snd S (fun k => (s k).pf) E (fun k => (EntsOK.cons (U101.sound k) EntsOK.nil)) (fun k => L) (fun k => trivial) eq
end U141
namespace U142
abbrev R := (((Unit × Unit) × Unit) × ((List ByteArray) × Unit))
set_option maxRecDepth 100000 in
def f (k : Nat) : Option R := Option.bind (strings_Split.f k (ByteArray.mk #[97, 100, 100, 32, 115, 117, 98, 32, 109, 117, 108, 32, 117, 100, 105, 118, 32, 115, 100, 105, 118, 32, 117, 114, 101, 109, 32, 115, 114, 101, 109, 32, 97, 110, 100, 32, 111, 114, 32, 120, 111, 114, 32, 115, 104, 108, 32, 108, 115, 104, 114, 32, 97, 115, 104, 114, 32, 101, 113, 32, 110, 101, 32, 117, 108, 116, 32, 115, 108, 116, 32, 122, 101, 120, 116, 32, 115, 101, 120, 116, 32, 116, 114, 117, 110, 99, 32, 99, 111, 110, 115, 116, 32, 115, 101, 108, 101, 99, 116, 32, 108, 111, 97, 100, 32, 115, 116, 111, 114, 101, 32, 112, 114, 105, 110, 116, 32, 99, 97, 108, 108, 32, 99, 111, 112, 121]) (ByteArray.mk #[32])) fun r1 => some ((((), ()), ()), (r1.2.1, ()))
abbrev S : ShapeParts := ⟨[], [], false, [⟨false, [.own 100]⟩], [(100, .row true .str)], []⟩
def s (k : Nat) : FS := S.fs fun x => f k
def E (k : Nat) : Ents := [(⟨117, []⟩, strings_Split.s k)]
def L : List (LS R) := []
def c : Code := Tryz.f99.body.getD .skip
set_option maxRecDepth 100000 in
theorem eq (k : Nat) (x) : (s k).pf x = execF tab (E k) Tryz.f99 c (s k) L x := by kernel_rfl
set_option maxRecDepth 100000 in
theorem sound : ∀ k, Sound Tryz.prog 99 (s k) := snd S (fun k => (s k).pf) E (fun k => (EntsOK.cons (strings_Split.sound k) EntsOK.nil)) (fun k => L) (fun k => trivial) eq
end U142
namespace U143
abbrev R := (((ByteArray × Unit) × Unit) × Unit)
abbrev T0 : Type := ByteArray → (List Int) → Int → Int → Option R
def l0_ (k : Nat) (l0 : T0) (a0 : ByteArray) (a1 : List Int) (a2 : Int) (a3 : Int) : Option R := bif decide (a3 < a2) then (bif (decide (0 ≤ a3)) && (decide (a3 < ((List.length a1 : Nat) : Int))) then (Option.bind (strconv_FormatInt.f k (List.getD a1 (Int.toNat a3) 0) 10) fun r1 => bif decide (ByteArray.size (ByteArray.mk #[32]) + ByteArray.size r1.1.1.1 ≤ big) then (bif decide (ByteArray.size a0 + ByteArray.size ((ByteArray.mk #[32]) ++ r1.1.1.1) ≤ big) then (l0 (a0 ++ ((ByteArray.mk #[32]) ++ r1.1.1.1)) a1 a2 (IntKind.wrap .i64 (a3 + 1))) else none) else none) else none) else (some (((a0, ()), ()), ()))
def all : Nat → (T0) × Unit
 | 0 => (fun _ _ _ _ => none, ())
 | k + 1 => (l0_ k (all k).1, ())
def l0 (k : Nat) : T0 := (all k).1
def f (k : Nat) (a0 : ByteArray) (a1 : List Int) : Option R := l0 k a0 a1 ((List.length a1 : Nat) : Int) 0
abbrev S : ShapeParts := ⟨[⟨false, [.str]⟩, ⟨false, [.lst (.int .i64)]⟩], [], false, [⟨false, [.str]⟩], [], []⟩
def s (k : Nat) : FS := S.fs fun x => f k x.1.1.1 x.1.2.1.1
def E (k : Nat) : Ents := [(⟨116, []⟩, strconv_FormatInt.s k)]
def L0 (l : T0) : LS R := ⟨[], [(0, ⟨false, [.str]⟩), (7, ⟨false, [.lst (.int .i64)]⟩), (8, ⟨false, [.int .i64]⟩), (9, ⟨false, [.int .i64]⟩)], [], fun x => l x.1.1.1 x.1.2.1.1 x.1.2.2.1.1 x.1.2.2.2.1.1⟩
def L (l0 : T0) : List (LS R) := [L0 l0]
def c : Code := Tryz.f98.body.getD .skip
theorem eq (k : Nat) (x) : (s k).pf x = execF tab (E k) Tryz.f98 c (s k) (L (l0 k)) x := by kernel_rfl
theorem r0 (l0 : T0) (k : Nat) (x) : (L0 (l0_ k l0)).l x = roundOf tab (E k) (L l0) c (fin tab Tryz.f98 (s k)) 0 (L0 l0) x := by kernel_rfl
theorem sound : ∀ k, Sound Tryz.prog 98 (s k) := snd S (fun k => (s k).pf) E (fun k => (EntsOK.cons (strconv_FormatInt.sound k) EntsOK.nil)) (fun k => L (l0 k)) (fun k => ⟨⟨(L0 (l0 (k + 1))).l, rfl, fun x => r0 (l0 k) k x⟩, trivial⟩) eq
end U143
namespace U144
abbrev R := (((Bool × Unit) × Unit) × Unit)
def f (k : Nat) (a0 : Int) : Option R := bif decide (a0 = 21) then (some (((true, ()), ()), ())) else (some (((decide (a0 = 26), ()), ()), ()))
abbrev S : ShapeParts := ⟨[⟨false, [.int .i64]⟩], [], false, [⟨false, [.bool]⟩], [], []⟩
def s (k : Nat) : FS := S.fs fun x => f k x.1.1.1
def E (k : Nat) : Ents := []
def L : List (LS R) := []
def c : Code := Tryz.f100.body.getD .skip
theorem eq (k : Nat) (x) : (s k).pf x = execF tab (E k) Tryz.f100 c (s k) L x := by kernel_rfl
theorem sound : ∀ k, Sound Tryz.prog 100 (s k) := snd S (fun k => (s k).pf) E (fun k => EntsOK.nil) (fun k => L) (fun k => trivial) eq
end U144
namespace U145
abbrev R := (((ByteArray × Unit) × Unit) × Unit)
set_option maxRecDepth 100000 in
def f (k : Nat) (a0 : tInstD) : Option R := Option.bind (U142.f k) fun r1 => bif (decide (0 ≤ IntKind.wrap .i64 (a0.1 - 1))) && (decide (IntKind.wrap .i64 (a0.1 - 1) < ((List.length r1.2.1 : Nat) : Int))) then (Option.bind (U143.f k (List.getD r1.2.1 (Int.toNat (IntKind.wrap .i64 (a0.1 - 1))) ByteArray.empty) [a0.2.1]) fun r2 => Option.bind (U144.f k a0.1) fun r3 => bif r3.1.1.1 then (Option.bind (U143.f k r2.1.1.1 [a0.2.2.2.2.2.1]) fun r4 => Option.bind (U77.f k a0) fun r5 => Option.bind (U143.f k r4.1.1.1 r5.2.1) fun r6 => some (((r6.1.1.1, ()), ()), ())) else (Option.bind (U77.f k a0) fun r7 => Option.bind (U143.f k r2.1.1.1 r7.2.1) fun r8 => some (((r8.1.1.1, ()), ()), ()))) else none
abbrev S : ShapeParts := ⟨[⟨true, [.int .i64, .int .i64, .int .i64, .int .i64, .int .i64, .int .i64, .lst (.int .i64)]⟩], [], false, [⟨false, [.str]⟩], [], []⟩
def s (k : Nat) : FS := S.fs fun x => f k x.1.1
def E (k : Nat) : Ents := [(⟨99, []⟩, U142.s k), (⟨98, []⟩, U143.s k), (⟨100, []⟩, U144.s k), (⟨101, []⟩, U77.s k)]
def L : List (LS R) := []
def c : Code := Tryz.f73.body.getD .skip
set_option maxRecDepth 100000 in
theorem eq (k : Nat) (x) : (s k).pf x = execF tab (E k) Tryz.f73 c (s k) L x := by kernel_rfl
set_option maxRecDepth 100000 in
theorem sound : ∀ k, Sound Tryz.prog 73 (s k) := snd S (fun k => (s k).pf) E (fun k => (EntsOK.cons (U142.sound k) (EntsOK.cons (U143.sound k) (EntsOK.cons (U144.sound k) (EntsOK.cons (U77.sound k) EntsOK.nil))))) (fun k => L) (fun k => trivial) eq
end U145
namespace U146
abbrev R := (((ByteArray × Unit) × (Bool × Unit) × Unit) × Unit)
set_option maxRecDepth 100000 in
def f (k : Nat) (a0 : tFuncD) (a1 : Int) : Option R := Option.bind (U110.f k a0 a1) fun r1 => bif !r1.1.2.1.1 then (some (((ByteArray.empty, ()), (false, ()), ()), ())) else (bif decide (23 ≤ r1.1.1.1) then (some (((ByteArray.empty, ()), (false, ()), ()), ())) else (Option.bind (U141.f k r1.1.1.1 [1, 3, 8, 9, 10, 14, 15]) fun r2 => bif r2.1.1.1 then (bif decide (r1.1.1.2.2.2.1 < r1.1.1.2.2.1) then (Option.bind (U145.f k (r1.1.1.1, r1.1.1.2.1, r1.1.1.2.2.2.1, r1.1.1.2.2.1, r1.1.1.2.2.2.2.1, r1.1.1.2.2.2.2.2.1, r1.1.1.2.2.2.2.2.2.1, ())) fun r3 => some (((r3.1.1.1, ()), (true, ()), ()), ())) else (Option.bind (U145.f k r1.1.1) fun r4 => some (((r4.1.1.1, ()), (true, ()), ()), ()))) else (Option.bind (U145.f k r1.1.1) fun r5 => some (((r5.1.1.1, ()), (true, ()), ()), ()))))
abbrev S : ShapeParts := ⟨[⟨true, [.lst (.int .i64), .int .i64, .lst tBlock]⟩, ⟨false, [.int .i64]⟩], [], true, [⟨false, [.str]⟩, ⟨false, [.bool]⟩], [], []⟩
def s (k : Nat) : FS := S.fs fun x => f k x.1.1 x.1.2.1.1
def E (k : Nat) : Ents := [(⟨71, []⟩, U110.s k), (⟨72, []⟩, U141.s k), (⟨73, []⟩, U145.s k)]
def L : List (LS R) := []
def c : Code := Tryz.f37.body.getD .skip
set_option maxRecDepth 100000 in
theorem eq (k : Nat) (x) : (s k).pf x = execF tab (E k) Tryz.f37 c (s k) L x := by kernel_rfl
set_option maxRecDepth 100000 in
theorem sound : ∀ k, Sound Tryz.prog 37 (s k) := snd S (fun k => (s k).pf) E (fun k => (EntsOK.cons (U110.sound k) (EntsOK.cons (U141.sound k) (EntsOK.cons (U145.sound k) EntsOK.nil)))) (fun k => L) (fun k => trivial) eq
end U146
namespace U147
abbrev R := (((Int × Unit) × Unit) × Unit)
abbrev T0 : Type := Int → Int → ByteArray → Int → Int → tFuncD → Option R
def l0_ (k : Nat) (l0 : T0) (a0 : Int) (a1 : Int) (a2 : ByteArray) (a3 : Int) (a4 : Int) (a5 : tFuncD) : Option R := bif decide (a4 < a3) then (bif decide (a4 = a0) then (l0 a0 a1 a2 a3 (IntKind.wrap .i64 (a4 + 1)) a5) else (Option.bind (U146.f k a5 a4) fun r1 => bif r1.1.2.1.1 then (bif strEq r1.1.1.1 a2 then (Option.bind (U130.f k a5 a4 a1 a0) fun r2 => bif r2.1.1.1 then (some (((a4, ()), ()), ())) else (l0 a0 a1 a2 a3 (IntKind.wrap .i64 (a4 + 1)) a5)) else (l0 a0 a1 a2 a3 (IntKind.wrap .i64 (a4 + 1)) a5)) else (l0 a0 a1 a2 a3 (IntKind.wrap .i64 (a4 + 1)) a5))) else (some (((-1, ()), ()), ()))
def all : Nat → (T0) × Unit
 | 0 => (fun _ _ _ _ _ _ => none, ())
 | k + 1 => (l0_ k (all k).1, ())
def l0 (k : Nat) : T0 := (all k).1
set_option maxRecDepth 100000 in
def f (k : Nat) (a0 : tFuncD) (a1 : Int) (a2 : Int) (a3 : ByteArray) : Option R := Option.bind (U68.f k a0) fun r1 => l0 k a1 a2 a3 r1.1.1.1 0 a0
abbrev S : ShapeParts := ⟨[⟨true, [.lst (.int .i64), .int .i64, .lst tBlock]⟩, ⟨false, [.int .i64]⟩, ⟨false, [.int .i64]⟩, ⟨false, [.str]⟩], [], false, [⟨false, [.int .i64]⟩], [], []⟩
def s (k : Nat) : FS := S.fs fun x => f k x.1.1 x.1.2.1.1 x.1.2.2.1.1 x.1.2.2.2.1.1
def E (k : Nat) : Ents := [(⟨74, []⟩, U68.s k), (⟨37, []⟩, U146.s k), (⟨75, []⟩, U130.s k)]
def L0 (l : T0) : LS R := ⟨[], [(1, ⟨false, [.int .i64]⟩), (2, ⟨false, [.int .i64]⟩), (3, ⟨false, [.str]⟩), (4, ⟨false, [.ptr 100000 0]⟩), (13, ⟨false, [.int .i64]⟩), (14, ⟨false, [.int .i64]⟩)], [(100000, .box [.lst (.int .i64), .int .i64, .lst tBlock])], fun x => l x.1.1.1 x.1.2.1.1 x.1.2.2.1.1 x.1.2.2.2.2.1.1 x.1.2.2.2.2.2.1.1 x.2.1⟩
def L (l0 : T0) : List (LS R) := [L0 l0]
def c : Code := Tryz.f38.body.getD .skip
set_option maxRecDepth 100000 in
theorem eq (k : Nat) (x) : (s k).pf x = execF tab (E k) Tryz.f38 c (s k) (L (l0 k)) x := by kernel_rfl
set_option maxRecDepth 100000 in
theorem r0 (l0 : T0) (k : Nat) (x) : (L0 (l0_ k l0)).l x = roundOf tab (E k) (L l0) c (fin tab Tryz.f38 (s k)) 0 (L0 l0) x := by kernel_rfl
set_option maxRecDepth 100000 in
theorem sound : ∀ k, Sound Tryz.prog 38 (s k) := snd S (fun k => (s k).pf) E (fun k => (EntsOK.cons (U68.sound k) (EntsOK.cons (U146.sound k) (EntsOK.cons (U130.sound k) EntsOK.nil)))) (fun k => L (l0 k)) (fun k => ⟨⟨(L0 (l0 (k + 1))).l, rfl, fun x => r0 (l0 k) k x⟩, trivial⟩) eq
end U147
namespace U148
abbrev R := (((Int × Int × Int × Int × Int × Int × Unit × Unit) × Unit) × Unit)
def f (k : Nat) (a0 : tInstD) (a1 : Int) : Option R := Option.bind (U112.f k a0) fun r1 => some (((27, r1.1.1.1, a1, 0, 0, 0, (), ()), ()), ())
abbrev S : ShapeParts := ⟨[⟨true, [.int .i64, .int .i64, .int .i64, .int .i64, .int .i64, .int .i64, .lst (.int .i64)]⟩, ⟨false, [.int .i64]⟩], [], false, [⟨true, [.int .i64, .int .i64, .int .i64, .int .i64, .int .i64, .int .i64, .nilc]⟩], [], []⟩
def s (k : Nat) : FS := S.fs fun x => f k x.1.1 x.1.2.1.1
def E (k : Nat) : Ents := [(⟨76, []⟩, U112.s k)]
def L : List (LS R) := []
def c : Code := Tryz.f39.body.getD .skip
theorem eq (k : Nat) (x) : (s k).pf x = execF tab (E k) Tryz.f39 c (s k) L x := by kernel_rfl
theorem sound : ∀ k, Sound Tryz.prog 39 (s k) := snd S (fun k => (s k).pf) E (fun k => (EntsOK.cons (U112.sound k) EntsOK.nil)) (fun k => L) (fun k => trivial) eq
end U148
namespace U149
abbrev R := (((Unit × Int × Unit × Unit) × Unit) × ((List Int) × (List tBlockD) × Unit))
abbrev T0 : Type := Int → Int → tFuncD → Int → (List Int) → (List tBlockD) → Int → (List Int) → (List tBlockD) → (List Bool) → Option R
abbrev T1 : Type := Int → Int → Int → Int → (List tInstD) → Int → Int → tFuncD → Int → (List Int) → (List tBlockD) → Int → (List Int) → (List tBlockD) → (List Bool) → Option R
def l0_ (k : Nat) (l0 : T0) (l1 : T1) (a0 : Int) (a1 : Int) (a2 : tFuncD) (a3 : Int) (a4 : List Int) (a5 : List tBlockD) (a6 : Int) (a7 : List Int) (a8 : List tBlockD) (a9 : List Bool) : Option R := bif decide (a1 < a0) then (Option.bind (U128.f k a2 a1) fun r1 => bif (decide (0 ≤ a1)) && (decide (a1 < ((List.length a2.2.2.1 : Nat) : Int))) then (bif (decide (0 ≤ a1)) && (decide (a1 < ((List.length a2.2.2.1 : Nat) : Int))) then (l1 a1 (IntKind.wrap .i64 (r1.1.1.1 + ((List.length ((List.getD a2.2.2.1 (Int.toNat a1) tBlockZ).1) : Nat) : Int))) a0 a1 ((List.getD a2.2.2.1 (Int.toNat a1) tBlockZ).2.1) ((List.length ((List.getD a2.2.2.1 (Int.toNat a1) tBlockZ).2.1) : Nat) : Int) 0 a2 a3 a4 a5 a6 a7 a8 a9) else none) else none) else (some ((((), a6, (), ()), ()), (a7, a8, ())))
def l1_ (k : Nat) (l0 : T0) (l1 : T1) (a0 : Int) (a1 : Int) (a2 : Int) (a3 : Int) (a4 : List tInstD) (a5 : Int) (a6 : Int) (a7 : tFuncD) (a8 : Int) (a9 : List Int) (a10 : List tBlockD) (a11 : Int) (a12 : List Int) (a13 : List tBlockD) (a14 : List Bool) : Option R := bif decide (a6 < a5) then (bif (decide (0 ≤ a6)) && (decide (a6 < ((List.length a4 : Nat) : Int))) then (bif (decide (0 ≤ a0)) && (decide (a0 < ((List.length a13 : Nat) : Int))) then (Option.bind (U146.f k a7 a1) fun r1 => bif r1.1.2.1.1 then (bif (decide (0 ≤ a0)) && (decide (a0 < ((List.length a14 : Nat) : Int))) then (bif List.getD a14 (Int.toNat a0) false then (Option.bind (U147.f k a7 a1 a0 r1.1.1.1) fun r2 => bif decide (0 ≤ r2.1.1.1) then (bif (decide (0 ≤ a0)) && (decide (a0 < ((List.length a13 : Nat) : Int))) then (bif decide (Int.toNat a0 = Int.toNat a0) then (Option.bind (U148.f k (List.getD a4 (Int.toNat a6) tInstZ) r2.1.1.1) fun r3 => bif (decide (0 ≤ a6)) && (decide (a6 < ((List.length ((List.getD a13 (Int.toNat a0) tBlockZ).2.1) : Nat) : Int))) then (l1 a0 (IntKind.wrap .i64 (a1 + 1)) a2 a3 a4 a5 (IntKind.wrap .i64 (a6 + 1)) a7 a8 a9 a10 a11 a12 (List.set a13 (Int.toNat a0) ((List.getD a13 (Int.toNat a0) tBlockZ).1, List.set ((List.getD a13 (Int.toNat a0) tBlockZ).2.1) (Int.toNat a6) (r3.1.1.1, r3.1.1.2.1, r3.1.1.2.2.1, r3.1.1.2.2.2.1, r3.1.1.2.2.2.2.1, r3.1.1.2.2.2.2.2.1, ([] : List Int), ()), (List.getD a13 (Int.toNat a0) tBlockZ).2.2.1, (List.getD a13 (Int.toNat a0) tBlockZ).2.2.2.1, (List.getD a13 (Int.toNat a0) tBlockZ).2.2.2.2.1, (List.getD a13 (Int.toNat a0) tBlockZ).2.2.2.2.2.1, ())) a14) else none) else none) else none) else (l1 a0 (IntKind.wrap .i64 (a1 + 1)) a2 a3 a4 a5 (IntKind.wrap .i64 (a6 + 1)) a7 a8 a9 a10 a11 a12 (List.set a13 (Int.toNat a0) (List.getD a13 (Int.toNat a0) tBlockZ)) a14)) else (l1 a0 (IntKind.wrap .i64 (a1 + 1)) a2 a3 a4 a5 (IntKind.wrap .i64 (a6 + 1)) a7 a8 a9 a10 a11 a12 (List.set a13 (Int.toNat a0) (List.getD a13 (Int.toNat a0) tBlockZ)) a14)) else none) else (l1 a0 (IntKind.wrap .i64 (a1 + 1)) a2 a3 a4 a5 (IntKind.wrap .i64 (a6 + 1)) a7 a8 a9 a10 a11 a12 (List.set a13 (Int.toNat a0) (List.getD a13 (Int.toNat a0) tBlockZ)) a14)) else none) else none) else (l0 a2 (IntKind.wrap .i64 (a3 + 1)) a7 a8 a9 a10 a11 a12 a13 a14)
def all : Nat → (T0) × (T1) × Unit
 | 0 => (fun _ _ _ _ _ _ _ _ _ _ => none, fun _ _ _ _ _ _ _ _ _ _ _ _ _ _ _ => none, ())
 | k + 1 => (l0_ k (all k).1 (all k).2.1, l1_ k (all k).1 (all k).2.1, ())
def l0 (k : Nat) : T0 := (all k).1
def l1 (k : Nat) : T1 := (all k).2.1
set_option maxRecDepth 100000 in
def f (k : Nat) (a0 : tFuncD) : Option R := Option.bind (U140.f k a0) fun r1 => Option.bind (U127.f k a0 (-1)) fun r2 => l0 k ((List.length a0.2.2.1 : Nat) : Int) 0 a0 0 ([] : List Int) ([] : List tBlockD) r1.1.1.2.1 r1.2.1 r1.2.2.1 r2.2.1
abbrev S : ShapeParts := ⟨[⟨true, [.lst (.int .i64), .int .i64, .lst tBlock]⟩], [], false, [⟨true, [.own 100, .int .i64, .own 101]⟩], [(100, .row true (.int .i64)), (101, .row true tBlock)], []⟩
def s (k : Nat) : FS := S.fs fun x => f k x.1.1
def E (k : Nat) : Ents := [(⟨34, []⟩, U140.s k), (⟨35, []⟩, U127.s k), (⟨36, []⟩, U128.s k), (⟨37, []⟩, U146.s k), (⟨38, []⟩, U147.s k), (⟨39, []⟩, U148.s k), (⟨34, [999998, 10, 1, 100006, 5, 2000000]⟩, U140.s k), (⟨34, [999998, 15, 2, 100006]⟩, U140.s k)]
def L0 (l : T0) : LS R := ⟨[], [(1, ⟨false, [.ptr 100000 0]⟩), (2, ⟨false, [.ptr 100001 0]⟩), (3, ⟨false, [.ptr 100004 0]⟩), (4, ⟨false, [.own 100007]⟩), (18, ⟨false, [.int .i64]⟩), (19, ⟨false, [.int .i64]⟩)], [(100000, .box [.lst (.int .i64), .int .i64, .lst tBlock]), (100001, .box [.own 100002, .int .i64, .own 100003]), (100002, .row true (.int .i64)), (100003, .row true tBlock), (100004, .box [.own 100005, .int .i64, .own 100006]), (100005, .row true (.int .i64)), (100006, .row true tBlock), (100007, .row true .bool)], fun x => l x.1.2.2.2.2.1.1 x.1.2.2.2.2.2.1.1 x.2.1 x.2.2.1.2.1 x.2.2.2.1 x.2.2.2.2.1 x.2.2.2.2.2.1.2.1 x.2.2.2.2.2.2.1 x.2.2.2.2.2.2.2.1 x.2.2.2.2.2.2.2.2.1⟩
def L1 (l : T1) : LS R := ⟨[], [(1, ⟨false, [.ptr 100000 0]⟩), (2, ⟨false, [.ptr 100001 0]⟩), (3, ⟨false, [.ptr 100004 0]⟩), (4, ⟨false, [.own 100007]⟩), (5, ⟨false, [.int .i64]⟩), (6, ⟨false, [.int .i64]⟩), (18, ⟨false, [.int .i64]⟩), (19, ⟨false, [.int .i64]⟩), (38, ⟨false, [.lst tInst]⟩), (39, ⟨false, [.int .i64]⟩), (40, ⟨false, [.int .i64]⟩)], [(100000, .box [.lst (.int .i64), .int .i64, .lst tBlock]), (100001, .box [.own 100002, .int .i64, .own 100003]), (100002, .row true (.int .i64)), (100003, .row true tBlock), (100004, .box [.own 100005, .int .i64, .own 100006]), (100005, .row true (.int .i64)), (100006, .row true tBlock), (100007, .row true .bool)], fun x => l x.1.2.2.2.2.1.1 x.1.2.2.2.2.2.1.1 x.1.2.2.2.2.2.2.1.1 x.1.2.2.2.2.2.2.2.1.1 x.1.2.2.2.2.2.2.2.2.1.1 x.1.2.2.2.2.2.2.2.2.2.1.1 x.1.2.2.2.2.2.2.2.2.2.2.1.1 x.2.1 x.2.2.1.2.1 x.2.2.2.1 x.2.2.2.2.1 x.2.2.2.2.2.1.2.1 x.2.2.2.2.2.2.1 x.2.2.2.2.2.2.2.1 x.2.2.2.2.2.2.2.2.1⟩
def L (l0 : T0) (l1 : T1) : List (LS R) := [L0 l0, L1 l1]
def c : Code := Tryz.f16.body.getD .skip
set_option maxRecDepth 100000 in
theorem eq (k : Nat) (x) : (s k).pf x = execF tab (E k) Tryz.f16 c (s k) (L (l0 k) (l1 k)) x := by kernel_rfl
set_option maxRecDepth 100000 in
theorem r0 (l0 : T0) (l1 : T1) (k : Nat) (x) : (L0 (l0_ k l0 l1)).l x = roundOf tab (E k) (L l0 l1) c (fin tab Tryz.f16 (s k)) 0 (L0 l0) x := by kernel_rfl
set_option maxRecDepth 100000 in
theorem r1 (l0 : T0) (l1 : T1) (k : Nat) (x) : (L1 (l1_ k l0 l1)).l x = roundOf tab (E k) (L l0 l1) c (fin tab Tryz.f16 (s k)) 1 (L1 l1) x := by kernel_rfl
set_option maxRecDepth 100000 in
theorem sound : ∀ k, Sound Tryz.prog 16 (s k) := snd S (fun k => (s k).pf) E (fun k => (EntsOK.cons (U140.sound k) (EntsOK.cons (U127.sound k) (EntsOK.cons (U128.sound k) (EntsOK.cons (U146.sound k) (EntsOK.cons (U147.sound k) (EntsOK.cons (U148.sound k) (EntsOK.cons (U140.sound k) (EntsOK.cons (U140.sound k) EntsOK.nil))))))))) (fun k => L (l0 k) (l1 k)) (fun k => ⟨⟨(L0 (l0 (k + 1))).l, rfl, fun x => r0 (l0 k) (l1 k) k x⟩, ⟨(L1 (l1 (k + 1))).l, rfl, fun x => r1 (l0 k) (l1 k) k x⟩, trivial⟩) eq
end U149
namespace U150
abbrev R := (((Unit × Int × Unit × Unit) × (Bool × Unit) × Unit) × ((List Int) × (List tBlockD) × Unit))
set_option maxRecDepth 100000 in
def f (k : Nat) (a0 : tFuncD) : Option R := Option.bind (U149.f k a0) fun r1 => some ((((), r1.1.1.2.1, (), ()), (true, ()), ()), (r1.2.1, r1.2.2.1, ()))
abbrev S : ShapeParts := ⟨[⟨true, [.lst (.int .i64), .int .i64, .lst tBlock]⟩, ⟨false, [.ptr 0 0]⟩], [(0, .cbox [.fn 16 []])], true, [⟨true, [.own 100, .int .i64, .own 101]⟩, ⟨false, [.bool]⟩], [(100, .row true (.int .i64)), (101, .row true tBlock)], []⟩
def s (k : Nat) : FS := S.fs fun x => f k x.1.1
def E (k : Nat) : Ents := [(⟨16, []⟩, U149.s k)]
def L : List (LS R) := []
def c : Code := Tryz.f33.body.getD .skip
set_option maxRecDepth 100000 in
theorem eq (k : Nat) (x) : (s k).pf x = execF tab (E k) Tryz.f33 c (s k) L x := by kernel_rfl
set_option maxRecDepth 100000 in
theorem sound : ∀ k, Sound Tryz.prog 33 (s k) := snd S (fun k => (s k).pf) E (fun k => (EntsOK.cons (U149.sound k) EntsOK.nil)) (fun k => L) (fun k => trivial) eq
end U150
namespace U151
abbrev R := (((Unit × Unit) × (Bool × Unit) × Unit) × ((List tFuncD) × Unit))
abbrev T0 : Type := (List tFuncD) → Int → Int → (List tFuncD) → (List tFuncD) → Option R
def l0_ (k : Nat) (l0 : T0) (a0 : List tFuncD) (a1 : Int) (a2 : Int) (a3 : List tFuncD) (a4 : List tFuncD) : Option R := bif decide (a2 < a1) then (bif (decide (0 ≤ a2)) && (decide (a2 < ((List.length a0 : Nat) : Int))) then (Option.bind (U140.f k (List.getD a0 (Int.toNat a2) tFuncZ)) fun r1 => Option.bind (U150.f k (r1.2.1, r1.1.1.2.1, r1.2.2.1, ())) fun r2 => bif !r2.1.2.1.1 then (some ((((), ()), (false, ()), ()), (([] : List tFuncD), ()))) else (bif decide ((List.length a4 + List.length [((r2.2.1, r2.1.1.2.1, r2.2.2.1, ()) : tFuncD)]) * 56 ≤ 140737488355328) then (l0 a0 a1 (IntKind.wrap .i64 (a2 + 1)) a3 (a4 ++ [((r2.2.1, r2.1.1.2.1, r2.2.2.1, ()) : tFuncD)])) else none)) else none) else (some ((((), ()), (true, ()), ()), (a4, ())))
def all : Nat → (T0) × Unit
 | 0 => (fun _ _ _ _ _ => none, ())
 | k + 1 => (l0_ k (all k).1, ())
def l0 (k : Nat) : T0 := (all k).1
set_option maxRecDepth 100000 in
def f (k : Nat) (a0 : tModuleD) : Option R := Option.bind (U137.f k (a0.1, ())) fun r1 => bif !r1.1.1.1 then (some ((((), ()), (false, ()), ()), (([] : List tFuncD), ()))) else (l0 k a0.1 ((List.length a0.1 : Nat) : Int) 0 ([] : List tFuncD) ([] : List tFuncD))
abbrev S : ShapeParts := ⟨[⟨true, [.lst tFunc]⟩, ⟨false, [.fn 33 [(0, 0)]]⟩], [(0, .cbox [.fn 16 []])], true, [⟨true, [.own 100]⟩, ⟨false, [.bool]⟩], [(100, .row true tFunc)], []⟩
def s (k : Nat) : FS := S.fs fun x => f k x.1.1
def E (k : Nat) : Ents := [(⟨67, []⟩, U137.s k), (⟨34, []⟩, U140.s k), (⟨33, []⟩, U150.s k)]
def L0 (l : T0) : LS R := ⟨[], [(1, ⟨false, [.fn 33 [(0, 0)]]⟩), (4, ⟨false, [.ptr 100001 0]⟩), (6, ⟨false, [.ptr 100003 0]⟩), (17, ⟨false, [.lst tFunc]⟩), (18, ⟨false, [.int .i64]⟩), (19, ⟨false, [.int .i64]⟩)], [(0, .cbox [.fn 16 []]), (100001, .box [.own 100002]), (100002, .row true tFunc), (100003, .box [.own 100004]), (100004, .row true tFunc)], fun x => l x.1.2.2.2.1.1 x.1.2.2.2.2.1.1 x.1.2.2.2.2.2.1.1 x.2.2.2.1 x.2.2.2.2.2.1⟩
def L (l0 : T0) : List (LS R) := [L0 l0]
def c : Code := Tryz.f32.body.getD .skip
set_option maxRecDepth 100000 in
theorem eq (k : Nat) (x) : (s k).pf x = execF tab (E k) Tryz.f32 c (s k) (L (l0 k)) x := by kernel_rfl
set_option maxRecDepth 100000 in
theorem r0 (l0 : T0) (k : Nat) (x) : (L0 (l0_ k l0)).l x = roundOf tab (E k) (L l0) c (fin tab Tryz.f32 (s k)) 0 (L0 l0) x := by kernel_rfl
set_option maxRecDepth 100000 in
theorem sound : ∀ k, Sound Tryz.prog 32 (s k) := snd S (fun k => (s k).pf) E (fun k => (EntsOK.cons (U137.sound k) (EntsOK.cons (U140.sound k) (EntsOK.cons (U150.sound k) EntsOK.nil)))) (fun k => L (l0 k)) (fun k => ⟨⟨(L0 (l0 (k + 1))).l, rfl, fun x => r0 (l0 k) k x⟩, trivial⟩) eq
end U151
namespace U152
abbrev R := (((Unit × Unit) × (Bool × Unit) × Unit) × ((List tFuncD) × Unit))
set_option maxRecDepth 100000 in
def f (k : Nat) (a0 : tModuleD) : Option R := Option.bind (U151.f k (a0.1, ())) fun r1 => some ((((), ()), (r1.1.2.1.1, ()), ()), (r1.2.1, ()))
abbrev S : ShapeParts := ⟨[⟨true, [.lst tFunc]⟩, ⟨false, [.fn 16 []]⟩], [], true, [⟨true, [.own 100]⟩, ⟨false, [.bool]⟩], [(100, .row true tFunc)], []⟩
def s (k : Nat) : FS := S.fs fun x => f k x.1.1
def E (k : Nat) : Ents := [(⟨32, [33]⟩, U151.s k)]
def L : List (LS R) := []
def c : Code := Tryz.f15.body.getD .skip
set_option maxRecDepth 100000 in
theorem eq (k : Nat) (x) : (s k).pf x = execF tab (E k) Tryz.f15 c (s k) L x := by kernel_rfl
set_option maxRecDepth 100000 in
theorem sound : ∀ k, Sound Tryz.prog 15 (s k) := snd S (fun k => (s k).pf) E (fun k => (EntsOK.cons (U151.sound k) EntsOK.nil)) (fun k => L) (fun k => trivial) eq
end U152
namespace U153
abbrev R := (((Unit × Unit) × (Bool × Unit) × Unit) × ((List tFuncD) × Unit))
set_option maxRecDepth 100000 in
def f (k : Nat) (a0 : tModuleD) : Option R := Option.bind (U152.f k (a0.1, ())) fun r1 => some ((((), ()), (r1.1.2.1.1, ()), ()), (r1.2.1, ()))
abbrev S : ShapeParts := ⟨[⟨true, [.lst tFunc]⟩], [], true, [⟨true, [.own 100]⟩, ⟨false, [.bool]⟩], [(100, .row true tFunc)], []⟩
def s (k : Nat) : FS := S.fs fun x => f k x.1.1
def E (k : Nat) : Ents := [(⟨15, [16]⟩, U152.s k)]
def L : List (LS R) := []
def c : Code := Tryz.f7.body.getD .skip
set_option maxRecDepth 100000 in
theorem eq (k : Nat) (x) : (s k).pf x = execF tab (E k) Tryz.f7 c (s k) L x := by kernel_rfl
set_option maxRecDepth 100000 in
theorem sound : ∀ k, Sound Tryz.prog 7 (s k) := snd S (fun k => (s k).pf) E (fun k => (EntsOK.cons (U152.sound k) EntsOK.nil)) (fun k => L) (fun k => trivial) eq
end U153
namespace U154
abbrev R := (((Bool × Unit) × Unit) × Unit)
abbrev T0 : Type := (List Int) → (List Int) → Int → Option R
def l0_ (k : Nat) (l0 : T0) (a0 : List Int) (a1 : List Int) (a2 : Int) : Option R := bif decide (a2 < ((List.length a0 : Nat) : Int)) then (bif (decide (0 ≤ a2)) && (decide (a2 < ((List.length a0 : Nat) : Int))) then (bif (decide (0 ≤ a2)) && (decide (a2 < ((List.length a1 : Nat) : Int))) then (bif !decide (List.getD a0 (Int.toNat a2) 0 = List.getD a1 (Int.toNat a2) 0) then (some (((false, ()), ()), ())) else (l0 a0 a1 (IntKind.wrap .i64 (a2 + 1)))) else none) else none) else (some (((true, ()), ()), ()))
def all : Nat → (T0) × Unit
 | 0 => (fun _ _ _ => none, ())
 | k + 1 => (l0_ k (all k).1, ())
def l0 (k : Nat) : T0 := (all k).1
def f (k : Nat) (a0 : List Int) (a1 : List Int) : Option R := bif !decide (((List.length a0 : Nat) : Int) = ((List.length a1 : Nat) : Int)) then (some (((false, ()), ()), ())) else (l0 k a0 a1 0)
abbrev S : ShapeParts := ⟨[⟨false, [.lst (.int .i64)]⟩, ⟨false, [.lst (.int .i64)]⟩], [], false, [⟨false, [.bool]⟩], [], []⟩
def s (k : Nat) : FS := S.fs fun x => f k x.1.1.1 x.1.2.1.1
def E (k : Nat) : Ents := []
def L0 (l : T0) : LS R := ⟨[], [(0, ⟨false, [.lst (.int .i64)]⟩), (1, ⟨false, [.lst (.int .i64)]⟩), (5, ⟨false, [.int .i64]⟩)], [], fun x => l x.1.1.1 x.1.2.1.1 x.1.2.2.1.1⟩
def L (l0 : T0) : List (LS R) := [L0 l0]
def c : Code := Tryz.f77.body.getD .skip
theorem eq (k : Nat) (x) : (s k).pf x = execF tab (E k) Tryz.f77 c (s k) (L (l0 k)) x := by kernel_rfl
theorem r0 (l0 : T0) (k : Nat) (x) : (L0 (l0_ k l0)).l x = roundOf tab (E k) (L l0) c (fin tab Tryz.f77 (s k)) 0 (L0 l0) x := by kernel_rfl
theorem sound : ∀ k, Sound Tryz.prog 77 (s k) := snd S (fun k => (s k).pf) E (fun k => EntsOK.nil) (fun k => L (l0 k)) (fun k => ⟨⟨(L0 (l0 (k + 1))).l, rfl, fun x => r0 (l0 k) k x⟩, trivial⟩) eq
end U154
namespace U155
abbrev R := (((Bool × Unit) × Unit) × Unit)
def f (k : Nat) (a0 : tPhiD) (a1 : tPhiD) : Option R := bif !decide (a0.1 = a1.1) then (some (((false, ()), ()), ())) else (Option.bind (U154.f k a0.2.1 a1.2.1) fun r1 => bif !r1.1.1.1 then (some (((false, ()), ()), ())) else (some (((true, ()), ()), ())))
abbrev S : ShapeParts := ⟨[⟨true, [.int .i64, .lst (.int .i64)]⟩, ⟨true, [.int .i64, .lst (.int .i64)]⟩], [], false, [⟨false, [.bool]⟩], [], []⟩
def s (k : Nat) : FS := S.fs fun x => f k x.1.1 x.1.2.1
def E (k : Nat) : Ents := [(⟨77, []⟩, U154.s k)]
def L : List (LS R) := []
def c : Code := Tryz.f141.body.getD .skip
theorem eq (k : Nat) (x) : (s k).pf x = execF tab (E k) Tryz.f141 c (s k) L x := by kernel_rfl
theorem sound : ∀ k, Sound Tryz.prog 141 (s k) := snd S (fun k => (s k).pf) E (fun k => (EntsOK.cons (U154.sound k) EntsOK.nil)) (fun k => L) (fun k => trivial) eq
end U155
namespace U156
abbrev R := (((Bool × Unit) × Unit) × Unit)
abbrev T0 : Type := (List tPhiD) → (List tPhiD) → Int → Option R
def l0_ (k : Nat) (l0 : T0) (a0 : List tPhiD) (a1 : List tPhiD) (a2 : Int) : Option R := bif decide (a2 < ((List.length a0 : Nat) : Int)) then (bif (decide (0 ≤ a2)) && (decide (a2 < ((List.length a0 : Nat) : Int))) then (bif (decide (0 ≤ a2)) && (decide (a2 < ((List.length a1 : Nat) : Int))) then (Option.bind (U155.f k (List.getD a0 (Int.toNat a2) tPhiZ) (List.getD a1 (Int.toNat a2) tPhiZ)) fun r1 => bif !r1.1.1.1 then (some (((false, ()), ()), ())) else (l0 a0 a1 (IntKind.wrap .i64 (a2 + 1)))) else none) else none) else (some (((true, ()), ()), ()))
def all : Nat → (T0) × Unit
 | 0 => (fun _ _ _ => none, ())
 | k + 1 => (l0_ k (all k).1, ())
def l0 (k : Nat) : T0 := (all k).1
def f (k : Nat) (a0 : List tPhiD) (a1 : List tPhiD) : Option R := bif !decide (((List.length a0 : Nat) : Int) = ((List.length a1 : Nat) : Int)) then (some (((false, ()), ()), ())) else (l0 k a0 a1 0)
abbrev S : ShapeParts := ⟨[⟨false, [.lst tPhi]⟩, ⟨false, [.lst tPhi]⟩], [], false, [⟨false, [.bool]⟩], [], []⟩
def s (k : Nat) : FS := S.fs fun x => f k x.1.1.1 x.1.2.1.1
def E (k : Nat) : Ents := [(⟨141, []⟩, U155.s k)]
def L0 (l : T0) : LS R := ⟨[], [(0, ⟨false, [.lst tPhi]⟩), (1, ⟨false, [.lst tPhi]⟩), (5, ⟨false, [.int .i64]⟩)], [], fun x => l x.1.1.1 x.1.2.1.1 x.1.2.2.1.1⟩
def L (l0 : T0) : List (LS R) := [L0 l0]
def c : Code := Tryz.f121.body.getD .skip
theorem eq (k : Nat) (x) : (s k).pf x = execF tab (E k) Tryz.f121 c (s k) (L (l0 k)) x := by kernel_rfl
theorem r0 (l0 : T0) (k : Nat) (x) : (L0 (l0_ k l0)).l x = roundOf tab (E k) (L l0) c (fin tab Tryz.f121 (s k)) 0 (L0 l0) x := by kernel_rfl
theorem sound : ∀ k, Sound Tryz.prog 121 (s k) := snd S (fun k => (s k).pf) E (fun k => (EntsOK.cons (U155.sound k) EntsOK.nil)) (fun k => L (l0 k)) (fun k => ⟨⟨(L0 (l0 (k + 1))).l, rfl, fun x => r0 (l0 k) k x⟩, trivial⟩) eq
end U156
namespace U157
abbrev R := (((Bool × Unit) × Unit) × Unit)
def f (k : Nat) (a0 : tInstD) (a1 : tInstD) : Option R := bif !decide (a0.1 = a1.1) then (some (((false, ()), ()), ())) else (bif !decide (a0.2.1 = a1.2.1) then (some (((false, ()), ()), ())) else (bif !decide (a0.2.2.1 = a1.2.2.1) then (some (((false, ()), ()), ())) else (bif !decide (a0.2.2.2.1 = a1.2.2.2.1) then (some (((false, ()), ()), ())) else (bif !decide (a0.2.2.2.2.1 = a1.2.2.2.2.1) then (some (((false, ()), ()), ())) else (bif !decide (a0.2.2.2.2.2.1 = a1.2.2.2.2.2.1) then (some (((false, ()), ()), ())) else (Option.bind (U154.f k a0.2.2.2.2.2.2.1 a1.2.2.2.2.2.2.1) fun r1 => bif !r1.1.1.1 then (some (((false, ()), ()), ())) else (some (((true, ()), ()), ()))))))))
abbrev S : ShapeParts := ⟨[⟨true, [.int .i64, .int .i64, .int .i64, .int .i64, .int .i64, .int .i64, .lst (.int .i64)]⟩, ⟨true, [.int .i64, .int .i64, .int .i64, .int .i64, .int .i64, .int .i64, .lst (.int .i64)]⟩], [], false, [⟨false, [.bool]⟩], [], []⟩
def s (k : Nat) : FS := S.fs fun x => f k x.1.1 x.1.2.1
def E (k : Nat) : Ents := [(⟨77, []⟩, U154.s k)]
def L : List (LS R) := []
def c : Code := Tryz.f142.body.getD .skip
theorem eq (k : Nat) (x) : (s k).pf x = execF tab (E k) Tryz.f142 c (s k) L x := by kernel_rfl
theorem sound : ∀ k, Sound Tryz.prog 142 (s k) := snd S (fun k => (s k).pf) E (fun k => (EntsOK.cons (U154.sound k) EntsOK.nil)) (fun k => L) (fun k => trivial) eq
end U157
namespace U158
abbrev R := (((Bool × Unit) × Unit) × Unit)
abbrev T0 : Type := (List tInstD) → (List tInstD) → Int → Option R
def l0_ (k : Nat) (l0 : T0) (a0 : List tInstD) (a1 : List tInstD) (a2 : Int) : Option R := bif decide (a2 < ((List.length a0 : Nat) : Int)) then (bif (decide (0 ≤ a2)) && (decide (a2 < ((List.length a0 : Nat) : Int))) then (bif (decide (0 ≤ a2)) && (decide (a2 < ((List.length a1 : Nat) : Int))) then (Option.bind (U157.f k (List.getD a0 (Int.toNat a2) tInstZ) (List.getD a1 (Int.toNat a2) tInstZ)) fun r1 => bif !r1.1.1.1 then (some (((false, ()), ()), ())) else (l0 a0 a1 (IntKind.wrap .i64 (a2 + 1)))) else none) else none) else (some (((true, ()), ()), ()))
def all : Nat → (T0) × Unit
 | 0 => (fun _ _ _ => none, ())
 | k + 1 => (l0_ k (all k).1, ())
def l0 (k : Nat) : T0 := (all k).1
def f (k : Nat) (a0 : List tInstD) (a1 : List tInstD) : Option R := bif !decide (((List.length a0 : Nat) : Int) = ((List.length a1 : Nat) : Int)) then (some (((false, ()), ()), ())) else (l0 k a0 a1 0)
abbrev S : ShapeParts := ⟨[⟨false, [.lst tInst]⟩, ⟨false, [.lst tInst]⟩], [], false, [⟨false, [.bool]⟩], [], []⟩
def s (k : Nat) : FS := S.fs fun x => f k x.1.1.1 x.1.2.1.1
def E (k : Nat) : Ents := [(⟨142, []⟩, U157.s k)]
def L0 (l : T0) : LS R := ⟨[], [(0, ⟨false, [.lst tInst]⟩), (1, ⟨false, [.lst tInst]⟩), (5, ⟨false, [.int .i64]⟩)], [], fun x => l x.1.1.1 x.1.2.1.1 x.1.2.2.1.1⟩
def L (l0 : T0) : List (LS R) := [L0 l0]
def c : Code := Tryz.f122.body.getD .skip
theorem eq (k : Nat) (x) : (s k).pf x = execF tab (E k) Tryz.f122 c (s k) (L (l0 k)) x := by kernel_rfl
theorem r0 (l0 : T0) (k : Nat) (x) : (L0 (l0_ k l0)).l x = roundOf tab (E k) (L l0) c (fin tab Tryz.f122 (s k)) 0 (L0 l0) x := by kernel_rfl
theorem sound : ∀ k, Sound Tryz.prog 122 (s k) := snd S (fun k => (s k).pf) E (fun k => (EntsOK.cons (U157.sound k) EntsOK.nil)) (fun k => L (l0 k)) (fun k => ⟨⟨(L0 (l0 (k + 1))).l, rfl, fun x => r0 (l0 k) k x⟩, trivial⟩) eq
end U158
namespace U159
abbrev R := (((Bool × Unit) × Unit) × Unit)
def f (k : Nat) (a0 : tTermD) (a1 : tTermD) : Option R := bif !decide (a0.1 = a1.1) then (some (((false, ()), ()), ())) else (bif !decide (a0.2.1 = a1.2.1) then (some (((false, ()), ()), ())) else (bif !decide (a0.2.2.1 = a1.2.2.1) then (some (((false, ()), ()), ())) else (bif !decide (a0.2.2.2.1 = a1.2.2.2.1) then (some (((false, ()), ()), ())) else (some (((true, ()), ()), ())))))
abbrev S : ShapeParts := ⟨[⟨true, [.int .i64, .int .i64, .int .i64, .int .i64]⟩, ⟨true, [.int .i64, .int .i64, .int .i64, .int .i64]⟩], [], false, [⟨false, [.bool]⟩], [], []⟩
def s (k : Nat) : FS := S.fs fun x => f k x.1.1 x.1.2.1
def E (k : Nat) : Ents := []
def L : List (LS R) := []
def c : Code := Tryz.f123.body.getD .skip
theorem eq (k : Nat) (x) : (s k).pf x = execF tab (E k) Tryz.f123 c (s k) L x := by kernel_rfl
theorem sound : ∀ k, Sound Tryz.prog 123 (s k) := snd S (fun k => (s k).pf) E (fun k => EntsOK.nil) (fun k => L) (fun k => trivial) eq
end U159
namespace U160
abbrev R := (((Bool × Unit) × Unit) × Unit)
def f (k : Nat) (a0 : tBlockD) (a1 : tBlockD) : Option R := Option.bind (U156.f k a0.1 a1.1) fun r1 => bif !r1.1.1.1 then (some (((false, ()), ()), ())) else (Option.bind (U158.f k a0.2.1 a1.2.1) fun r2 => bif !r2.1.1.1 then (some (((false, ()), ()), ())) else (Option.bind (U159.f k a0.2.2 a1.2.2) fun r3 => bif !r3.1.1.1 then (some (((false, ()), ()), ())) else (some (((true, ()), ()), ()))))
abbrev S : ShapeParts := ⟨[⟨true, [.lst tPhi, .lst tInst, .int .i64, .int .i64, .int .i64, .int .i64]⟩, ⟨true, [.lst tPhi, .lst tInst, .int .i64, .int .i64, .int .i64, .int .i64]⟩], [], false, [⟨false, [.bool]⟩], [], []⟩
def s (k : Nat) : FS := S.fs fun x => f k x.1.1 x.1.2.1
def E (k : Nat) : Ents := [(⟨121, []⟩, U156.s k), (⟨122, []⟩, U158.s k), (⟨123, []⟩, U159.s k)]
def L : List (LS R) := []
def c : Code := Tryz.f105.body.getD .skip
theorem eq (k : Nat) (x) : (s k).pf x = execF tab (E k) Tryz.f105 c (s k) L x := by kernel_rfl
theorem sound : ∀ k, Sound Tryz.prog 105 (s k) := snd S (fun k => (s k).pf) E (fun k => (EntsOK.cons (U156.sound k) (EntsOK.cons (U158.sound k) (EntsOK.cons (U159.sound k) EntsOK.nil)))) (fun k => L) (fun k => trivial) eq
end U160
namespace U161
abbrev R := (((Bool × Unit) × Unit) × Unit)
abbrev T0 : Type := (List tBlockD) → (List tBlockD) → Int → Option R
def l0_ (k : Nat) (l0 : T0) (a0 : List tBlockD) (a1 : List tBlockD) (a2 : Int) : Option R := bif decide (a2 < ((List.length a0 : Nat) : Int)) then (bif (decide (0 ≤ a2)) && (decide (a2 < ((List.length a0 : Nat) : Int))) then (bif (decide (0 ≤ a2)) && (decide (a2 < ((List.length a1 : Nat) : Int))) then (Option.bind (U160.f k (List.getD a0 (Int.toNat a2) tBlockZ) (List.getD a1 (Int.toNat a2) tBlockZ)) fun r1 => bif !r1.1.1.1 then (some (((false, ()), ()), ())) else (l0 a0 a1 (IntKind.wrap .i64 (a2 + 1)))) else none) else none) else (some (((true, ()), ()), ()))
def all : Nat → (T0) × Unit
 | 0 => (fun _ _ _ => none, ())
 | k + 1 => (l0_ k (all k).1, ())
def l0 (k : Nat) : T0 := (all k).1
def f (k : Nat) (a0 : List tBlockD) (a1 : List tBlockD) : Option R := bif !decide (((List.length a0 : Nat) : Int) = ((List.length a1 : Nat) : Int)) then (some (((false, ()), ()), ())) else (l0 k a0 a1 0)
abbrev S : ShapeParts := ⟨[⟨false, [.lst tBlock]⟩, ⟨false, [.lst tBlock]⟩], [], false, [⟨false, [.bool]⟩], [], []⟩
def s (k : Nat) : FS := S.fs fun x => f k x.1.1.1 x.1.2.1.1
def E (k : Nat) : Ents := [(⟨105, []⟩, U160.s k)]
def L0 (l : T0) : LS R := ⟨[], [(0, ⟨false, [.lst tBlock]⟩), (1, ⟨false, [.lst tBlock]⟩), (5, ⟨false, [.int .i64]⟩)], [], fun x => l x.1.1.1 x.1.2.1.1 x.1.2.2.1.1⟩
def L (l0 : T0) : List (LS R) := [L0 l0]
def c : Code := Tryz.f78.body.getD .skip
theorem eq (k : Nat) (x) : (s k).pf x = execF tab (E k) Tryz.f78 c (s k) (L (l0 k)) x := by kernel_rfl
theorem r0 (l0 : T0) (k : Nat) (x) : (L0 (l0_ k l0)).l x = roundOf tab (E k) (L l0) c (fin tab Tryz.f78 (s k)) 0 (L0 l0) x := by kernel_rfl
theorem sound : ∀ k, Sound Tryz.prog 78 (s k) := snd S (fun k => (s k).pf) E (fun k => (EntsOK.cons (U160.sound k) EntsOK.nil)) (fun k => L (l0 k)) (fun k => ⟨⟨(L0 (l0 (k + 1))).l, rfl, fun x => r0 (l0 k) k x⟩, trivial⟩) eq
end U161
namespace U162
abbrev R := (((Bool × Unit) × Unit) × Unit)
def f (k : Nat) (a0 : tFuncD) (a1 : tFuncD) : Option R := Option.bind (U154.f k a0.1 a1.1) fun r1 => bif !r1.1.1.1 then (some (((false, ()), ()), ())) else (bif !decide (a0.2.1 = a1.2.1) then (some (((false, ()), ()), ())) else (Option.bind (U161.f k a0.2.2.1 a1.2.2.1) fun r2 => bif !r2.1.1.1 then (some (((false, ()), ()), ())) else (some (((true, ()), ()), ()))))
abbrev S : ShapeParts := ⟨[⟨true, [.lst (.int .i64), .int .i64, .lst tBlock]⟩, ⟨true, [.lst (.int .i64), .int .i64, .lst tBlock]⟩], [], false, [⟨false, [.bool]⟩], [], []⟩
def s (k : Nat) : FS := S.fs fun x => f k x.1.1 x.1.2.1
def E (k : Nat) : Ents := [(⟨77, []⟩, U154.s k), (⟨78, []⟩, U161.s k)]
def L : List (LS R) := []
def c : Code := Tryz.f40.body.getD .skip
theorem eq (k : Nat) (x) : (s k).pf x = execF tab (E k) Tryz.f40 c (s k) L x := by kernel_rfl
theorem sound : ∀ k, Sound Tryz.prog 40 (s k) := snd S (fun k => (s k).pf) E (fun k => (EntsOK.cons (U154.sound k) (EntsOK.cons (U161.sound k) EntsOK.nil))) (fun k => L) (fun k => trivial) eq
end U162
namespace U163
abbrev R := (((Bool × Unit) × Unit) × Unit)
abbrev T0 : Type := (List tFuncD) → (List tFuncD) → Int → Option R
def l0_ (k : Nat) (l0 : T0) (a0 : List tFuncD) (a1 : List tFuncD) (a2 : Int) : Option R := bif decide (a2 < ((List.length a0 : Nat) : Int)) then (bif (decide (0 ≤ a2)) && (decide (a2 < ((List.length a0 : Nat) : Int))) then (bif (decide (0 ≤ a2)) && (decide (a2 < ((List.length a1 : Nat) : Int))) then (Option.bind (U162.f k (List.getD a0 (Int.toNat a2) tFuncZ) (List.getD a1 (Int.toNat a2) tFuncZ)) fun r1 => bif !r1.1.1.1 then (some (((false, ()), ()), ())) else (l0 a0 a1 (IntKind.wrap .i64 (a2 + 1)))) else none) else none) else (some (((true, ()), ()), ()))
def all : Nat → (T0) × Unit
 | 0 => (fun _ _ _ => none, ())
 | k + 1 => (l0_ k (all k).1, ())
def l0 (k : Nat) : T0 := (all k).1
def f (k : Nat) (a0 : List tFuncD) (a1 : List tFuncD) : Option R := bif !decide (((List.length a0 : Nat) : Int) = ((List.length a1 : Nat) : Int)) then (some (((false, ()), ()), ())) else (l0 k a0 a1 0)
abbrev S : ShapeParts := ⟨[⟨false, [.lst tFunc]⟩, ⟨false, [.lst tFunc]⟩], [], false, [⟨false, [.bool]⟩], [], []⟩
def s (k : Nat) : FS := S.fs fun x => f k x.1.1.1 x.1.2.1.1
def E (k : Nat) : Ents := [(⟨40, []⟩, U162.s k)]
def L0 (l : T0) : LS R := ⟨[], [(0, ⟨false, [.lst tFunc]⟩), (1, ⟨false, [.lst tFunc]⟩), (5, ⟨false, [.int .i64]⟩)], [], fun x => l x.1.1.1 x.1.2.1.1 x.1.2.2.1.1⟩
def L (l0 : T0) : List (LS R) := [L0 l0]
def c : Code := Tryz.f17.body.getD .skip
theorem eq (k : Nat) (x) : (s k).pf x = execF tab (E k) Tryz.f17 c (s k) (L (l0 k)) x := by kernel_rfl
theorem r0 (l0 : T0) (k : Nat) (x) : (L0 (l0_ k l0)).l x = roundOf tab (E k) (L l0) c (fin tab Tryz.f17 (s k)) 0 (L0 l0) x := by kernel_rfl
theorem sound : ∀ k, Sound Tryz.prog 17 (s k) := snd S (fun k => (s k).pf) E (fun k => (EntsOK.cons (U162.sound k) EntsOK.nil)) (fun k => L (l0 k)) (fun k => ⟨⟨(L0 (l0 (k + 1))).l, rfl, fun x => r0 (l0 k) k x⟩, trivial⟩) eq
end U163
namespace U164
abbrev R := (((Bool × Unit) × Unit) × Unit)
def f (k : Nat) (a0 : tModuleD) (a1 : tModuleD) : Option R := Option.bind (U163.f k a0.1 a1.1) fun r1 => bif !r1.1.1.1 then (some (((false, ()), ()), ())) else (some (((true, ()), ()), ()))
abbrev S : ShapeParts := ⟨[⟨true, [.lst tFunc]⟩, ⟨true, [.lst tFunc]⟩], [], false, [⟨false, [.bool]⟩], [], []⟩
def s (k : Nat) : FS := S.fs fun x => f k x.1.1 x.1.2.1
def E (k : Nat) : Ents := [(⟨17, []⟩, U163.s k)]
def L : List (LS R) := []
def c : Code := Tryz.f8.body.getD .skip
theorem eq (k : Nat) (x) : (s k).pf x = execF tab (E k) Tryz.f8 c (s k) L x := by kernel_rfl
theorem sound : ∀ k, Sound Tryz.prog 8 (s k) := snd S (fun k => (s k).pf) E (fun k => (EntsOK.cons (U163.sound k) EntsOK.nil)) (fun k => L) (fun k => trivial) eq
end U164
namespace U165
abbrev R := (((Int × Unit) × Unit) × ((List Int) × Unit))
abbrev T0 : Type := Int → Int → (List Int) → Option R
def l0_ (k : Nat) (l0 : T0) (a0 : Int) (a1 : Int) (a2 : List Int) : Option R := bif decide (a1 < ((List.length a2 : Nat) : Int)) then (bif (decide (0 ≤ a1)) && (decide (a1 < ((List.length a2 : Nat) : Int))) then (l0 (IntKind.wrap .i64 (a0 + 1)) (IntKind.wrap .i64 (a1 + 1)) (List.set a2 (Int.toNat a1) a0)) else none) else (some (((a0, ()), ()), (a2, ())))
def all : Nat → (T0) × Unit
 | 0 => (fun _ _ _ => none, ())
 | k + 1 => (l0_ k (all k).1, ())
def l0 (k : Nat) : T0 := (all k).1
def f (k : Nat) (a0 : Int) (a1 : List Int) : Option R := l0 k a0 0 a1
abbrev S : ShapeParts := ⟨[⟨false, [.own 0]⟩, ⟨false, [.int .i64]⟩], [(0, .row true (.int .i64))], false, [⟨false, [.int .i64]⟩], [(0, .row true (.int .i64))], [0]⟩
def s (k : Nat) : FS := S.fs fun x => f k x.1.2.1.1 x.2.1
def E (k : Nat) : Ents := []
def L0 (l : T0) : LS R := ⟨[0], [(0, ⟨false, [.own 0]⟩), (1, ⟨false, [.int .i64]⟩), (5, ⟨false, [.int .i64]⟩)], [(0, .row true (.int .i64))], fun x => l x.1.2.1.1 x.1.2.2.1.1 x.2.1⟩
def L (l0 : T0) : List (LS R) := [L0 l0]
def c : Code := Tryz.f41.body.getD .skip
theorem eq (k : Nat) (x) : (s k).pf x = execF tab (E k) Tryz.f41 c (s k) (L (l0 k)) x := by kernel_rfl
theorem r0 (l0 : T0) (k : Nat) (x) : (L0 (l0_ k l0)).l x = roundOf tab (E k) (L l0) c (fin tab Tryz.f41 (s k)) 0 (L0 l0) x := by kernel_rfl
theorem sound : ∀ k, Sound Tryz.prog 41 (s k) := snd S (fun k => (s k).pf) E (fun k => EntsOK.nil) (fun k => L (l0 k)) (fun k => ⟨⟨(L0 (l0 (k + 1))).l, rfl, fun x => r0 (l0 k) k x⟩, trivial⟩) eq
end U165
namespace U166
abbrev R := (((Int × Unit) × Unit) × ((List tPhiD) × Unit))
abbrev T0 : Type := Int → Int → (List tPhiD) → Option R
def l0_ (k : Nat) (l0 : T0) (a0 : Int) (a1 : Int) (a2 : List tPhiD) : Option R := bif decide (a1 < ((List.length a2 : Nat) : Int)) then (bif (decide (0 ≤ a1)) && (decide (a1 < ((List.length a2 : Nat) : Int))) then (bif (decide (0 ≤ a1)) && (decide (a1 < ((List.length (updAt tPhiZ a2 (Int.toNat a1) (fun q_ => (a0, q_.2))) : Nat) : Int))) then (Option.bind (U165.f k (IntKind.wrap .i64 (a0 + 1)) ((List.getD (updAt tPhiZ a2 (Int.toNat a1) (fun q_ => (a0, q_.2))) (Int.toNat a1) tPhiZ).2.1)) fun r1 => l0 r1.1.1.1 (IntKind.wrap .i64 (a1 + 1)) (updAt tPhiZ (updAt tPhiZ a2 (Int.toNat a1) (fun q_ => (a0, q_.2))) (Int.toNat a1) (fun q_ => (q_.1, r1.2.1, q_.2.2)))) else none) else none) else (some (((a0, ()), ()), (a2, ())))
def all : Nat → (T0) × Unit
 | 0 => (fun _ _ _ => none, ())
 | k + 1 => (l0_ k (all k).1, ())
def l0 (k : Nat) : T0 := (all k).1
def f (k : Nat) (a0 : Int) (a1 : List tPhiD) : Option R := l0 k a0 0 a1
abbrev S : ShapeParts := ⟨[⟨false, [.own 0]⟩, ⟨false, [.int .i64]⟩], [(0, .row true tPhi)], false, [⟨false, [.int .i64]⟩], [(0, .row true tPhi)], [0]⟩
def s (k : Nat) : FS := S.fs fun x => f k x.1.2.1.1 x.2.1
def E (k : Nat) : Ents := [(⟨41, []⟩, U165.s k)]
def L0 (l : T0) : LS R := ⟨[0], [(0, ⟨false, [.own 0]⟩), (1, ⟨false, [.int .i64]⟩), (5, ⟨false, [.int .i64]⟩)], [(0, .row true tPhi)], fun x => l x.1.2.1.1 x.1.2.2.1.1 x.2.1⟩
def L (l0 : T0) : List (LS R) := [L0 l0]
def c : Code := Tryz.f79.body.getD .skip
theorem eq (k : Nat) (x) : (s k).pf x = execF tab (E k) Tryz.f79 c (s k) (L (l0 k)) x := by kernel_rfl
theorem r0 (l0 : T0) (k : Nat) (x) : (L0 (l0_ k l0)).l x = roundOf tab (E k) (L l0) c (fin tab Tryz.f79 (s k)) 0 (L0 l0) x := by kernel_rfl
theorem sound : ∀ k, Sound Tryz.prog 79 (s k) := snd S (fun k => (s k).pf) E (fun k => (EntsOK.cons (U165.sound k) EntsOK.nil)) (fun k => L (l0 k)) (fun k => ⟨⟨(L0 (l0 (k + 1))).l, rfl, fun x => r0 (l0 k) k x⟩, trivial⟩) eq
end U166
namespace U167
abbrev R := (((Int × Unit) × Unit) × ((List tInstD) × Unit))
abbrev T0 : Type := Int → Int → (List tInstD) → Option R
def l0_ (k : Nat) (l0 : T0) (a0 : Int) (a1 : Int) (a2 : List tInstD) : Option R := bif decide (a1 < ((List.length a2 : Nat) : Int)) then (bif (decide (0 ≤ a1)) && (decide (a1 < ((List.length a2 : Nat) : Int))) then (bif (decide (0 ≤ a1)) && (decide (a1 < ((List.length (updAt tInstZ a2 (Int.toNat a1) (fun q_ => (a0, q_.2))) : Nat) : Int))) then (bif (decide (0 ≤ a1)) && (decide (a1 < ((List.length (updAt tInstZ (updAt tInstZ a2 (Int.toNat a1) (fun q_ => (a0, q_.2))) (Int.toNat a1) (fun q_ => (q_.1, IntKind.wrap .i64 (a0 + 1), q_.2.2))) : Nat) : Int))) then (bif (decide (0 ≤ a1)) && (decide (a1 < ((List.length (updAt tInstZ (updAt tInstZ (updAt tInstZ a2 (Int.toNat a1) (fun q_ => (a0, q_.2))) (Int.toNat a1) (fun q_ => (q_.1, IntKind.wrap .i64 (a0 + 1), q_.2.2))) (Int.toNat a1) (fun q_ => (q_.1, q_.2.1, IntKind.wrap .i64 ((IntKind.wrap .i64 (a0 + 1)) + 1), q_.2.2.2))) : Nat) : Int))) then (bif (decide (0 ≤ a1)) && (decide (a1 < ((List.length (updAt tInstZ (updAt tInstZ (updAt tInstZ (updAt tInstZ a2 (Int.toNat a1) (fun q_ => (a0, q_.2))) (Int.toNat a1) (fun q_ => (q_.1, IntKind.wrap .i64 (a0 + 1), q_.2.2))) (Int.toNat a1) (fun q_ => (q_.1, q_.2.1, IntKind.wrap .i64 ((IntKind.wrap .i64 (a0 + 1)) + 1), q_.2.2.2))) (Int.toNat a1) (fun q_ => (q_.1, q_.2.1, q_.2.2.1, IntKind.wrap .i64 ((IntKind.wrap .i64 ((IntKind.wrap .i64 (a0 + 1)) + 1)) + 1), q_.2.2.2.2))) : Nat) : Int))) then (bif (decide (0 ≤ a1)) && (decide (a1 < ((List.length (updAt tInstZ (updAt tInstZ (updAt tInstZ (updAt tInstZ (updAt tInstZ a2 (Int.toNat a1) (fun q_ => (a0, q_.2))) (Int.toNat a1) (fun q_ => (q_.1, IntKind.wrap .i64 (a0 + 1), q_.2.2))) (Int.toNat a1) (fun q_ => (q_.1, q_.2.1, IntKind.wrap .i64 ((IntKind.wrap .i64 (a0 + 1)) + 1), q_.2.2.2))) (Int.toNat a1) (fun q_ => (q_.1, q_.2.1, q_.2.2.1, IntKind.wrap .i64 ((IntKind.wrap .i64 ((IntKind.wrap .i64 (a0 + 1)) + 1)) + 1), q_.2.2.2.2))) (Int.toNat a1) (fun q_ => (q_.1, q_.2.1, q_.2.2.1, q_.2.2.2.1, IntKind.wrap .i64 ((IntKind.wrap .i64 ((IntKind.wrap .i64 ((IntKind.wrap .i64 (a0 + 1)) + 1)) + 1)) + 1), q_.2.2.2.2.2))) : Nat) : Int))) then (bif (decide (0 ≤ a1)) && (decide (a1 < ((List.length (updAt tInstZ (updAt tInstZ (updAt tInstZ (updAt tInstZ (updAt tInstZ (updAt tInstZ a2 (Int.toNat a1) (fun q_ => (a0, q_.2))) (Int.toNat a1) (fun q_ => (q_.1, IntKind.wrap .i64 (a0 + 1), q_.2.2))) (Int.toNat a1) (fun q_ => (q_.1, q_.2.1, IntKind.wrap .i64 ((IntKind.wrap .i64 (a0 + 1)) + 1), q_.2.2.2))) (Int.toNat a1) (fun q_ => (q_.1, q_.2.1, q_.2.2.1, IntKind.wrap .i64 ((IntKind.wrap .i64 ((IntKind.wrap .i64 (a0 + 1)) + 1)) + 1), q_.2.2.2.2))) (Int.toNat a1) (fun q_ => (q_.1, q_.2.1, q_.2.2.1, q_.2.2.2.1, IntKind.wrap .i64 ((IntKind.wrap .i64 ((IntKind.wrap .i64 ((IntKind.wrap .i64 (a0 + 1)) + 1)) + 1)) + 1), q_.2.2.2.2.2))) (Int.toNat a1) (fun q_ => (q_.1, q_.2.1, q_.2.2.1, q_.2.2.2.1, q_.2.2.2.2.1, IntKind.wrap .i64 ((IntKind.wrap .i64 ((IntKind.wrap .i64 ((IntKind.wrap .i64 ((IntKind.wrap .i64 (a0 + 1)) + 1)) + 1)) + 1)) + 1), q_.2.2.2.2.2.2))) : Nat) : Int))) then (Option.bind (U165.f k (IntKind.wrap .i64 ((IntKind.wrap .i64 ((IntKind.wrap .i64 ((IntKind.wrap .i64 ((IntKind.wrap .i64 ((IntKind.wrap .i64 (a0 + 1)) + 1)) + 1)) + 1)) + 1)) + 1)) ((List.getD (updAt tInstZ (updAt tInstZ (updAt tInstZ (updAt tInstZ (updAt tInstZ (updAt tInstZ a2 (Int.toNat a1) (fun q_ => (a0, q_.2))) (Int.toNat a1) (fun q_ => (q_.1, IntKind.wrap .i64 (a0 + 1), q_.2.2))) (Int.toNat a1) (fun q_ => (q_.1, q_.2.1, IntKind.wrap .i64 ((IntKind.wrap .i64 (a0 + 1)) + 1), q_.2.2.2))) (Int.toNat a1) (fun q_ => (q_.1, q_.2.1, q_.2.2.1, IntKind.wrap .i64 ((IntKind.wrap .i64 ((IntKind.wrap .i64 (a0 + 1)) + 1)) + 1), q_.2.2.2.2))) (Int.toNat a1) (fun q_ => (q_.1, q_.2.1, q_.2.2.1, q_.2.2.2.1, IntKind.wrap .i64 ((IntKind.wrap .i64 ((IntKind.wrap .i64 ((IntKind.wrap .i64 (a0 + 1)) + 1)) + 1)) + 1), q_.2.2.2.2.2))) (Int.toNat a1) (fun q_ => (q_.1, q_.2.1, q_.2.2.1, q_.2.2.2.1, q_.2.2.2.2.1, IntKind.wrap .i64 ((IntKind.wrap .i64 ((IntKind.wrap .i64 ((IntKind.wrap .i64 ((IntKind.wrap .i64 (a0 + 1)) + 1)) + 1)) + 1)) + 1), q_.2.2.2.2.2.2))) (Int.toNat a1) tInstZ).2.2.2.2.2.2.1)) fun r1 => l0 r1.1.1.1 (IntKind.wrap .i64 (a1 + 1)) (updAt tInstZ (updAt tInstZ (updAt tInstZ (updAt tInstZ (updAt tInstZ (updAt tInstZ (updAt tInstZ a2 (Int.toNat a1) (fun q_ => (a0, q_.2))) (Int.toNat a1) (fun q_ => (q_.1, IntKind.wrap .i64 (a0 + 1), q_.2.2))) (Int.toNat a1) (fun q_ => (q_.1, q_.2.1, IntKind.wrap .i64 ((IntKind.wrap .i64 (a0 + 1)) + 1), q_.2.2.2))) (Int.toNat a1) (fun q_ => (q_.1, q_.2.1, q_.2.2.1, IntKind.wrap .i64 ((IntKind.wrap .i64 ((IntKind.wrap .i64 (a0 + 1)) + 1)) + 1), q_.2.2.2.2))) (Int.toNat a1) (fun q_ => (q_.1, q_.2.1, q_.2.2.1, q_.2.2.2.1, IntKind.wrap .i64 ((IntKind.wrap .i64 ((IntKind.wrap .i64 ((IntKind.wrap .i64 (a0 + 1)) + 1)) + 1)) + 1), q_.2.2.2.2.2))) (Int.toNat a1) (fun q_ => (q_.1, q_.2.1, q_.2.2.1, q_.2.2.2.1, q_.2.2.2.2.1, IntKind.wrap .i64 ((IntKind.wrap .i64 ((IntKind.wrap .i64 ((IntKind.wrap .i64 ((IntKind.wrap .i64 (a0 + 1)) + 1)) + 1)) + 1)) + 1), q_.2.2.2.2.2.2))) (Int.toNat a1) (fun q_ => (q_.1, q_.2.1, q_.2.2.1, q_.2.2.2.1, q_.2.2.2.2.1, q_.2.2.2.2.2.1, r1.2.1, q_.2.2.2.2.2.2.2)))) else none) else none) else none) else none) else none) else none) else none) else (some (((a0, ()), ()), (a2, ())))
def all : Nat → (T0) × Unit
 | 0 => (fun _ _ _ => none, ())
 | k + 1 => (l0_ k (all k).1, ())
def l0 (k : Nat) : T0 := (all k).1
def f (k : Nat) (a0 : Int) (a1 : List tInstD) : Option R := l0 k a0 0 a1
abbrev S : ShapeParts := ⟨[⟨false, [.own 0]⟩, ⟨false, [.int .i64]⟩], [(0, .row true tInst)], false, [⟨false, [.int .i64]⟩], [(0, .row true tInst)], [0]⟩
def s (k : Nat) : FS := S.fs fun x => f k x.1.2.1.1 x.2.1
def E (k : Nat) : Ents := [(⟨41, []⟩, U165.s k)]
def L0 (l : T0) : LS R := ⟨[0], [(0, ⟨false, [.own 0]⟩), (1, ⟨false, [.int .i64]⟩), (5, ⟨false, [.int .i64]⟩)], [(0, .row true tInst)], fun x => l x.1.2.1.1 x.1.2.2.1.1 x.2.1⟩
def L (l0 : T0) : List (LS R) := [L0 l0]
def c : Code := Tryz.f80.body.getD .skip
theorem eq (k : Nat) (x) : (s k).pf x = execF tab (E k) Tryz.f80 c (s k) (L (l0 k)) x := by kernel_rfl
theorem r0 (l0 : T0) (k : Nat) (x) : (L0 (l0_ k l0)).l x = roundOf tab (E k) (L l0) c (fin tab Tryz.f80 (s k)) 0 (L0 l0) x := by kernel_rfl
theorem sound : ∀ k, Sound Tryz.prog 80 (s k) := snd S (fun k => (s k).pf) E (fun k => (EntsOK.cons (U165.sound k) EntsOK.nil)) (fun k => L (l0 k)) (fun k => ⟨⟨(L0 (l0 (k + 1))).l, rfl, fun x => r0 (l0 k) k x⟩, trivial⟩) eq
end U167
namespace U168
abbrev R := (((Int × Unit) × Unit) × ((List tBlockD) × Unit))
abbrev T0 : Type := Int → Int → (List tBlockD) → Option R
def l0_ (k : Nat) (l0 : T0) (a0 : Int) (a1 : Int) (a2 : List tBlockD) : Option R := bif decide (a1 < ((List.length a2 : Nat) : Int)) then (bif (decide (0 ≤ a1)) && (decide (a1 < ((List.length a2 : Nat) : Int))) then (Option.bind (U166.f k a0 ((List.getD a2 (Int.toNat a1) tBlockZ).1)) fun r1 => bif (decide (0 ≤ a1)) && (decide (a1 < ((List.length (updAt tBlockZ a2 (Int.toNat a1) (fun q_ => (r1.2.1, q_.2))) : Nat) : Int))) then (Option.bind (U167.f k r1.1.1.1 ((List.getD (updAt tBlockZ a2 (Int.toNat a1) (fun q_ => (r1.2.1, q_.2))) (Int.toNat a1) tBlockZ).2.1)) fun r2 => bif (decide (0 ≤ a1)) && (decide (a1 < ((List.length (updAt tBlockZ (updAt tBlockZ a2 (Int.toNat a1) (fun q_ => (r1.2.1, q_.2))) (Int.toNat a1) (fun q_ => (q_.1, r2.2.1, q_.2.2))) : Nat) : Int))) then (bif (decide (0 ≤ a1)) && (decide (a1 < ((List.length (updAt tBlockZ (updAt tBlockZ (updAt tBlockZ a2 (Int.toNat a1) (fun q_ => (r1.2.1, q_.2))) (Int.toNat a1) (fun q_ => (q_.1, r2.2.1, q_.2.2))) (Int.toNat a1) (fun q_ => (q_.1, q_.2.1, r2.1.1.1, q_.2.2.2))) : Nat) : Int))) then (bif (decide (0 ≤ a1)) && (decide (a1 < ((List.length (updAt tBlockZ (updAt tBlockZ (updAt tBlockZ (updAt tBlockZ a2 (Int.toNat a1) (fun q_ => (r1.2.1, q_.2))) (Int.toNat a1) (fun q_ => (q_.1, r2.2.1, q_.2.2))) (Int.toNat a1) (fun q_ => (q_.1, q_.2.1, r2.1.1.1, q_.2.2.2))) (Int.toNat a1) (fun q_ => (q_.1, q_.2.1, q_.2.2.1, IntKind.wrap .i64 (r2.1.1.1 + 1), q_.2.2.2.2))) : Nat) : Int))) then (bif (decide (0 ≤ a1)) && (decide (a1 < ((List.length (updAt tBlockZ (updAt tBlockZ (updAt tBlockZ (updAt tBlockZ (updAt tBlockZ a2 (Int.toNat a1) (fun q_ => (r1.2.1, q_.2))) (Int.toNat a1) (fun q_ => (q_.1, r2.2.1, q_.2.2))) (Int.toNat a1) (fun q_ => (q_.1, q_.2.1, r2.1.1.1, q_.2.2.2))) (Int.toNat a1) (fun q_ => (q_.1, q_.2.1, q_.2.2.1, IntKind.wrap .i64 (r2.1.1.1 + 1), q_.2.2.2.2))) (Int.toNat a1) (fun q_ => (q_.1, q_.2.1, q_.2.2.1, q_.2.2.2.1, IntKind.wrap .i64 ((IntKind.wrap .i64 (r2.1.1.1 + 1)) + 1), q_.2.2.2.2.2))) : Nat) : Int))) then (l0 (IntKind.wrap .i64 ((IntKind.wrap .i64 ((IntKind.wrap .i64 ((IntKind.wrap .i64 (r2.1.1.1 + 1)) + 1)) + 1)) + 1)) (IntKind.wrap .i64 (a1 + 1)) (updAt tBlockZ (updAt tBlockZ (updAt tBlockZ (updAt tBlockZ (updAt tBlockZ (updAt tBlockZ a2 (Int.toNat a1) (fun q_ => (r1.2.1, q_.2))) (Int.toNat a1) (fun q_ => (q_.1, r2.2.1, q_.2.2))) (Int.toNat a1) (fun q_ => (q_.1, q_.2.1, r2.1.1.1, q_.2.2.2))) (Int.toNat a1) (fun q_ => (q_.1, q_.2.1, q_.2.2.1, IntKind.wrap .i64 (r2.1.1.1 + 1), q_.2.2.2.2))) (Int.toNat a1) (fun q_ => (q_.1, q_.2.1, q_.2.2.1, q_.2.2.2.1, IntKind.wrap .i64 ((IntKind.wrap .i64 (r2.1.1.1 + 1)) + 1), q_.2.2.2.2.2))) (Int.toNat a1) (fun q_ => (q_.1, q_.2.1, q_.2.2.1, q_.2.2.2.1, q_.2.2.2.2.1, IntKind.wrap .i64 ((IntKind.wrap .i64 ((IntKind.wrap .i64 (r2.1.1.1 + 1)) + 1)) + 1), q_.2.2.2.2.2.2)))) else none) else none) else none) else none) else none) else none) else (some (((a0, ()), ()), (a2, ())))
def all : Nat → (T0) × Unit
 | 0 => (fun _ _ _ => none, ())
 | k + 1 => (l0_ k (all k).1, ())
def l0 (k : Nat) : T0 := (all k).1
def f (k : Nat) (a0 : Int) (a1 : List tBlockD) : Option R := l0 k a0 0 a1
abbrev S : ShapeParts := ⟨[⟨false, [.own 0]⟩, ⟨false, [.int .i64]⟩], [(0, .row true tBlock)], false, [⟨false, [.int .i64]⟩], [(0, .row true tBlock)], [0]⟩
def s (k : Nat) : FS := S.fs fun x => f k x.1.2.1.1 x.2.1
def E (k : Nat) : Ents := [(⟨79, []⟩, U166.s k), (⟨80, []⟩, U167.s k)]
def L0 (l : T0) : LS R := ⟨[0], [(0, ⟨false, [.own 0]⟩), (1, ⟨false, [.int .i64]⟩), (5, ⟨false, [.int .i64]⟩)], [(0, .row true tBlock)], fun x => l x.1.2.1.1 x.1.2.2.1.1 x.2.1⟩
def L (l0 : T0) : List (LS R) := [L0 l0]
def c : Code := Tryz.f42.body.getD .skip
theorem eq (k : Nat) (x) : (s k).pf x = execF tab (E k) Tryz.f42 c (s k) (L (l0 k)) x := by kernel_rfl
theorem r0 (l0 : T0) (k : Nat) (x) : (L0 (l0_ k l0)).l x = roundOf tab (E k) (L l0) c (fin tab Tryz.f42 (s k)) 0 (L0 l0) x := by kernel_rfl
theorem sound : ∀ k, Sound Tryz.prog 42 (s k) := snd S (fun k => (s k).pf) E (fun k => (EntsOK.cons (U166.sound k) (EntsOK.cons (U167.sound k) EntsOK.nil))) (fun k => L (l0 k)) (fun k => ⟨⟨(L0 (l0 (k + 1))).l, rfl, fun x => r0 (l0 k) k x⟩, trivial⟩) eq
end U168
end
end Go.Proofs.YtbkpngmpdnnloaaGreatDoor.V
