/- PROVED HERE: what the functions that the law FnExactCleaned reaches do in memory, each as a plain Lean function, and what these tell: part 4 of 7 of the proof of that law; no condition beyond those written out at each theorem. -/
import Derived.Test.YtebgkcjpocfmmaaGreatZFnExactCleaned2
namespace Go.Proofs.YtebgkcjpocfmmaaGreat.V
open Go
set_option linter.unusedVariables false
set_option linter.unusedSimpArgs false
noncomputable section
namespace U57
abbrev R := (((Unit × Unit) × Unit) × ((List tl8BD) × Unit))
abbrev T0 : Type := Int → Int → tFuncD → (List tl8BD) → Option R
abbrev T1 : Type := Int → Int → Int → tFuncD → (List tl8BD) → (List tPhiD) → Int → Int → Int → Int → (List tInstD) → Int → Int → Int → Int → (List tl8PD) → (List tl8ID) → Option R
abbrev T2 : Type := Int → Int → Int → tFuncD → (List tl8BD) → tBlockD → Int → Int → Int → Int → (List tl8PD) → (List tl8ID) → Option R
def l0_ (k : Nat) (l0 : T0) (l1 : T1) (l2 : T2) (a0 : Int) (a1 : Int) (a2 : tFuncD) (a3 : List tl8BD) : Option R := bif decide (a1 < ((List.length a2.2.2.1 : Nat) : Int)) then (bif (decide (0 ≤ a1)) && (decide (a1 < ((List.length a2.2.2.1 : Nat) : Int))) then (Option.bind (U56.f k (List.getD a2.2.2.1 (Int.toNat a1) tBlockZ)) fun r1 => l1 a0 a1 0 a2 a3 r1.2.1 r1.1.1.2.2.1 r1.1.1.2.2.2.1 r1.1.1.2.2.2.2.1 r1.1.1.2.2.2.2.2.1 r1.2.2.1 r1.1.1.2.2.1 r1.1.1.2.2.2.1 r1.1.1.2.2.2.2.1 r1.1.1.2.2.2.2.2.1 ([] : List tl8PD) ([] : List tl8ID)) else none) else (some ((((), ()), ()), (a3, ())))
def l1_ (k : Nat) (l0 : T0) (l1 : T1) (l2 : T2) (a0 : Int) (a1 : Int) (a2 : Int) (a3 : tFuncD) (a4 : List tl8BD) (a5 : List tPhiD) (a6 : Int) (a7 : Int) (a8 : Int) (a9 : Int) (a10 : List tInstD) (a11 : Int) (a12 : Int) (a13 : Int) (a14 : Int) (a15 : List tl8PD) (a16 : List tl8ID) : Option R := bif decide (a2 < ((List.length a5 : Nat) : Int)) then (bif (decide (0 ≤ a2)) && (decide (a2 < ((List.length a5 : Nat) : Int))) then (bif decide ((List.length a15 + List.length [((a0, (List.getD a5 (Int.toNat a2) tPhiZ).1, (List.getD a5 (Int.toNat a2) tPhiZ).2.1, ()) : tl8PD)]) * 40 ≤ 140737488355328) then (l1 (IntKind.wrap .i64 (a0 + 1)) a1 (IntKind.wrap .i64 (a2 + 1)) a3 a4 a5 a6 a7 a8 a9 a10 a11 a12 a13 a14 (a15 ++ [((a0, (List.getD a5 (Int.toNat a2) tPhiZ).1, (List.getD a5 (Int.toNat a2) tPhiZ).2.1, ()) : tl8PD)]) a16) else none) else none) else (l2 a0 a1 0 a3 a4 (a5, a10, a6, a7, a8, a9, ()) a11 a12 a13 a14 a15 a16)
def l2_ (k : Nat) (l0 : T0) (l1 : T1) (l2 : T2) (a0 : Int) (a1 : Int) (a2 : Int) (a3 : tFuncD) (a4 : List tl8BD) (a5 : tBlockD) (a6 : Int) (a7 : Int) (a8 : Int) (a9 : Int) (a10 : List tl8PD) (a11 : List tl8ID) : Option R := bif decide (a2 < ((List.length a5.2.1 : Nat) : Int)) then (bif (decide (0 ≤ a2)) && (decide (a2 < ((List.length a5.2.1 : Nat) : Int))) then (bif decide ((List.length a11 + List.length [((a0, (List.getD a5.2.1 (Int.toNat a2) tInstZ).1, (List.getD a5.2.1 (Int.toNat a2) tInstZ).2.1, (List.getD a5.2.1 (Int.toNat a2) tInstZ).2.2.1, (List.getD a5.2.1 (Int.toNat a2) tInstZ).2.2.2.1, (List.getD a5.2.1 (Int.toNat a2) tInstZ).2.2.2.2.1, (List.getD a5.2.1 (Int.toNat a2) tInstZ).2.2.2.2.2.1, (List.getD a5.2.1 (Int.toNat a2) tInstZ).2.2.2.2.2.2.1, ()) : tl8ID)]) * 80 ≤ 140737488355328) then (l2 (IntKind.wrap .i64 (a0 + 1)) a1 (IntKind.wrap .i64 (a2 + 1)) a3 a4 a5 a6 a7 a8 a9 a10 (a11 ++ [((a0, (List.getD a5.2.1 (Int.toNat a2) tInstZ).1, (List.getD a5.2.1 (Int.toNat a2) tInstZ).2.1, (List.getD a5.2.1 (Int.toNat a2) tInstZ).2.2.1, (List.getD a5.2.1 (Int.toNat a2) tInstZ).2.2.2.1, (List.getD a5.2.1 (Int.toNat a2) tInstZ).2.2.2.2.1, (List.getD a5.2.1 (Int.toNat a2) tInstZ).2.2.2.2.2.1, (List.getD a5.2.1 (Int.toNat a2) tInstZ).2.2.2.2.2.2.1, ()) : tl8ID)])) else none) else none) else (bif decide ((List.length a4 + List.length [((a10, a11, a6, a7, a8, a9, ()) : tl8BD)]) * 80 ≤ 140737488355328) then (l0 a0 (IntKind.wrap .i64 (a1 + 1)) a3 (a4 ++ [((a10, a11, a6, a7, a8, a9, ()) : tl8BD)])) else none)
def all : Nat → (T0) × (T1) × (T2) × Unit
 | 0 => (fun _ _ _ _ => none, fun _ _ _ _ _ _ _ _ _ _ _ _ _ _ _ _ _ => none, fun _ _ _ _ _ _ _ _ _ _ _ _ => none, ())
 | k + 1 => (l0_ k (all k).1 (all k).2.1 (all k).2.2.1, l1_ k (all k).1 (all k).2.1 (all k).2.2.1, l2_ k (all k).1 (all k).2.1 (all k).2.2.1, ())
def l0 (k : Nat) : T0 := (all k).1
def l1 (k : Nat) : T1 := (all k).2.1
def l2 (k : Nat) : T2 := (all k).2.2.1
def f (k : Nat) (a0 : tFuncD) : Option R := l0 k ((List.length a0.1 : Nat) : Int) 0 a0 ([] : List tl8BD)
abbrev S : ShapeParts := ⟨[⟨true, [.lst (.int .i64), .int .i64, .lst tBlock]⟩], [], false, [⟨false, [.own 100]⟩], [(100, .row false tl8B)], []⟩
def s (k : Nat) : FS := S.fs fun x => f k x.1.1
def E (k : Nat) : Ents := [(⟨107, []⟩, U56.s k)]
def L0 (l : T0) : LS R := ⟨[], [(1, ⟨false, [.ptr 100000 0]⟩), (3, ⟨false, [.own 100001]⟩), (4, ⟨false, [.int .i64]⟩), (5, ⟨false, [.int .i64]⟩)], [(100000, .box [.lst (.int .i64), .int .i64, .lst tBlock]), (100001, .row false tl8B)], fun x => l x.1.2.2.1.1 x.1.2.2.2.1.1 x.2.1 x.2.2.1⟩
def L1 (l : T1) : LS R := ⟨[], [(1, ⟨false, [.ptr 100000 0]⟩), (3, ⟨false, [.own 100001]⟩), (4, ⟨false, [.int .i64]⟩), (5, ⟨false, [.int .i64]⟩), (6, ⟨false, [.ptr 100002 0]⟩), (7, ⟨false, [.ptr 100005 0]⟩), (8, ⟨false, [.int .i64]⟩)], [(100000, .box [.lst (.int .i64), .int .i64, .lst tBlock]), (100001, .row false tl8B), (100002, .box [.lst tPhi, .own 100004, .int .i64, .int .i64, .int .i64, .int .i64]), (100004, .row true tInst), (100005, .box [.own 100006, .own 100007, .int .i64, .int .i64, .int .i64, .int .i64]), (100006, .row false tl8P), (100007, .row false tl8I)], fun x => l x.1.2.2.1.1 x.1.2.2.2.1.1 x.1.2.2.2.2.2.2.1.1 x.2.1 x.2.2.1 x.2.2.2.1.1 x.2.2.2.1.2.2.1 x.2.2.2.1.2.2.2.1 x.2.2.2.1.2.2.2.2.1 x.2.2.2.1.2.2.2.2.2.1 x.2.2.2.2.1 x.2.2.2.2.2.1.2.2.1 x.2.2.2.2.2.1.2.2.2.1 x.2.2.2.2.2.1.2.2.2.2.1 x.2.2.2.2.2.1.2.2.2.2.2.1 x.2.2.2.2.2.2.1 x.2.2.2.2.2.2.2.1⟩
def L2 (l : T2) : LS R := ⟨[], [(1, ⟨false, [.ptr 100000 0]⟩), (3, ⟨false, [.own 100001]⟩), (4, ⟨false, [.int .i64]⟩), (5, ⟨false, [.int .i64]⟩), (6, ⟨false, [.ptr 100002 0]⟩), (7, ⟨false, [.ptr 100004 0]⟩), (9, ⟨false, [.int .i64]⟩)], [(100000, .box [.lst (.int .i64), .int .i64, .lst tBlock]), (100001, .row false tl8B), (100002, .box [.lst tPhi, .lst tInst, .int .i64, .int .i64, .int .i64, .int .i64]), (100004, .box [.own 100005, .own 100006, .int .i64, .int .i64, .int .i64, .int .i64]), (100005, .row false tl8P), (100006, .row false tl8I)], fun x => l x.1.2.2.1.1 x.1.2.2.2.1.1 x.1.2.2.2.2.2.2.1.1 x.2.1 x.2.2.1 x.2.2.2.1 x.2.2.2.2.1.2.2.1 x.2.2.2.2.1.2.2.2.1 x.2.2.2.2.1.2.2.2.2.1 x.2.2.2.2.1.2.2.2.2.2.1 x.2.2.2.2.2.1 x.2.2.2.2.2.2.1⟩
def L (l0 : T0) (l1 : T1) (l2 : T2) : List (LS R) := [L0 l0, L1 l1, L2 l2]
def c : Code := Tryz.f55.body.getD .skip
theorem eq (k : Nat) (x) : (s k).pf x = execF tab (E k) Tryz.f55 c (s k) (L (l0 k) (l1 k) (l2 k)) x := by kernel_rfl
theorem r0 (l0 : T0) (l1 : T1) (l2 : T2) (k : Nat) (x) : (L0 (l0_ k l0 l1 l2)).l x = roundOf tab (E k) (L l0 l1 l2) c (fin tab Tryz.f55 (s k)) 0 (L0 l0) x := by kernel_rfl
theorem r1 (l0 : T0) (l1 : T1) (l2 : T2) (k : Nat) (x) : (L1 (l1_ k l0 l1 l2)).l x = roundOf tab (E k) (L l0 l1 l2) c (fin tab Tryz.f55 (s k)) 1 (L1 l1) x := by kernel_rfl
theorem r2 (l0 : T0) (l1 : T1) (l2 : T2) (k : Nat) (x) : (L2 (l2_ k l0 l1 l2)).l x = roundOf tab (E k) (L l0 l1 l2) c (fin tab Tryz.f55 (s k)) 2 (L2 l2) x := by kernel_rfl
theorem sound : ∀ k, Sound Tryz.prog 55 (s k) := snd S (fun k => (s k).pf) E (fun k => (EntsOK.cons (U56.sound k) EntsOK.nil)) (fun k => L (l0 k) (l1 k) (l2 k)) (fun k => ⟨⟨(L0 (l0 (k + 1))).l, rfl, fun x => r0 (l0 k) (l1 k) (l2 k) k x⟩, ⟨(L1 (l1 (k + 1))).l, rfl, fun x => r1 (l0 k) (l1 k) (l2 k) k x⟩, ⟨(L2 (l2 (k + 1))).l, rfl, fun x => r2 (l0 k) (l1 k) (l2 k) k x⟩, trivial⟩) eq
end U57
namespace U58
abbrev R := (((Unit × Int × Unit × Unit) × Unit) × ((List Int) × (List tBlockD) × Unit))
abbrev T0 : Type := Int → tFuncD → Int → (List Int) → (List tBlockD) → Int → (List Int) → (List tBlockD) → Option R
def l0_ (k : Nat) (l0 : T0) (a0 : Int) (a1 : tFuncD) (a2 : Int) (a3 : List Int) (a4 : List tBlockD) (a5 : Int) (a6 : List Int) (a7 : List tBlockD) : Option R := bif decide (a0 < ((List.length a1.2.2.1 : Nat) : Int)) then (bif (decide (0 ≤ a0)) && (decide (a0 < ((List.length a1.2.2.1 : Nat) : Int))) then (Option.bind (U56.f k (List.getD a1.2.2.1 (Int.toNat a0) tBlockZ)) fun r1 => bif decide ((List.length a7 + List.length [((r1.2.1, r1.2.2.1, r1.1.1.2.2.1, r1.1.1.2.2.2.1, r1.1.1.2.2.2.2.1, r1.1.1.2.2.2.2.2.1, ()) : tBlockD)]) * 80 ≤ 140737488355328) then (l0 (IntKind.wrap .i64 (a0 + 1)) a1 a2 a3 a4 a5 a6 (a7 ++ [((r1.2.1, r1.2.2.1, r1.1.1.2.2.1, r1.1.1.2.2.2.1, r1.1.1.2.2.2.2.1, r1.1.1.2.2.2.2.2.1, ()) : tBlockD)])) else none) else none) else (some ((((), a5, (), ()), ()), (a6, a7, ())))
def all : Nat → (T0) × Unit
 | 0 => (fun _ _ _ _ _ _ _ _ => none, ())
 | k + 1 => (l0_ k (all k).1, ())
def l0 (k : Nat) : T0 := (all k).1
def f (k : Nat) (a0 : tFuncD) : Option R := Option.bind (U24.f k a0.1) fun r1 => l0 k 0 a0 0 ([] : List Int) ([] : List tBlockD) a0.2.1 r1.2.1 ([] : List tBlockD)
abbrev S : ShapeParts := ⟨[⟨true, [.lst (.int .i64), .int .i64, .lst tBlock]⟩], [], false, [⟨true, [.own 100, .int .i64, .own 101]⟩], [(100, .row true (.int .i64)), (101, .row true tBlock)], []⟩
def s (k : Nat) : FS := S.fs fun x => f k x.1.1
def E (k : Nat) : Ents := [(⟨51, []⟩, U24.s k), (⟨107, []⟩, U56.s k)]
def L0 (l : T0) : LS R := ⟨[], [(1, ⟨false, [.ptr 100000 0]⟩), (2, ⟨false, [.ptr 100001 0]⟩), (3, ⟨false, [.ptr 100004 0]⟩), (4, ⟨false, [.int .i64]⟩)], [(100000, .box [.lst (.int .i64), .int .i64, .lst tBlock]), (100001, .box [.own 100002, .int .i64, .own 100003]), (100002, .row true (.int .i64)), (100003, .row true tBlock), (100004, .box [.own 100005, .int .i64, .own 100006]), (100005, .row true (.int .i64)), (100006, .row true tBlock)], fun x => l x.1.2.2.2.1.1 x.2.1 x.2.2.1.2.1 x.2.2.2.1 x.2.2.2.2.1 x.2.2.2.2.2.1.2.1 x.2.2.2.2.2.2.1 x.2.2.2.2.2.2.2.1⟩
def L (l0 : T0) : List (LS R) := [L0 l0]
def c : Code := Tryz.f68.body.getD .skip
theorem eq (k : Nat) (x) : (s k).pf x = execF tab (E k) Tryz.f68 c (s k) (L (l0 k)) x := by kernel_rfl
theorem r0 (l0 : T0) (k : Nat) (x) : (L0 (l0_ k l0)).l x = roundOf tab (E k) (L l0) c (fin tab Tryz.f68 (s k)) 0 (L0 l0) x := by kernel_rfl
theorem sound : ∀ k, Sound Tryz.prog 68 (s k) := snd S (fun k => (s k).pf) E (fun k => (EntsOK.cons (U24.sound k) (EntsOK.cons (U56.sound k) EntsOK.nil))) (fun k => L (l0 k)) (fun k => ⟨⟨(L0 (l0 (k + 1))).l, rfl, fun x => r0 (l0 k) k x⟩, trivial⟩) eq
end U58
namespace U59
abbrev R := (((Int × Int × Int × Int × Int × Int × Unit × Unit) × Unit) × ((List Int) × Unit))
abbrev T0 : Type := (List Int) → Int → tInstD → Int → Int → Int → Int → Int → Int → (List Int) → Int → Int → Int → Int → Int → Int → (List Int) → Option R
def l0_ (k : Nat) (l0 : T0) (a0 : List Int) (a1 : Int) (a2 : tInstD) (a3 : Int) (a4 : Int) (a5 : Int) (a6 : Int) (a7 : Int) (a8 : Int) (a9 : List Int) (a10 : Int) (a11 : Int) (a12 : Int) (a13 : Int) (a14 : Int) (a15 : Int) (a16 : List Int) : Option R := bif decide (a1 < ((List.length a16 : Nat) : Int)) then (bif (decide (0 ≤ a1)) && (decide (a1 < ((List.length a2.2.2.2.2.2.2.1 : Nat) : Int))) then (bif (decide (0 ≤ List.getD a2.2.2.2.2.2.2.1 (Int.toNat a1) 0)) && (decide (List.getD a2.2.2.2.2.2.2.1 (Int.toNat a1) 0 < ((List.length a0 : Nat) : Int))) then (bif (decide (0 ≤ a1)) && (decide (a1 < ((List.length a16 : Nat) : Int))) then (l0 a0 (IntKind.wrap .i64 (a1 + 1)) a2 a3 a4 a5 a6 a7 a8 a9 a10 a11 a12 a13 a14 a15 (List.set a16 (Int.toNat a1) (List.getD a0 (Int.toNat (List.getD a2.2.2.2.2.2.2.1 (Int.toNat a1) 0)) 0))) else none) else none) else none) else (some (((a10, a11, a12, a13, a14, a15, (), ()), ()), (a16, ())))
def all : Nat → (T0) × Unit
 | 0 => (fun _ _ _ _ _ _ _ _ _ _ _ _ _ _ _ _ _ => none, ())
 | k + 1 => (l0_ k (all k).1, ())
def l0 (k : Nat) : T0 := (all k).1
def f (k : Nat) (a0 : tInstD) (a1 : List Int) : Option R := Option.bind (U55.f k a0) fun r1 => Option.bind (U25.f k a0) fun r2 => bif decide (a0.1 = 26) then (l0 k a1 0 a0 0 0 0 0 0 0 ([] : List Int) r1.1.1.1 r1.1.1.2.1 r1.1.1.2.2.1 r1.1.1.2.2.2.1 r1.1.1.2.2.2.2.1 r1.1.1.2.2.2.2.2.1 r1.2.1) else (bif decide (0 < ((List.length r2.2.1 : Nat) : Int)) then (bif (decide (0 ≤ a0.2.2.1)) && (decide (a0.2.2.1 < ((List.length a1 : Nat) : Int))) then (bif decide (1 < ((List.length r2.2.1 : Nat) : Int)) then (bif (decide (0 ≤ a0.2.2.2.1)) && (decide (a0.2.2.2.1 < ((List.length a1 : Nat) : Int))) then (bif decide (2 < ((List.length r2.2.1 : Nat) : Int)) then (bif (decide (0 ≤ a0.2.2.2.2.1)) && (decide (a0.2.2.2.2.1 < ((List.length a1 : Nat) : Int))) then (some (((r1.1.1.1, r1.1.1.2.1, List.getD a1 (Int.toNat a0.2.2.1) 0, List.getD a1 (Int.toNat a0.2.2.2.1) 0, List.getD a1 (Int.toNat a0.2.2.2.2.1) 0, r1.1.1.2.2.2.2.2.1, (), ()), ()), (r1.2.1, ()))) else none) else (some (((r1.1.1.1, r1.1.1.2.1, List.getD a1 (Int.toNat a0.2.2.1) 0, List.getD a1 (Int.toNat a0.2.2.2.1) 0, r1.1.1.2.2.2.2.1, r1.1.1.2.2.2.2.2.1, (), ()), ()), (r1.2.1, ())))) else none) else (bif decide (2 < ((List.length r2.2.1 : Nat) : Int)) then (bif (decide (0 ≤ a0.2.2.2.2.1)) && (decide (a0.2.2.2.2.1 < ((List.length a1 : Nat) : Int))) then (some (((r1.1.1.1, r1.1.1.2.1, List.getD a1 (Int.toNat a0.2.2.1) 0, r1.1.1.2.2.2.1, List.getD a1 (Int.toNat a0.2.2.2.2.1) 0, r1.1.1.2.2.2.2.2.1, (), ()), ()), (r1.2.1, ()))) else none) else (some (((r1.1.1.1, r1.1.1.2.1, List.getD a1 (Int.toNat a0.2.2.1) 0, r1.1.1.2.2.2.1, r1.1.1.2.2.2.2.1, r1.1.1.2.2.2.2.2.1, (), ()), ()), (r1.2.1, ()))))) else none) else (bif decide (1 < ((List.length r2.2.1 : Nat) : Int)) then (bif (decide (0 ≤ a0.2.2.2.1)) && (decide (a0.2.2.2.1 < ((List.length a1 : Nat) : Int))) then (bif decide (2 < ((List.length r2.2.1 : Nat) : Int)) then (bif (decide (0 ≤ a0.2.2.2.2.1)) && (decide (a0.2.2.2.2.1 < ((List.length a1 : Nat) : Int))) then (some (((r1.1.1.1, r1.1.1.2.1, r1.1.1.2.2.1, List.getD a1 (Int.toNat a0.2.2.2.1) 0, List.getD a1 (Int.toNat a0.2.2.2.2.1) 0, r1.1.1.2.2.2.2.2.1, (), ()), ()), (r1.2.1, ()))) else none) else (some (((r1.1.1.1, r1.1.1.2.1, r1.1.1.2.2.1, List.getD a1 (Int.toNat a0.2.2.2.1) 0, r1.1.1.2.2.2.2.1, r1.1.1.2.2.2.2.2.1, (), ()), ()), (r1.2.1, ())))) else none) else (bif decide (2 < ((List.length r2.2.1 : Nat) : Int)) then (bif (decide (0 ≤ a0.2.2.2.2.1)) && (decide (a0.2.2.2.2.1 < ((List.length a1 : Nat) : Int))) then (some (((r1.1.1.1, r1.1.1.2.1, r1.1.1.2.2.1, r1.1.1.2.2.2.1, List.getD a1 (Int.toNat a0.2.2.2.2.1) 0, r1.1.1.2.2.2.2.2.1, (), ()), ()), (r1.2.1, ()))) else none) else (some (((r1.1.1.1, r1.1.1.2.1, r1.1.1.2.2.1, r1.1.1.2.2.2.1, r1.1.1.2.2.2.2.1, r1.1.1.2.2.2.2.2.1, (), ()), ()), (r1.2.1, ()))))))
abbrev S : ShapeParts := ⟨[⟨true, [.int .i64, .int .i64, .int .i64, .int .i64, .int .i64, .int .i64, .lst (.int .i64)]⟩, ⟨false, [.lst (.int .i64)]⟩], [], false, [⟨true, [.int .i64, .int .i64, .int .i64, .int .i64, .int .i64, .int .i64, .own 100]⟩], [(100, .row true (.int .i64))], []⟩
def s (k : Nat) : FS := S.fs fun x => f k x.1.1 x.1.2.1.1
def E (k : Nat) : Ents := [(⟨126, []⟩, U55.s k), (⟨54, []⟩, U25.s k)]
def L0 (l : T0) : LS R := ⟨[], [(1, ⟨false, [.lst (.int .i64)]⟩), (2, ⟨false, [.ptr 100000 0]⟩), (4, ⟨false, [.ptr 100001 0]⟩), (5, ⟨false, [.ptr 100003 0]⟩), (7, ⟨false, [.int .i64]⟩)], [(100000, .box [.int .i64, .int .i64, .int .i64, .int .i64, .int .i64, .int .i64, .lst (.int .i64)]), (100001, .box [.int .i64, .int .i64, .int .i64, .int .i64, .int .i64, .int .i64, .own 100002]), (100002, .row true (.int .i64)), (100003, .box [.int .i64, .int .i64, .int .i64, .int .i64, .int .i64, .int .i64, .own 100004]), (100004, .row true (.int .i64))], fun x => l x.1.1.1 x.1.2.2.2.2.1.1 x.2.1 x.2.2.1.1 x.2.2.1.2.1 x.2.2.1.2.2.1 x.2.2.1.2.2.2.1 x.2.2.1.2.2.2.2.1 x.2.2.1.2.2.2.2.2.1 x.2.2.2.1 x.2.2.2.2.1.1 x.2.2.2.2.1.2.1 x.2.2.2.2.1.2.2.1 x.2.2.2.2.1.2.2.2.1 x.2.2.2.2.1.2.2.2.2.1 x.2.2.2.2.1.2.2.2.2.2.1 x.2.2.2.2.2.1⟩
def L (l0 : T0) : List (LS R) := [L0 l0]
def c : Code := Tryz.f97.body.getD .skip
theorem eq (k : Nat) (x) : (s k).pf x = execF tab (E k) Tryz.f97 c (s k) (L (l0 k)) x := by kernel_rfl
theorem r0 (l0 : T0) (k : Nat) (x) : (L0 (l0_ k l0)).l x = roundOf tab (E k) (L l0) c (fin tab Tryz.f97 (s k)) 0 (L0 l0) x := by kernel_rfl
theorem sound : ∀ k, Sound Tryz.prog 97 (s k) := snd S (fun k => (s k).pf) E (fun k => (EntsOK.cons (U55.sound k) (EntsOK.cons (U25.sound k) EntsOK.nil))) (fun k => L (l0 k)) (fun k => ⟨⟨(L0 (l0 (k + 1))).l, rfl, fun x => r0 (l0 k) k x⟩, trivial⟩) eq
end U59
namespace U60
abbrev R := (((Int × Int × Int × Int × Unit) × Unit) × Unit)
def f (k : Nat) (a0 : tTermD) (a1 : List Int) : Option R := bif decide (a0.1 = 1) then (bif (decide (0 ≤ a0.2.1)) && (decide (a0.2.1 < ((List.length a1 : Nat) : Int))) then (some (((a0.1, List.getD a1 (Int.toNat a0.2.1) 0, a0.2.2.1, a0.2.2.2.1, ()), ()), ())) else none) else (bif decide (a0.1 = 3) then (bif (decide (0 ≤ a0.2.1)) && (decide (a0.2.1 < ((List.length a1 : Nat) : Int))) then (some (((a0.1, List.getD a1 (Int.toNat a0.2.1) 0, a0.2.2.1, a0.2.2.2.1, ()), ()), ())) else none) else (some ((a0, ()), ())))
abbrev S : ShapeParts := ⟨[⟨true, [.int .i64, .int .i64, .int .i64, .int .i64]⟩, ⟨false, [.lst (.int .i64)]⟩], [], false, [⟨true, [.int .i64, .int .i64, .int .i64, .int .i64]⟩], [], []⟩
def s (k : Nat) : FS := S.fs fun x => f k x.1.1 x.1.2.1.1
def E (k : Nat) : Ents := []
def L : List (LS R) := []
def c : Code := Tryz.f98.body.getD .skip
theorem eq (k : Nat) (x) : (s k).pf x = execF tab (E k) Tryz.f98 c (s k) L x := by kernel_rfl
theorem sound : ∀ k, Sound Tryz.prog 98 (s k) := snd S (fun k => (s k).pf) E (fun k => EntsOK.nil) (fun k => L) (fun k => trivial) eq
end U60
namespace U61
abbrev R := (((Unit × Int × Unit × Unit) × Unit) × ((List Int) × (List tBlockD) × Unit))
abbrev T0 : Type := (List Int) → Int → tFuncD → Int → (List Int) → (List tBlockD) → Int → (List Int) → (List tBlockD) → Option R
abbrev T1 : Type := (List Int) → Int → Int → tFuncD → Int → (List Int) → (List tBlockD) → Int → (List Int) → (List tBlockD) → Nat → Int → Int → Int → Int → (List tPhiD) → (List tInstD) → Int → Int → Int → Int → Option R
abbrev T2 : Type := (List Int) → Int → Int → Int → tFuncD → Int → (List Int) → (List tBlockD) → Int → (List Int) → (List tBlockD) → Nat → Int → Int → Int → Int → (List tPhiD) → Nat → Int → (List Int) → (List tInstD) → Int → Int → Int → Int → Option R
def l0_ (k : Nat) (l0 : T0) (l1 : T1) (l2 : T2) (l3 : T1) (a0 : List Int) (a1 : Int) (a2 : tFuncD) (a3 : Int) (a4 : List Int) (a5 : List tBlockD) (a6 : Int) (a7 : List Int) (a8 : List tBlockD) : Option R := bif decide (a1 < ((List.length a2.2.2.1 : Nat) : Int)) then (bif (decide (0 ≤ a1)) && (decide (a1 < ((List.length a8 : Nat) : Int))) then (bif (decide (0 ≤ a1)) && (decide (a1 < ((List.length a8 : Nat) : Int))) then (bif decide (Int.toNat a1 = Int.toNat a1) then (l1 a0 a1 0 a2 a3 a4 a5 a6 a7 a8 (Int.toNat a1) ((List.getD a8 (Int.toNat a1) tBlockZ).2.2.1) ((List.getD a8 (Int.toNat a1) tBlockZ).2.2.2.1) ((List.getD a8 (Int.toNat a1) tBlockZ).2.2.2.2.1) ((List.getD a8 (Int.toNat a1) tBlockZ).2.2.2.2.2.1) ((List.getD a8 (Int.toNat a1) tBlockZ).1) ((List.getD a8 (Int.toNat a1) tBlockZ).2.1) ((List.getD a8 (Int.toNat a1) tBlockZ).2.2.1) ((List.getD a8 (Int.toNat a1) tBlockZ).2.2.2.1) ((List.getD a8 (Int.toNat a1) tBlockZ).2.2.2.2.1) ((List.getD a8 (Int.toNat a1) tBlockZ).2.2.2.2.2.1)) else none) else none) else none) else (some ((((), a6, (), ()), ()), (a7, a8, ())))
def l1_ (k : Nat) (l0 : T0) (l1 : T1) (l2 : T2) (l3 : T1) (a0 : List Int) (a1 : Int) (a2 : Int) (a3 : tFuncD) (a4 : Int) (a5 : List Int) (a6 : List tBlockD) (a7 : Int) (a8 : List Int) (a9 : List tBlockD) (a10 : Nat) (a11 : Int) (a12 : Int) (a13 : Int) (a14 : Int) (a15 : List tPhiD) (a16 : List tInstD) (a17 : Int) (a18 : Int) (a19 : Int) (a20 : Int) : Option R := bif decide (a2 < ((List.length a15 : Nat) : Int)) then (bif (decide (0 ≤ a2)) && (decide (a2 < ((List.length a15 : Nat) : Int))) then (l2 a0 a1 a2 0 a3 a4 a5 a6 a7 a8 a9 a10 a11 a12 a13 a14 a15 (Int.toNat a2) ((List.getD a15 (Int.toNat a2) tPhiZ).1) ((List.getD a15 (Int.toNat a2) tPhiZ).2.1) a16 a17 a18 a19 a20) else none) else (l3 a0 a1 0 a3 a4 a5 a6 a7 a8 a9 a10 a11 a12 a13 a14 a15 a16 a17 a18 a19 a20)
def l2_ (k : Nat) (l0 : T0) (l1 : T1) (l2 : T2) (l3 : T1) (a0 : List Int) (a1 : Int) (a2 : Int) (a3 : Int) (a4 : tFuncD) (a5 : Int) (a6 : List Int) (a7 : List tBlockD) (a8 : Int) (a9 : List Int) (a10 : List tBlockD) (a11 : Nat) (a12 : Int) (a13 : Int) (a14 : Int) (a15 : Int) (a16 : List tPhiD) (a17 : Nat) (a18 : Int) (a19 : List Int) (a20 : List tInstD) (a21 : Int) (a22 : Int) (a23 : Int) (a24 : Int) : Option R := bif (decide (0 ≤ a2)) && (decide (a2 < ((List.length a16 : Nat) : Int))) then (bif decide (Int.toNat a2 = a17) then (bif decide (a3 < ((List.length a19 : Nat) : Int)) then (bif (decide (0 ≤ a2)) && (decide (a2 < ((List.length a16 : Nat) : Int))) then (bif decide (Int.toNat a2 = a17) then (bif (decide (0 ≤ a2)) && (decide (a2 < ((List.length a16 : Nat) : Int))) then (bif decide (Int.toNat a2 = a17) then (bif (decide (0 ≤ a3)) && (decide (a3 < ((List.length a19 : Nat) : Int))) then (bif (decide (0 ≤ List.getD a19 (Int.toNat a3) 0)) && (decide (List.getD a19 (Int.toNat a3) 0 < ((List.length a0 : Nat) : Int))) then (bif (decide (0 ≤ a3)) && (decide (a3 < ((List.length a19 : Nat) : Int))) then (l2 a0 a1 a2 (IntKind.wrap .i64 (a3 + 1)) a4 a5 a6 a7 a8 a9 a10 a11 a12 a13 a14 a15 a16 a17 a18 (List.set a19 (Int.toNat a3) (List.getD a0 (Int.toNat (List.getD a19 (Int.toNat a3) 0)) 0)) a20 a21 a22 a23 a24) else none) else none) else none) else none) else none) else none) else none) else (l1 a0 a1 (IntKind.wrap .i64 (a2 + 1)) a4 a5 a6 a7 a8 a9 a10 a11 a12 a13 a14 a15 (List.set a16 a17 (a18, a19, ())) a20 a21 a22 a23 a24)) else none) else none
def l3_ (k : Nat) (l0 : T0) (l1 : T1) (l2 : T2) (l3 : T1) (a0 : List Int) (a1 : Int) (a2 : Int) (a3 : tFuncD) (a4 : Int) (a5 : List Int) (a6 : List tBlockD) (a7 : Int) (a8 : List Int) (a9 : List tBlockD) (a10 : Nat) (a11 : Int) (a12 : Int) (a13 : Int) (a14 : Int) (a15 : List tPhiD) (a16 : List tInstD) (a17 : Int) (a18 : Int) (a19 : Int) (a20 : Int) : Option R := bif decide (a2 < ((List.length a16 : Nat) : Int)) then (bif (decide (0 ≤ a2)) && (decide (a2 < ((List.length a16 : Nat) : Int))) then (bif (decide (0 ≤ a2)) && (decide (a2 < ((List.length a16 : Nat) : Int))) then (bif decide (Int.toNat a2 = Int.toNat a2) then (Option.bind (U59.f k (List.getD a16 (Int.toNat a2) tInstZ) a0) fun r1 => bif (decide (0 ≤ a2)) && (decide (a2 < ((List.length a16 : Nat) : Int))) then (bif decide (Int.toNat a2 = Int.toNat a2) then (l3 a0 a1 (IntKind.wrap .i64 (a2 + 1)) a3 a4 a5 a6 a7 a8 a9 a10 a11 a12 a13 a14 a15 (List.set a16 (Int.toNat a2) (r1.1.1.1, r1.1.1.2.1, r1.1.1.2.2.1, r1.1.1.2.2.2.1, r1.1.1.2.2.2.2.1, r1.1.1.2.2.2.2.2.1, r1.2.1, ())) a17 a18 a19 a20) else none) else none) else none) else none) else none) else (Option.bind (U60.f k (a17, (a18, (a19, (a20, ())))) a0) fun r2 => bif (decide (0 ≤ a1)) && (decide (a1 < ((List.length a9 : Nat) : Int))) then (bif decide (Int.toNat a1 = a10) then (l0 a0 (IntKind.wrap .i64 (a1 + 1)) a3 a4 a5 a6 a7 a8 (List.set a9 a10 (a15, a16, r2.1.1.1, r2.1.1.2.1, r2.1.1.2.2.1, r2.1.1.2.2.2.1, ()))) else none) else none)
def all : Nat → (T0) × (T1) × (T2) × (T1) × Unit
 | 0 => (fun _ _ _ _ _ _ _ _ _ => none, fun _ _ _ _ _ _ _ _ _ _ _ _ _ _ _ _ _ _ _ _ _ => none, fun _ _ _ _ _ _ _ _ _ _ _ _ _ _ _ _ _ _ _ _ _ _ _ _ _ => none, fun _ _ _ _ _ _ _ _ _ _ _ _ _ _ _ _ _ _ _ _ _ => none, ())
 | k + 1 => (l0_ k (all k).1 (all k).2.1 (all k).2.2.1 (all k).2.2.2.1, l1_ k (all k).1 (all k).2.1 (all k).2.2.1 (all k).2.2.2.1, l2_ k (all k).1 (all k).2.1 (all k).2.2.1 (all k).2.2.2.1, l3_ k (all k).1 (all k).2.1 (all k).2.2.1 (all k).2.2.2.1, ())
def l0 (k : Nat) : T0 := (all k).1
def l1 (k : Nat) : T1 := (all k).2.1
def l2 (k : Nat) : T2 := (all k).2.2.1
def l3 (k : Nat) : T1 := (all k).2.2.2.1
def f (k : Nat) (a0 : tFuncD) (a1 : List Int) : Option R := Option.bind (U58.f k a0) fun r1 => l0 k a1 0 a0 0 ([] : List Int) ([] : List tBlockD) r1.1.1.2.1 r1.2.1 r1.2.2.1
abbrev S : ShapeParts := ⟨[⟨true, [.lst (.int .i64), .int .i64, .lst tBlock]⟩, ⟨false, [.lst (.int .i64)]⟩], [], false, [⟨true, [.own 100, .int .i64, .own 101]⟩], [(100, .row true (.int .i64)), (101, .row true tBlock)], []⟩
def s (k : Nat) : FS := S.fs fun x => f k x.1.1 x.1.2.1.1
def E (k : Nat) : Ents := [(⟨68, []⟩, U58.s k), (⟨97, []⟩, U59.s k), (⟨98, []⟩, U60.s k), (⟨68, [999998, 5, 1, 100006, 6, 2000000]⟩, U58.s k), (⟨68, [999998, 9, 1, 100007, 8, 2000100]⟩, U58.s k), (⟨68, [999998, 8, 2, 100007]⟩, U58.s k), (⟨68, [999998, 16, 1, 100008, 10, 2000200]⟩, U58.s k), (⟨68, [999998, 15, 2, 100008]⟩, U58.s k), (⟨68, [999998, 4, 2, 100006]⟩, U58.s k)]
def L0 (l : T0) : LS R := ⟨[], [(1, ⟨false, [.lst (.int .i64)]⟩), (2, ⟨false, [.ptr 100000 0]⟩), (4, ⟨false, [.ptr 100001 0]⟩), (5, ⟨false, [.ptr 100004 0]⟩), (6, ⟨false, [.int .i64]⟩)], [(100000, .box [.lst (.int .i64), .int .i64, .lst tBlock]), (100001, .box [.own 100002, .int .i64, .own 100003]), (100002, .row true (.int .i64)), (100003, .row true tBlock), (100004, .box [.own 100005, .int .i64, .own 100006]), (100005, .row true (.int .i64)), (100006, .row true tBlock)], fun x => l x.1.1.1 x.1.2.2.2.2.1.1 x.2.1 x.2.2.1.2.1 x.2.2.2.1 x.2.2.2.2.1 x.2.2.2.2.2.1.2.1 x.2.2.2.2.2.2.1 x.2.2.2.2.2.2.2.1⟩
def L1 (l : T1) : LS R := ⟨[], [(1, ⟨false, [.lst (.int .i64)]⟩), (2, ⟨false, [.ptr 100000 0]⟩), (4, ⟨false, [.ptr 100001 0]⟩), (5, ⟨false, [.ptr 100004 0]⟩), (6, ⟨false, [.int .i64]⟩), (7, ⟨false, [.ptr 100009 0]⟩), (8, ⟨false, [.int .i64]⟩)], [(100000, .box [.lst (.int .i64), .int .i64, .lst tBlock]), (100001, .box [.own 100002, .int .i64, .own 100003]), (100002, .row true (.int .i64)), (100003, .row true tBlock), (100004, .box [.own 100005, .int .i64, .own 100006]), (100005, .row true (.int .i64)), (100006, .orow tBlock [.own 100007, .own 100008, .int .i64, .int .i64, .int .i64, .int .i64]), (100007, .row true tPhi), (100008, .row true tInst), (100009, .box [.own 100007, .own 100008, .int .i64, .int .i64, .int .i64, .int .i64])], fun x => l x.1.1.1 x.1.2.2.2.2.1.1 x.1.2.2.2.2.2.2.1.1 x.2.1 x.2.2.1.2.1 x.2.2.2.1 x.2.2.2.2.1 x.2.2.2.2.2.1.2.1 x.2.2.2.2.2.2.1 x.2.2.2.2.2.2.2.1.1.1 x.2.2.2.2.2.2.2.1.1.2 x.2.2.2.2.2.2.2.1.2.2.2.1 x.2.2.2.2.2.2.2.1.2.2.2.2.1 x.2.2.2.2.2.2.2.1.2.2.2.2.2.1 x.2.2.2.2.2.2.2.1.2.2.2.2.2.2.1 x.2.2.2.2.2.2.2.2.1 x.2.2.2.2.2.2.2.2.2.1 x.2.2.2.2.2.2.2.2.2.2.1.2.2.1 x.2.2.2.2.2.2.2.2.2.2.1.2.2.2.1 x.2.2.2.2.2.2.2.2.2.2.1.2.2.2.2.1 x.2.2.2.2.2.2.2.2.2.2.1.2.2.2.2.2.1⟩
def L2 (l : T2) : LS R := ⟨[], [(1, ⟨false, [.lst (.int .i64)]⟩), (2, ⟨false, [.ptr 100000 0]⟩), (4, ⟨false, [.ptr 100001 0]⟩), (5, ⟨false, [.ptr 100004 0]⟩), (6, ⟨false, [.int .i64]⟩), (7, ⟨false, [.ptr 100010 0]⟩), (8, ⟨false, [.int .i64]⟩), (9, ⟨false, [.int .i64]⟩)], [(100000, .box [.lst (.int .i64), .int .i64, .lst tBlock]), (100001, .box [.own 100002, .int .i64, .own 100003]), (100002, .row true (.int .i64)), (100003, .row true tBlock), (100004, .box [.own 100005, .int .i64, .own 100006]), (100005, .row true (.int .i64)), (100006, .orow tBlock [.own 100007, .own 100009, .int .i64, .int .i64, .int .i64, .int .i64]), (100007, .orow tPhi [.int .i64, .own 100008]), (100008, .row true (.int .i64)), (100009, .row true tInst), (100010, .box [.own 100007, .own 100009, .int .i64, .int .i64, .int .i64, .int .i64])], fun x => l x.1.1.1 x.1.2.2.2.2.1.1 x.1.2.2.2.2.2.2.1.1 x.1.2.2.2.2.2.2.2.1.1 x.2.1 x.2.2.1.2.1 x.2.2.2.1 x.2.2.2.2.1 x.2.2.2.2.2.1.2.1 x.2.2.2.2.2.2.1 x.2.2.2.2.2.2.2.1.1.1 x.2.2.2.2.2.2.2.1.1.2 x.2.2.2.2.2.2.2.1.2.2.2.1 x.2.2.2.2.2.2.2.1.2.2.2.2.1 x.2.2.2.2.2.2.2.1.2.2.2.2.2.1 x.2.2.2.2.2.2.2.1.2.2.2.2.2.2.1 x.2.2.2.2.2.2.2.2.1.1.1 x.2.2.2.2.2.2.2.2.1.1.2 x.2.2.2.2.2.2.2.2.1.2.1 x.2.2.2.2.2.2.2.2.2.1 x.2.2.2.2.2.2.2.2.2.2.1 x.2.2.2.2.2.2.2.2.2.2.2.1.2.2.1 x.2.2.2.2.2.2.2.2.2.2.2.1.2.2.2.1 x.2.2.2.2.2.2.2.2.2.2.2.1.2.2.2.2.1 x.2.2.2.2.2.2.2.2.2.2.2.1.2.2.2.2.2.1⟩
def L3 (l : T1) : LS R := ⟨[], [(1, ⟨false, [.lst (.int .i64)]⟩), (2, ⟨false, [.ptr 100000 0]⟩), (4, ⟨false, [.ptr 100001 0]⟩), (5, ⟨false, [.ptr 100004 0]⟩), (6, ⟨false, [.int .i64]⟩), (7, ⟨false, [.ptr 100009 0]⟩), (10, ⟨false, [.int .i64]⟩)], [(100000, .box [.lst (.int .i64), .int .i64, .lst tBlock]), (100001, .box [.own 100002, .int .i64, .own 100003]), (100002, .row true (.int .i64)), (100003, .row true tBlock), (100004, .box [.own 100005, .int .i64, .own 100006]), (100005, .row true (.int .i64)), (100006, .orow tBlock [.own 100007, .own 100008, .int .i64, .int .i64, .int .i64, .int .i64]), (100007, .row true tPhi), (100008, .row true tInst), (100009, .box [.own 100007, .own 100008, .int .i64, .int .i64, .int .i64, .int .i64])], fun x => l x.1.1.1 x.1.2.2.2.2.1.1 x.1.2.2.2.2.2.2.1.1 x.2.1 x.2.2.1.2.1 x.2.2.2.1 x.2.2.2.2.1 x.2.2.2.2.2.1.2.1 x.2.2.2.2.2.2.1 x.2.2.2.2.2.2.2.1.1.1 x.2.2.2.2.2.2.2.1.1.2 x.2.2.2.2.2.2.2.1.2.2.2.1 x.2.2.2.2.2.2.2.1.2.2.2.2.1 x.2.2.2.2.2.2.2.1.2.2.2.2.2.1 x.2.2.2.2.2.2.2.1.2.2.2.2.2.2.1 x.2.2.2.2.2.2.2.2.1 x.2.2.2.2.2.2.2.2.2.1 x.2.2.2.2.2.2.2.2.2.2.1.2.2.1 x.2.2.2.2.2.2.2.2.2.2.1.2.2.2.1 x.2.2.2.2.2.2.2.2.2.2.1.2.2.2.2.1 x.2.2.2.2.2.2.2.2.2.2.1.2.2.2.2.2.1⟩
def L (l0 : T0) (l1 : T1) (l2 : T2) (l3 : T1) : List (LS R) := [L0 l0, L1 l1, L2 l2, L3 l3]
def c : Code := Tryz.f44.body.getD .skip
theorem eq (k : Nat) (x) : (s k).pf x = execF tab (E k) Tryz.f44 c (s k) (L (l0 k) (l1 k) (l2 k) (l3 k)) x := by kernel_rfl
theorem r0 (l0 : T0) (l1 : T1) (l2 : T2) (l3 : T1) (k : Nat) (x) : (L0 (l0_ k l0 l1 l2 l3)).l x = roundOf tab (E k) (L l0 l1 l2 l3) c (fin tab Tryz.f44 (s k)) 0 (L0 l0) x := by kernel_rfl
theorem r1 (l0 : T0) (l1 : T1) (l2 : T2) (l3 : T1) (k : Nat) (x) : (L1 (l1_ k l0 l1 l2 l3)).l x = roundOf tab (E k) (L l0 l1 l2 l3) c (fin tab Tryz.f44 (s k)) 1 (L1 l1) x := by kernel_rfl
theorem r2 (l0 : T0) (l1 : T1) (l2 : T2) (l3 : T1) (k : Nat) (x) : (L2 (l2_ k l0 l1 l2 l3)).l x = roundOf tab (E k) (L l0 l1 l2 l3) c (fin tab Tryz.f44 (s k)) 2 (L2 l2) x := by kernel_rfl
theorem r3 (l0 : T0) (l1 : T1) (l2 : T2) (l3 : T1) (k : Nat) (x) : (L3 (l3_ k l0 l1 l2 l3)).l x = roundOf tab (E k) (L l0 l1 l2 l3) c (fin tab Tryz.f44 (s k)) 3 (L3 l3) x := by kernel_rfl
theorem sound : ∀ k, Sound Tryz.prog 44 (s k) := snd S (fun k => (s k).pf) E (fun k => (EntsOK.cons (U58.sound k) (EntsOK.cons (U59.sound k) (EntsOK.cons (U60.sound k) (EntsOK.cons (U58.sound k) (EntsOK.cons (U58.sound k) (EntsOK.cons (U58.sound k) (EntsOK.cons (U58.sound k) (EntsOK.cons (U58.sound k) (EntsOK.cons (U58.sound k) EntsOK.nil)))))))))) (fun k => L (l0 k) (l1 k) (l2 k) (l3 k)) (fun k => ⟨⟨(L0 (l0 (k + 1))).l, rfl, fun x => r0 (l0 k) (l1 k) (l2 k) (l3 k) k x⟩, ⟨(L1 (l1 (k + 1))).l, rfl, fun x => r1 (l0 k) (l1 k) (l2 k) (l3 k) k x⟩, ⟨(L2 (l2 (k + 1))).l, rfl, fun x => r2 (l0 k) (l1 k) (l2 k) (l3 k) k x⟩, ⟨(L3 (l3 (k + 1))).l, rfl, fun x => r3 (l0 k) (l1 k) (l2 k) (l3 k) k x⟩, trivial⟩) eq
end U61
namespace U62
abbrev R := (((Unit × Int × Unit × Unit) × Unit) × ((List Int) × (List tBlockD) × Unit))
abbrev T0 : Type := (List tl8BD) → Int → tFuncD → Int → (List Int) → (List tBlockD) → (List Int) → Option R
abbrev T1 : Type := (List tl8BD) → Int → Int → Int → (List Int) → (List tBlockD) → (List Int) → Int → (List Int) → (List tBlockD) → Option R
abbrev T2 : Type := (List tl8BD) → Int → Int → Int → Int → (List Int) → (List tBlockD) → (List Int) → Int → (List Int) → (List tBlockD) → Int → Int → Int → Int → (List tPhiD) → (List tInstD) → Option R
def l0_ (k : Nat) (l0 : T0) (l1 : T1) (l2 : T2) (l3 : T2) (a0 : List tl8BD) (a1 : Int) (a2 : tFuncD) (a3 : Int) (a4 : List Int) (a5 : List tBlockD) (a6 : List Int) : Option R := bif decide (a1 < ((List.length a2.1 : Nat) : Int)) then (bif (decide (0 ≤ a1)) && (decide (a1 < ((List.length a6 : Nat) : Int))) then (l0 a0 (IntKind.wrap .i64 (a1 + 1)) a2 a3 a4 a5 (List.set a6 (Int.toNat a1) a1)) else none) else (Option.bind (U24.f k a2.1) fun r1 => l1 a0 a1 0 a3 a4 a5 a6 a2.2.1 r1.2.1 ([] : List tBlockD))
def l1_ (k : Nat) (l0 : T0) (l1 : T1) (l2 : T2) (l3 : T2) (a0 : List tl8BD) (a1 : Int) (a2 : Int) (a3 : Int) (a4 : List Int) (a5 : List tBlockD) (a6 : List Int) (a7 : Int) (a8 : List Int) (a9 : List tBlockD) : Option R := bif decide (a2 < ((List.length a0 : Nat) : Int)) then (bif (decide (0 ≤ a2)) && (decide (a2 < ((List.length a0 : Nat) : Int))) then (l2 a0 a1 a2 0 a3 a4 a5 a6 a7 a8 a9 ((List.getD a0 (Int.toNat a2) tl8BZ).2.2.1) ((List.getD a0 (Int.toNat a2) tl8BZ).2.2.2.1) ((List.getD a0 (Int.toNat a2) tl8BZ).2.2.2.2.1) ((List.getD a0 (Int.toNat a2) tl8BZ).2.2.2.2.2.1) ([] : List tPhiD) ([] : List tInstD)) else none) else (Option.bind (U61.f k (a8, a7, a9, ()) a6) fun r1 => some ((((), r1.1.1.2.1, (), ()), ()), (r1.2.1, r1.2.2.1, ())))
def l2_ (k : Nat) (l0 : T0) (l1 : T1) (l2 : T2) (l3 : T2) (a0 : List tl8BD) (a1 : Int) (a2 : Int) (a3 : Int) (a4 : Int) (a5 : List Int) (a6 : List tBlockD) (a7 : List Int) (a8 : Int) (a9 : List Int) (a10 : List tBlockD) (a11 : Int) (a12 : Int) (a13 : Int) (a14 : Int) (a15 : List tPhiD) (a16 : List tInstD) : Option R := bif (decide (0 ≤ a2)) && (decide (a2 < ((List.length a0 : Nat) : Int))) then (bif decide (a3 < ((List.length ((List.getD a0 (Int.toNat a2) tl8BZ).1) : Nat) : Int)) then (bif (decide (0 ≤ a2)) && (decide (a2 < ((List.length a0 : Nat) : Int))) then (bif (decide (0 ≤ a3)) && (decide (a3 < ((List.length ((List.getD a0 (Int.toNat a2) tl8BZ).1) : Nat) : Int))) then (bif (decide (0 ≤ (List.getD ((List.getD a0 (Int.toNat a2) tl8BZ).1) (Int.toNat a3) tl8PZ).1)) && (decide ((List.getD ((List.getD a0 (Int.toNat a2) tl8BZ).1) (Int.toNat a3) tl8PZ).1 < ((List.length a7 : Nat) : Int))) then (bif (decide (0 ≤ a2)) && (decide (a2 < ((List.length a0 : Nat) : Int))) then (bif (decide (0 ≤ a3)) && (decide (a3 < ((List.length ((List.getD a0 (Int.toNat a2) tl8BZ).1) : Nat) : Int))) then (bif decide ((List.length a15 + List.length [((List.getD ((List.getD a0 (Int.toNat a2) tl8BZ).1) (Int.toNat a3) tl8PZ).2 : tPhiD)]) * 32 ≤ 140737488355328) then (l2 a0 (IntKind.wrap .i64 (a1 + 1)) a2 (IntKind.wrap .i64 (a3 + 1)) a4 a5 a6 (List.set a7 (Int.toNat ((List.getD ((List.getD a0 (Int.toNat a2) tl8BZ).1) (Int.toNat a3) tl8PZ).1)) a1) a8 a9 a10 a11 a12 a13 a14 (a15 ++ [((List.getD ((List.getD a0 (Int.toNat a2) tl8BZ).1) (Int.toNat a3) tl8PZ).2 : tPhiD)]) a16) else none) else none) else none) else none) else none) else none) else (l3 a0 a1 a2 0 a4 a5 a6 a7 a8 a9 a10 a11 a12 a13 a14 a15 a16)) else none
def l3_ (k : Nat) (l0 : T0) (l1 : T1) (l2 : T2) (l3 : T2) (a0 : List tl8BD) (a1 : Int) (a2 : Int) (a3 : Int) (a4 : Int) (a5 : List Int) (a6 : List tBlockD) (a7 : List Int) (a8 : Int) (a9 : List Int) (a10 : List tBlockD) (a11 : Int) (a12 : Int) (a13 : Int) (a14 : Int) (a15 : List tPhiD) (a16 : List tInstD) : Option R := bif (decide (0 ≤ a2)) && (decide (a2 < ((List.length a0 : Nat) : Int))) then (bif decide (a3 < ((List.length ((List.getD a0 (Int.toNat a2) tl8BZ).2.1) : Nat) : Int)) then (bif (decide (0 ≤ a2)) && (decide (a2 < ((List.length a0 : Nat) : Int))) then (bif (decide (0 ≤ a3)) && (decide (a3 < ((List.length ((List.getD a0 (Int.toNat a2) tl8BZ).2.1) : Nat) : Int))) then (bif (decide (0 ≤ (List.getD ((List.getD a0 (Int.toNat a2) tl8BZ).2.1) (Int.toNat a3) tl8IZ).1)) && (decide ((List.getD ((List.getD a0 (Int.toNat a2) tl8BZ).2.1) (Int.toNat a3) tl8IZ).1 < ((List.length a7 : Nat) : Int))) then (bif (decide (0 ≤ a2)) && (decide (a2 < ((List.length a0 : Nat) : Int))) then (bif (decide (0 ≤ a3)) && (decide (a3 < ((List.length ((List.getD a0 (Int.toNat a2) tl8BZ).2.1) : Nat) : Int))) then (bif decide ((List.length a16 + List.length [((List.getD ((List.getD a0 (Int.toNat a2) tl8BZ).2.1) (Int.toNat a3) tl8IZ).2 : tInstD)]) * 72 ≤ 140737488355328) then (l3 a0 (IntKind.wrap .i64 (a1 + 1)) a2 (IntKind.wrap .i64 (a3 + 1)) a4 a5 a6 (List.set a7 (Int.toNat ((List.getD ((List.getD a0 (Int.toNat a2) tl8BZ).2.1) (Int.toNat a3) tl8IZ).1)) a1) a8 a9 a10 a11 a12 a13 a14 a15 (a16 ++ [((List.getD ((List.getD a0 (Int.toNat a2) tl8BZ).2.1) (Int.toNat a3) tl8IZ).2 : tInstD)])) else none) else none) else none) else none) else none) else none) else (bif decide ((List.length a10 + List.length [((a15, a16, a11, a12, a13, a14, ()) : tBlockD)]) * 80 ≤ 140737488355328) then (l1 a0 a1 (IntKind.wrap .i64 (a2 + 1)) a4 a5 a6 a7 a8 a9 (a10 ++ [((a15, a16, a11, a12, a13, a14, ()) : tBlockD)])) else none)) else none
def all : Nat → (T0) × (T1) × (T2) × (T2) × Unit
 | 0 => (fun _ _ _ _ _ _ _ => none, fun _ _ _ _ _ _ _ _ _ _ => none, fun _ _ _ _ _ _ _ _ _ _ _ _ _ _ _ _ _ => none, fun _ _ _ _ _ _ _ _ _ _ _ _ _ _ _ _ _ => none, ())
 | k + 1 => (l0_ k (all k).1 (all k).2.1 (all k).2.2.1 (all k).2.2.2.1, l1_ k (all k).1 (all k).2.1 (all k).2.2.1 (all k).2.2.2.1, l2_ k (all k).1 (all k).2.1 (all k).2.2.1 (all k).2.2.2.1, l3_ k (all k).1 (all k).2.1 (all k).2.2.1 (all k).2.2.2.1, ())
def l0 (k : Nat) : T0 := (all k).1
def l1 (k : Nat) : T1 := (all k).2.1
def l2 (k : Nat) : T2 := (all k).2.2.1
def l3 (k : Nat) : T2 := (all k).2.2.2.1
def f (k : Nat) (a0 : tFuncD) (a1 : List tl8BD) : Option R := Option.bind (U22.f k a0) fun r1 => bif (decide (r1.1.1.1 = r1.1.1.1)) && (decide (0 ≤ r1.1.1.1)) && (decide (r1.1.1.1 * 8 ≤ 281474976710656)) then (l0 k a1 0 a0 0 ([] : List Int) ([] : List tBlockD) (List.replicate (Int.toNat r1.1.1.1) 0)) else none
abbrev S : ShapeParts := ⟨[⟨true, [.lst (.int .i64), .int .i64, .lst tBlock]⟩, ⟨false, [.lst tl8B]⟩], [], false, [⟨true, [.own 100, .int .i64, .own 101]⟩], [(100, .row true (.int .i64)), (101, .row true tBlock)], []⟩
def s (k : Nat) : FS := S.fs fun x => f k x.1.1 x.1.2.1.1
def E (k : Nat) : Ents := [(⟨25, []⟩, U22.s k), (⟨51, []⟩, U24.s k), (⟨44, []⟩, U61.s k)]
def L0 (l : T0) : LS R := ⟨[], [(1, ⟨false, [.lst tl8B]⟩), (2, ⟨false, [.ptr 100000 0]⟩), (4, ⟨false, [.ptr 100001 0]⟩), (5, ⟨false, [.own 100004]⟩), (6, ⟨false, [.int .i64]⟩)], [(100000, .box [.lst (.int .i64), .int .i64, .lst tBlock]), (100001, .box [.own 100002, .int .i64, .own 100003]), (100002, .row true (.int .i64)), (100003, .row true tBlock), (100004, .row true (.int .i64))], fun x => l x.1.1.1 x.1.2.2.2.2.1.1 x.2.1 x.2.2.1.2.1 x.2.2.2.1 x.2.2.2.2.1 x.2.2.2.2.2.1⟩
def L1 (l : T1) : LS R := ⟨[], [(1, ⟨false, [.lst tl8B]⟩), (4, ⟨false, [.ptr 100000 0]⟩), (5, ⟨false, [.own 100003]⟩), (6, ⟨false, [.int .i64]⟩), (7, ⟨false, [.ptr 100004 0]⟩), (8, ⟨false, [.int .i64]⟩)], [(100000, .box [.own 100001, .int .i64, .own 100002]), (100001, .row true (.int .i64)), (100002, .row true tBlock), (100003, .row true (.int .i64)), (100004, .box [.own 100005, .int .i64, .own 100006]), (100005, .row true (.int .i64)), (100006, .row false tBlock)], fun x => l x.1.1.1 x.1.2.2.2.1.1 x.1.2.2.2.2.2.1.1 x.2.1.2.1 x.2.2.1 x.2.2.2.1 x.2.2.2.2.1 x.2.2.2.2.2.1.2.1 x.2.2.2.2.2.2.1 x.2.2.2.2.2.2.2.1⟩
def L2 (l : T2) : LS R := ⟨[], [(1, ⟨false, [.lst tl8B]⟩), (4, ⟨false, [.ptr 100000 0]⟩), (5, ⟨false, [.own 100003]⟩), (6, ⟨false, [.int .i64]⟩), (7, ⟨false, [.ptr 100004 0]⟩), (8, ⟨false, [.int .i64]⟩), (9, ⟨false, [.ptr 100007 0]⟩), (10, ⟨false, [.int .i64]⟩)], [(100000, .box [.own 100001, .int .i64, .own 100002]), (100001, .row true (.int .i64)), (100002, .row true tBlock), (100003, .row true (.int .i64)), (100004, .box [.own 100005, .int .i64, .own 100006]), (100005, .row true (.int .i64)), (100006, .row false tBlock), (100007, .box [.own 100008, .own 100009, .int .i64, .int .i64, .int .i64, .int .i64]), (100008, .row false tPhi), (100009, .row false tInst)], fun x => l x.1.1.1 x.1.2.2.2.1.1 x.1.2.2.2.2.2.1.1 x.1.2.2.2.2.2.2.2.1.1 x.2.1.2.1 x.2.2.1 x.2.2.2.1 x.2.2.2.2.1 x.2.2.2.2.2.1.2.1 x.2.2.2.2.2.2.1 x.2.2.2.2.2.2.2.1 x.2.2.2.2.2.2.2.2.1.2.2.1 x.2.2.2.2.2.2.2.2.1.2.2.2.1 x.2.2.2.2.2.2.2.2.1.2.2.2.2.1 x.2.2.2.2.2.2.2.2.1.2.2.2.2.2.1 x.2.2.2.2.2.2.2.2.2.1 x.2.2.2.2.2.2.2.2.2.2.1⟩
def L3 (l : T2) : LS R := ⟨[], [(1, ⟨false, [.lst tl8B]⟩), (4, ⟨false, [.ptr 100000 0]⟩), (5, ⟨false, [.own 100003]⟩), (6, ⟨false, [.int .i64]⟩), (7, ⟨false, [.ptr 100004 0]⟩), (8, ⟨false, [.int .i64]⟩), (9, ⟨false, [.ptr 100007 0]⟩), (11, ⟨false, [.int .i64]⟩)], [(100000, .box [.own 100001, .int .i64, .own 100002]), (100001, .row true (.int .i64)), (100002, .row true tBlock), (100003, .row true (.int .i64)), (100004, .box [.own 100005, .int .i64, .own 100006]), (100005, .row true (.int .i64)), (100006, .row false tBlock), (100007, .box [.own 100008, .own 100009, .int .i64, .int .i64, .int .i64, .int .i64]), (100008, .row false tPhi), (100009, .row false tInst)], fun x => l x.1.1.1 x.1.2.2.2.1.1 x.1.2.2.2.2.2.1.1 x.1.2.2.2.2.2.2.2.1.1 x.2.1.2.1 x.2.2.1 x.2.2.2.1 x.2.2.2.2.1 x.2.2.2.2.2.1.2.1 x.2.2.2.2.2.2.1 x.2.2.2.2.2.2.2.1 x.2.2.2.2.2.2.2.2.1.2.2.1 x.2.2.2.2.2.2.2.2.1.2.2.2.1 x.2.2.2.2.2.2.2.2.1.2.2.2.2.1 x.2.2.2.2.2.2.2.2.1.2.2.2.2.2.1 x.2.2.2.2.2.2.2.2.2.1 x.2.2.2.2.2.2.2.2.2.2.1⟩
def L (l0 : T0) (l1 : T1) (l2 : T2) (l3 : T2) : List (LS R) := [L0 l0, L1 l1, L2 l2, L3 l3]
def c : Code := Tryz.f56.body.getD .skip
theorem eq (k : Nat) (x) : (s k).pf x = execF tab (E k) Tryz.f56 c (s k) (L (l0 k) (l1 k) (l2 k) (l3 k)) x := by kernel_rfl
theorem r0 (l0 : T0) (l1 : T1) (l2 : T2) (l3 : T2) (k : Nat) (x) : (L0 (l0_ k l0 l1 l2 l3)).l x = roundOf tab (E k) (L l0 l1 l2 l3) c (fin tab Tryz.f56 (s k)) 0 (L0 l0) x := by kernel_rfl
theorem r1 (l0 : T0) (l1 : T1) (l2 : T2) (l3 : T2) (k : Nat) (x) : (L1 (l1_ k l0 l1 l2 l3)).l x = roundOf tab (E k) (L l0 l1 l2 l3) c (fin tab Tryz.f56 (s k)) 1 (L1 l1) x := by kernel_rfl
theorem r2 (l0 : T0) (l1 : T1) (l2 : T2) (l3 : T2) (k : Nat) (x) : (L2 (l2_ k l0 l1 l2 l3)).l x = roundOf tab (E k) (L l0 l1 l2 l3) c (fin tab Tryz.f56 (s k)) 2 (L2 l2) x := by kernel_rfl
theorem r3 (l0 : T0) (l1 : T1) (l2 : T2) (l3 : T2) (k : Nat) (x) : (L3 (l3_ k l0 l1 l2 l3)).l x = roundOf tab (E k) (L l0 l1 l2 l3) c (fin tab Tryz.f56 (s k)) 3 (L3 l3) x := by kernel_rfl
theorem sound : ∀ k, Sound Tryz.prog 56 (s k) := snd S (fun k => (s k).pf) E (fun k => (EntsOK.cons (U22.sound k) (EntsOK.cons (U24.sound k) (EntsOK.cons (U61.sound k) EntsOK.nil)))) (fun k => L (l0 k) (l1 k) (l2 k) (l3 k)) (fun k => ⟨⟨(L0 (l0 (k + 1))).l, rfl, fun x => r0 (l0 k) (l1 k) (l2 k) (l3 k) k x⟩, ⟨(L1 (l1 (k + 1))).l, rfl, fun x => r1 (l0 k) (l1 k) (l2 k) (l3 k) k x⟩, ⟨(L2 (l2 (k + 1))).l, rfl, fun x => r2 (l0 k) (l1 k) (l2 k) (l3 k) k x⟩, ⟨(L3 (l3 (k + 1))).l, rfl, fun x => r3 (l0 k) (l1 k) (l2 k) (l3 k) k x⟩, trivial⟩) eq
end U62
namespace U63
abbrev R := (((Unit × Int × Unit × Unit) × Unit) × ((List Int) × (List tBlockD) × Unit))
abbrev T0 : Type := (List Int) → Int → tFuncD → Int → (List Int) → (List tBlockD) → (List tl8BD) → (List tl8BD) → Option R
abbrev T1 : Type := (List Int) → Int → Int → tFuncD → Int → (List Int) → (List tBlockD) → (List tl8BD) → (List tl8BD) → Int → Int → Int → Int → (List tl8PD) → (List tl8ID) → Option R
def l0_ (k : Nat) (l0 : T0) (l1 : T1) (l2 : T1) (a0 : List Int) (a1 : Int) (a2 : tFuncD) (a3 : Int) (a4 : List Int) (a5 : List tBlockD) (a6 : List tl8BD) (a7 : List tl8BD) : Option R := bif decide (a1 < ((List.length a6 : Nat) : Int)) then (bif (decide (0 ≤ a1)) && (decide (a1 < ((List.length a6 : Nat) : Int))) then (l1 a0 a1 0 a2 a3 a4 a5 a6 a7 ((List.getD a6 (Int.toNat a1) tl8BZ).2.2.1) ((List.getD a6 (Int.toNat a1) tl8BZ).2.2.2.1) ((List.getD a6 (Int.toNat a1) tl8BZ).2.2.2.2.1) ((List.getD a6 (Int.toNat a1) tl8BZ).2.2.2.2.2.1) ([] : List tl8PD) ([] : List tl8ID)) else none) else (Option.bind (U62.f k a2 a7) fun r1 => some ((((), r1.1.1.2.1, (), ()), ()), (r1.2.1, r1.2.2.1, ())))
def l1_ (k : Nat) (l0 : T0) (l1 : T1) (l2 : T1) (a0 : List Int) (a1 : Int) (a2 : Int) (a3 : tFuncD) (a4 : Int) (a5 : List Int) (a6 : List tBlockD) (a7 : List tl8BD) (a8 : List tl8BD) (a9 : Int) (a10 : Int) (a11 : Int) (a12 : Int) (a13 : List tl8PD) (a14 : List tl8ID) : Option R := bif (decide (0 ≤ a1)) && (decide (a1 < ((List.length a7 : Nat) : Int))) then (bif decide (a2 < ((List.length ((List.getD a7 (Int.toNat a1) tl8BZ).1) : Nat) : Int)) then (bif (decide (0 ≤ a1)) && (decide (a1 < ((List.length a7 : Nat) : Int))) then (bif (decide (0 ≤ a2)) && (decide (a2 < ((List.length ((List.getD a7 (Int.toNat a1) tl8BZ).1) : Nat) : Int))) then (Option.bind (U33.f k a0 ((List.getD ((List.getD a7 (Int.toNat a1) tl8BZ).1) (Int.toNat a2) tl8PZ).1)) fun r1 => bif !r1.1.1.1 then (bif (decide (0 ≤ a1)) && (decide (a1 < ((List.length a7 : Nat) : Int))) then (bif (decide (0 ≤ a2)) && (decide (a2 < ((List.length ((List.getD a7 (Int.toNat a1) tl8BZ).1) : Nat) : Int))) then (bif decide ((List.length a13 + List.length [((List.getD ((List.getD a7 (Int.toNat a1) tl8BZ).1) (Int.toNat a2) tl8PZ) : tl8PD)]) * 40 ≤ 140737488355328) then (l1 a0 a1 (IntKind.wrap .i64 (a2 + 1)) a3 a4 a5 a6 a7 a8 a9 a10 a11 a12 (a13 ++ [((List.getD ((List.getD a7 (Int.toNat a1) tl8BZ).1) (Int.toNat a2) tl8PZ) : tl8PD)]) a14) else none) else none) else none) else (l1 a0 a1 (IntKind.wrap .i64 (a2 + 1)) a3 a4 a5 a6 a7 a8 a9 a10 a11 a12 a13 a14)) else none) else none) else (l2 a0 a1 0 a3 a4 a5 a6 a7 a8 a9 a10 a11 a12 a13 a14)) else none
def l2_ (k : Nat) (l0 : T0) (l1 : T1) (l2 : T1) (a0 : List Int) (a1 : Int) (a2 : Int) (a3 : tFuncD) (a4 : Int) (a5 : List Int) (a6 : List tBlockD) (a7 : List tl8BD) (a8 : List tl8BD) (a9 : Int) (a10 : Int) (a11 : Int) (a12 : Int) (a13 : List tl8PD) (a14 : List tl8ID) : Option R := bif (decide (0 ≤ a1)) && (decide (a1 < ((List.length a7 : Nat) : Int))) then (bif decide (a2 < ((List.length ((List.getD a7 (Int.toNat a1) tl8BZ).2.1) : Nat) : Int)) then (bif (decide (0 ≤ a1)) && (decide (a1 < ((List.length a7 : Nat) : Int))) then (bif (decide (0 ≤ a2)) && (decide (a2 < ((List.length ((List.getD a7 (Int.toNat a1) tl8BZ).2.1) : Nat) : Int))) then (Option.bind (U33.f k a0 ((List.getD ((List.getD a7 (Int.toNat a1) tl8BZ).2.1) (Int.toNat a2) tl8IZ).1)) fun r1 => bif !r1.1.1.1 then (bif (decide (0 ≤ a1)) && (decide (a1 < ((List.length a7 : Nat) : Int))) then (bif (decide (0 ≤ a2)) && (decide (a2 < ((List.length ((List.getD a7 (Int.toNat a1) tl8BZ).2.1) : Nat) : Int))) then (bif decide ((List.length a14 + List.length [((List.getD ((List.getD a7 (Int.toNat a1) tl8BZ).2.1) (Int.toNat a2) tl8IZ) : tl8ID)]) * 80 ≤ 140737488355328) then (l2 a0 a1 (IntKind.wrap .i64 (a2 + 1)) a3 a4 a5 a6 a7 a8 a9 a10 a11 a12 a13 (a14 ++ [((List.getD ((List.getD a7 (Int.toNat a1) tl8BZ).2.1) (Int.toNat a2) tl8IZ) : tl8ID)])) else none) else none) else none) else (l2 a0 a1 (IntKind.wrap .i64 (a2 + 1)) a3 a4 a5 a6 a7 a8 a9 a10 a11 a12 a13 a14)) else none) else none) else (bif decide ((List.length a8 + List.length [((a13, a14, a9, a10, a11, a12, ()) : tl8BD)]) * 80 ≤ 140737488355328) then (l0 a0 (IntKind.wrap .i64 (a1 + 1)) a3 a4 a5 a6 a7 (a8 ++ [((a13, a14, a9, a10, a11, a12, ()) : tl8BD)])) else none)) else none
def all : Nat → (T0) × (T1) × (T1) × Unit
 | 0 => (fun _ _ _ _ _ _ _ _ => none, fun _ _ _ _ _ _ _ _ _ _ _ _ _ _ _ => none, fun _ _ _ _ _ _ _ _ _ _ _ _ _ _ _ => none, ())
 | k + 1 => (l0_ k (all k).1 (all k).2.1 (all k).2.2.1, l1_ k (all k).1 (all k).2.1 (all k).2.2.1, l2_ k (all k).1 (all k).2.1 (all k).2.2.1, ())
def l0 (k : Nat) : T0 := (all k).1
def l1 (k : Nat) : T1 := (all k).2.1
def l2 (k : Nat) : T1 := (all k).2.2.1
def f (k : Nat) (a0 : tFuncD) (a1 : List Int) : Option R := Option.bind (U57.f k a0) fun r1 => l0 k a1 0 a0 0 ([] : List Int) ([] : List tBlockD) r1.2.1 ([] : List tl8BD)
abbrev S : ShapeParts := ⟨[⟨true, [.lst (.int .i64), .int .i64, .lst tBlock]⟩, ⟨false, [.lst (.int .i64)]⟩], [], false, [⟨true, [.own 100, .int .i64, .own 101]⟩], [(100, .row true (.int .i64)), (101, .row true tBlock)], []⟩
def s (k : Nat) : FS := S.fs fun x => f k x.1.1 x.1.2.1.1
def E (k : Nat) : Ents := [(⟨55, []⟩, U57.s k), (⟨56, []⟩, U62.s k), (⟨26, []⟩, U33.s k)]
def L0 (l : T0) : LS R := ⟨[], [(1, ⟨false, [.lst (.int .i64)]⟩), (2, ⟨false, [.ptr 100000 0]⟩), (4, ⟨false, [.ptr 100001 0]⟩), (5, ⟨false, [.own 100004]⟩), (6, ⟨false, [.own 100005]⟩), (7, ⟨false, [.int .i64]⟩)], [(100000, .box [.lst (.int .i64), .int .i64, .lst tBlock]), (100001, .box [.own 100002, .int .i64, .own 100003]), (100002, .row true (.int .i64)), (100003, .row true tBlock), (100004, .row false tl8B), (100005, .row false tl8B)], fun x => l x.1.1.1 x.1.2.2.2.2.2.1.1 x.2.1 x.2.2.1.2.1 x.2.2.2.1 x.2.2.2.2.1 x.2.2.2.2.2.1 x.2.2.2.2.2.2.1⟩
def L1 (l : T1) : LS R := ⟨[], [(1, ⟨false, [.lst (.int .i64)]⟩), (2, ⟨false, [.ptr 100000 0]⟩), (4, ⟨false, [.ptr 100001 0]⟩), (5, ⟨false, [.own 100004]⟩), (6, ⟨false, [.own 100005]⟩), (7, ⟨false, [.int .i64]⟩), (8, ⟨false, [.ptr 100006 0]⟩), (9, ⟨false, [.int .i64]⟩)], [(100000, .box [.lst (.int .i64), .int .i64, .lst tBlock]), (100001, .box [.own 100002, .int .i64, .own 100003]), (100002, .row true (.int .i64)), (100003, .row true tBlock), (100004, .row false tl8B), (100005, .row false tl8B), (100006, .box [.own 100007, .own 100008, .int .i64, .int .i64, .int .i64, .int .i64]), (100007, .row false tl8P), (100008, .row false tl8I)], fun x => l x.1.1.1 x.1.2.2.2.2.2.1.1 x.1.2.2.2.2.2.2.2.1.1 x.2.1 x.2.2.1.2.1 x.2.2.2.1 x.2.2.2.2.1 x.2.2.2.2.2.1 x.2.2.2.2.2.2.1 x.2.2.2.2.2.2.2.1.2.2.1 x.2.2.2.2.2.2.2.1.2.2.2.1 x.2.2.2.2.2.2.2.1.2.2.2.2.1 x.2.2.2.2.2.2.2.1.2.2.2.2.2.1 x.2.2.2.2.2.2.2.2.1 x.2.2.2.2.2.2.2.2.2.1⟩
def L2 (l : T1) : LS R := ⟨[], [(1, ⟨false, [.lst (.int .i64)]⟩), (2, ⟨false, [.ptr 100000 0]⟩), (4, ⟨false, [.ptr 100001 0]⟩), (5, ⟨false, [.own 100004]⟩), (6, ⟨false, [.own 100005]⟩), (7, ⟨false, [.int .i64]⟩), (8, ⟨false, [.ptr 100006 0]⟩), (10, ⟨false, [.int .i64]⟩)], [(100000, .box [.lst (.int .i64), .int .i64, .lst tBlock]), (100001, .box [.own 100002, .int .i64, .own 100003]), (100002, .row true (.int .i64)), (100003, .row true tBlock), (100004, .row false tl8B), (100005, .row false tl8B), (100006, .box [.own 100007, .own 100008, .int .i64, .int .i64, .int .i64, .int .i64]), (100007, .row false tl8P), (100008, .row false tl8I)], fun x => l x.1.1.1 x.1.2.2.2.2.2.1.1 x.1.2.2.2.2.2.2.2.1.1 x.2.1 x.2.2.1.2.1 x.2.2.2.1 x.2.2.2.2.1 x.2.2.2.2.2.1 x.2.2.2.2.2.2.1 x.2.2.2.2.2.2.2.1.2.2.1 x.2.2.2.2.2.2.2.1.2.2.2.1 x.2.2.2.2.2.2.2.1.2.2.2.2.1 x.2.2.2.2.2.2.2.1.2.2.2.2.2.1 x.2.2.2.2.2.2.2.2.1 x.2.2.2.2.2.2.2.2.2.1⟩
def L (l0 : T0) (l1 : T1) (l2 : T1) : List (LS R) := [L0 l0, L1 l1, L2 l2]
def c : Code := Tryz.f27.body.getD .skip
theorem eq (k : Nat) (x) : (s k).pf x = execF tab (E k) Tryz.f27 c (s k) (L (l0 k) (l1 k) (l2 k)) x := by kernel_rfl
theorem r0 (l0 : T0) (l1 : T1) (l2 : T1) (k : Nat) (x) : (L0 (l0_ k l0 l1 l2)).l x = roundOf tab (E k) (L l0 l1 l2) c (fin tab Tryz.f27 (s k)) 0 (L0 l0) x := by kernel_rfl
theorem r1 (l0 : T0) (l1 : T1) (l2 : T1) (k : Nat) (x) : (L1 (l1_ k l0 l1 l2)).l x = roundOf tab (E k) (L l0 l1 l2) c (fin tab Tryz.f27 (s k)) 1 (L1 l1) x := by kernel_rfl
theorem r2 (l0 : T0) (l1 : T1) (l2 : T1) (k : Nat) (x) : (L2 (l2_ k l0 l1 l2)).l x = roundOf tab (E k) (L l0 l1 l2) c (fin tab Tryz.f27 (s k)) 2 (L2 l2) x := by kernel_rfl
theorem sound : ∀ k, Sound Tryz.prog 27 (s k) := snd S (fun k => (s k).pf) E (fun k => (EntsOK.cons (U57.sound k) (EntsOK.cons (U62.sound k) (EntsOK.cons (U33.sound k) EntsOK.nil)))) (fun k => L (l0 k) (l1 k) (l2 k)) (fun k => ⟨⟨(L0 (l0 (k + 1))).l, rfl, fun x => r0 (l0 k) (l1 k) (l2 k) k x⟩, ⟨(L1 (l1 (k + 1))).l, rfl, fun x => r1 (l0 k) (l1 k) (l2 k) k x⟩, ⟨(L2 (l2 (k + 1))).l, rfl, fun x => r2 (l0 k) (l1 k) (l2 k) k x⟩, trivial⟩) eq
end U63
namespace U64
abbrev R := (((Unit × Unit) × (Bool × Unit) × Unit) × ((List tFuncD) × Unit))
abbrev T0 : Type := Int → (List tFuncD) → (List tFuncD) → (List tFuncD) → Option R
abbrev T1 : Type := Int → (List Int) → Int → (List tFuncD) → (List tFuncD) → (List tFuncD) → tFuncD → (List Int) → Option R
def l0_ (k : Nat) (l0 : T0) (l1 : T1) (a0 : Int) (a1 : List tFuncD) (a2 : List tFuncD) (a3 : List tFuncD) : Option R := bif decide (a0 < ((List.length a1 : Nat) : Int)) then (bif (decide (0 ≤ a0)) && (decide (a0 < ((List.length a1 : Nat) : Int))) then (Option.bind (U54.f k (List.getD a1 (Int.toNat a0) tFuncZ)) fun r1 => l1 a0 r1.1.1.1 ((List.length ((List.getD a1 (Int.toNat a0) tFuncZ).1) : Nat) : Int) a1 a2 a3 (List.getD a1 (Int.toNat a0) tFuncZ) ([] : List Int)) else none) else (some ((((), ()), (true, ()), ()), (a3, ())))
def l1_ (k : Nat) (l0 : T0) (l1 : T1) (a0 : Int) (a1 : List Int) (a2 : Int) (a3 : List tFuncD) (a4 : List tFuncD) (a5 : List tFuncD) (a6 : tFuncD) (a7 : List Int) : Option R := Option.bind (U22.f k a6) fun r1 => bif decide (a2 < r1.1.1.1) then (Option.bind (U33.f k a1 a2) fun r2 => bif !r2.1.1.1 then (bif decide ((List.length a7 + List.length [a2]) * 8 ≤ 140737488355328) then (l1 a0 a1 (IntKind.wrap .i64 (a2 + 1)) a3 a4 a5 a6 (a7 ++ [a2])) else none) else (l1 a0 a1 (IntKind.wrap .i64 (a2 + 1)) a3 a4 a5 a6 a7)) else (Option.bind (U63.f k a6 a7) fun r3 => bif decide ((List.length a5 + List.length [((r3.2.1, r3.1.1.2.1, r3.2.2.1, ()) : tFuncD)]) * 56 ≤ 140737488355328) then (l0 (IntKind.wrap .i64 (a0 + 1)) a3 a4 (a5 ++ [((r3.2.1, r3.1.1.2.1, r3.2.2.1, ()) : tFuncD)])) else none)
def all : Nat → (T0) × (T1) × Unit
 | 0 => (fun _ _ _ _ => none, fun _ _ _ _ _ _ _ _ => none, ())
 | k + 1 => (l0_ k (all k).1 (all k).2.1, l1_ k (all k).1 (all k).2.1, ())
def l0 (k : Nat) : T0 := (all k).1
def l1 (k : Nat) : T1 := (all k).2.1
def f (k : Nat) (a0 : tModuleD) : Option R := Option.bind (U49.f k (a0.1, ())) fun r1 => bif !decide (r1.1.1.1 = 0) then (some ((((), ()), (false, ()), ()), (([] : List tFuncD), ()))) else (l0 k 0 a0.1 ([] : List tFuncD) ([] : List tFuncD))
abbrev S : ShapeParts := ⟨[⟨true, [.lst tFunc]⟩], [], true, [⟨true, [.own 100]⟩, ⟨false, [.bool]⟩], [(100, .row true tFunc)], []⟩
def s (k : Nat) : FS := S.fs fun x => f k x.1.1
def E (k : Nat) : Ents := [(⟨19, []⟩, U49.s k), (⟨24, []⟩, U54.s k), (⟨25, []⟩, U22.s k), (⟨26, []⟩, U33.s k), (⟨27, []⟩, U63.s k)]
def L0 (l : T0) : LS R := ⟨[], [(1, ⟨false, [.ptr 100000 0]⟩), (2, ⟨false, [.ptr 100001 0]⟩), (4, ⟨false, [.ptr 100003 0]⟩), (5, ⟨false, [.int .i64]⟩)], [(100000, .box [.lst tFunc]), (100001, .box [.own 100002]), (100002, .row true tFunc), (100003, .box [.own 100004]), (100004, .row true tFunc)], fun x => l x.1.2.2.2.1.1 x.2.1.1 x.2.2.2.1 x.2.2.2.2.2.1⟩
def L1 (l : T1) : LS R := ⟨[], [(1, ⟨false, [.ptr 100000 0]⟩), (2, ⟨false, [.ptr 100001 0]⟩), (4, ⟨false, [.ptr 100003 0]⟩), (5, ⟨false, [.int .i64]⟩), (6, ⟨false, [.ptr 100005 0]⟩), (7, ⟨false, [.lst (.int .i64)]⟩), (8, ⟨false, [.own 100006]⟩), (9, ⟨false, [.int .i64]⟩)], [(100000, .box [.lst tFunc]), (100001, .box [.own 100002]), (100002, .row true tFunc), (100003, .box [.own 100004]), (100004, .row true tFunc), (100005, .box [.lst (.int .i64), .int .i64, .lst tBlock]), (100006, .row true (.int .i64))], fun x => l x.1.2.2.2.1.1 x.1.2.2.2.2.2.1.1 x.1.2.2.2.2.2.2.2.1.1 x.2.1.1 x.2.2.2.1 x.2.2.2.2.2.1 x.2.2.2.2.2.2.1 x.2.2.2.2.2.2.2.1⟩
def L (l0 : T0) (l1 : T1) : List (LS R) := [L0 l0, L1 l1]
def c : Code := Tryz.f9.body.getD .skip
theorem eq (k : Nat) (x) : (s k).pf x = execF tab (E k) Tryz.f9 c (s k) (L (l0 k) (l1 k)) x := by kernel_rfl
theorem r0 (l0 : T0) (l1 : T1) (k : Nat) (x) : (L0 (l0_ k l0 l1)).l x = roundOf tab (E k) (L l0 l1) c (fin tab Tryz.f9 (s k)) 0 (L0 l0) x := by kernel_rfl
theorem r1 (l0 : T0) (l1 : T1) (k : Nat) (x) : (L1 (l1_ k l0 l1)).l x = roundOf tab (E k) (L l0 l1) c (fin tab Tryz.f9 (s k)) 1 (L1 l1) x := by kernel_rfl
theorem sound : ∀ k, Sound Tryz.prog 9 (s k) := snd S (fun k => (s k).pf) E (fun k => (EntsOK.cons (U49.sound k) (EntsOK.cons (U54.sound k) (EntsOK.cons (U22.sound k) (EntsOK.cons (U33.sound k) (EntsOK.cons (U63.sound k) EntsOK.nil)))))) (fun k => L (l0 k) (l1 k)) (fun k => ⟨⟨(L0 (l0 (k + 1))).l, rfl, fun x => r0 (l0 k) (l1 k) k x⟩, ⟨(L1 (l1 (k + 1))).l, rfl, fun x => r1 (l0 k) (l1 k) k x⟩, trivial⟩) eq
end U64
namespace U65
abbrev R := (((Bool × Unit) × Unit) × Unit)
def f (k : Nat) (a0 : Int) (a1 : Int) (a2 : Int) : Option R := bif decide (a1 ≤ a0) then (some (((decide (a0 ≤ a2), ()), ()), ())) else (some (((false, ()), ()), ()))
abbrev S : ShapeParts := ⟨[⟨false, [.int .i64]⟩, ⟨false, [.int .i64]⟩, ⟨false, [.int .i64]⟩], [], false, [⟨false, [.bool]⟩], [], []⟩
def s (k : Nat) : FS := S.fs fun x => f k x.1.1.1 x.1.2.1.1 x.1.2.2.1.1
def E (k : Nat) : Ents := []
def L : List (LS R) := []
def c : Code := Tryz.f41.body.getD .skip
theorem eq (k : Nat) (x) : (s k).pf x = execF tab (E k) Tryz.f41 c (s k) L x := by kernel_rfl
theorem sound : ∀ k, Sound Tryz.prog 41 (s k) := snd S (fun k => (s k).pf) E (fun k => EntsOK.nil) (fun k => L) (fun k => trivial) eq
end U65
namespace U66
abbrev R := (((Bool × Unit) × Unit) × Unit)
def f (k : Nat) (a0 : Int) : Option R := bif decide (a0 = 1) then (some (((true, ()), ()), ())) else (bif decide (a0 = 8) then (some (((true, ()), ()), ())) else (bif decide (a0 = 16) then (some (((true, ()), ()), ())) else (some (((decide (a0 = 32), ()), ()), ()))))
abbrev S : ShapeParts := ⟨[⟨false, [.int .i64]⟩], [], false, [⟨false, [.bool]⟩], [], []⟩
def s (k : Nat) : FS := S.fs fun x => f k x.1.1.1
def E (k : Nat) : Ents := []
def L : List (LS R) := []
def c : Code := Tryz.f134.body.getD .skip
theorem eq (k : Nat) (x) : (s k).pf x = execF tab (E k) Tryz.f134 c (s k) L x := by kernel_rfl
theorem sound : ∀ k, Sound Tryz.prog 134 (s k) := snd S (fun k => (s k).pf) E (fun k => EntsOK.nil) (fun k => L) (fun k => trivial) eq
end U66
namespace U67
abbrev R := (((Bool × Unit) × Unit) × Unit)
def f (k : Nat) (a0 : Int) : Option R := Option.bind (U66.f k a0) fun r1 => some (((!r1.1.1.1, ()), ()), ())
abbrev S : ShapeParts := ⟨[⟨false, [.int .i64]⟩], [], false, [⟨false, [.bool]⟩], [], []⟩
def s (k : Nat) : FS := S.fs fun x => f k x.1.1.1
def E (k : Nat) : Ents := [(⟨134, []⟩, U66.s k)]
def L : List (LS R) := []
def c : Code := Tryz.f149.body.getD .skip
theorem eq (k : Nat) (x) : (s k).pf x = execF tab (E k) Tryz.f149 c (s k) L x := by kernel_rfl
theorem sound : ∀ k, Sound Tryz.prog 149 (s k) := snd S (fun k => (s k).pf) E (fun k => (EntsOK.cons (U66.sound k) EntsOK.nil)) (fun k => L) (fun k => trivial) eq
end U67
namespace U68
abbrev R := (((Int × Unit) × Unit) × Unit)
abbrev T0 : Type := (List Int) → Int → Int → Option R
def l0_ (k : Nat) (l0 : T0) (a0 : List Int) (a1 : Int) (a2 : Int) : Option R := bif decide (a2 < a1) then (bif (decide (0 ≤ a2)) && (decide (a2 < ((List.length a0 : Nat) : Int))) then (Option.bind (U67.f k (List.getD a0 (Int.toNat a2) 0)) fun r1 => bif r1.1.1.1 then (some (((a2, ()), ()), ())) else (l0 a0 a1 (IntKind.wrap .i64 (a2 + 1)))) else none) else (some (((-1, ()), ()), ()))
def all : Nat → (T0) × Unit
 | 0 => (fun _ _ _ => none, ())
 | k + 1 => (l0_ k (all k).1, ())
def l0 (k : Nat) : T0 := (all k).1
def f (k : Nat) (a0 : List Int) : Option R := l0 k a0 ((List.length a0 : Nat) : Int) 0
abbrev S : ShapeParts := ⟨[⟨false, [.lst (.int .i64)]⟩, ⟨false, [.fn 149 []]⟩], [], false, [⟨false, [.int .i64]⟩], [], []⟩
def s (k : Nat) : FS := S.fs fun x => f k x.1.1.1
def E (k : Nat) : Ents := [(⟨149, []⟩, U67.s k)]
def L0 (l : T0) : LS R := ⟨[], [(0, ⟨false, [.lst (.int .i64)]⟩), (1, ⟨false, [.fn 149 []]⟩), (7, ⟨false, [.int .i64]⟩), (8, ⟨false, [.int .i64]⟩)], [], fun x => l x.1.1.1 x.1.2.2.1.1 x.1.2.2.2.1.1⟩
def L (l0 : T0) : List (LS R) := [L0 l0]
def c : Code := Tryz.f183.body.getD .skip
theorem eq (k : Nat) (x) : (s k).pf x = execF tab (E k) Tryz.f183 c (s k) (L (l0 k)) x := by kernel_rfl
theorem r0 (l0 : T0) (k : Nat) (x) : (L0 (l0_ k l0)).l x = roundOf tab (E k) (L l0) c (fin tab Tryz.f183 (s k)) 0 (L0 l0) x := by kernel_rfl
theorem sound : ∀ k, Sound Tryz.prog 183 (s k) := snd S (fun k => (s k).pf) E (fun k => (EntsOK.cons (U67.sound k) EntsOK.nil)) (fun k => L (l0 k)) (fun k => ⟨⟨(L0 (l0 (k + 1))).l, rfl, fun x => r0 (l0 k) k x⟩, trivial⟩) eq
end U68
namespace U69
abbrev R := (((Bool × Unit) × Unit) × Unit)
def f (k : Nat) (a0 : List Int) : Option R := Option.bind (U68.f k a0) fun r1 => some (((decide (0 ≤ r1.1.1.1), ()), ()), ())
abbrev S : ShapeParts := ⟨[⟨false, [.lst (.int .i64)]⟩, ⟨false, [.fn 149 []]⟩], [], false, [⟨false, [.bool]⟩], [], []⟩
def s (k : Nat) : FS := S.fs fun x => f k x.1.1.1
def E (k : Nat) : Ents := [(⟨183, [149]⟩, U68.s k)]
def L : List (LS R) := []
def c : Code := Tryz.f148.body.getD .skip
theorem eq (k : Nat) (x) : (s k).pf x = execF tab (E k) Tryz.f148 c (s k) L x := by kernel_rfl
theorem sound : ∀ k, Sound Tryz.prog 148 (s k) := snd S (fun k => (s k).pf) E (fun k => (EntsOK.cons (U68.sound k) EntsOK.nil)) (fun k => L) (fun k => trivial) eq
end U69
namespace U70
abbrev R := (((Int × Unit) × Unit) × Unit)
abbrev T0 : Type := Int → (List tBlockD) → Int → Int → Option R
def l0_ (k : Nat) (l0 : T0) (a0 : Int) (a1 : List tBlockD) (a2 : Int) (a3 : Int) : Option R := bif decide (a3 < a2) then (bif (decide (0 ≤ a3)) && (decide (a3 < ((List.length a1 : Nat) : Int))) then (l0 (IntKind.wrap .i64 (a0 + (IntKind.wrap .i64 (((List.length ((List.getD a1 (Int.toNat a3) tBlockZ).1) : Nat) : Int) + ((List.length ((List.getD a1 (Int.toNat a3) tBlockZ).2.1) : Nat) : Int))))) a1 a2 (IntKind.wrap .i64 (a3 + 1))) else none) else (some (((a0, ()), ()), ()))
def all : Nat → (T0) × Unit
 | 0 => (fun _ _ _ _ => none, ())
 | k + 1 => (l0_ k (all k).1, ())
def l0 (k : Nat) : T0 := (all k).1
def f (k : Nat) (a0 : tFuncD) : Option R := l0 k ((List.length a0.1 : Nat) : Int) a0.2.2.1 ((List.length a0.2.2.1 : Nat) : Int) 0
abbrev S : ShapeParts := ⟨[⟨true, [.lst (.int .i64), .int .i64, .lst tBlock]⟩], [], false, [⟨false, [.int .i64]⟩], [], []⟩
def s (k : Nat) : FS := S.fs fun x => f k x.1.1
def E (k : Nat) : Ents := []
def L0 (l : T0) : LS R := ⟨[], [(3, ⟨false, [.int .i64]⟩), (10, ⟨false, [.lst tBlock]⟩), (11, ⟨false, [.int .i64]⟩), (12, ⟨false, [.int .i64]⟩)], [], fun x => l x.1.1.1 x.1.2.1.1 x.1.2.2.1.1 x.1.2.2.2.1.1⟩
def L (l0 : T0) : List (LS R) := [L0 l0]
def c : Code := Tryz.f111.body.getD .skip
theorem eq (k : Nat) (x) : (s k).pf x = execF tab (E k) Tryz.f111 c (s k) (L (l0 k)) x := by kernel_rfl
theorem r0 (l0 : T0) (k : Nat) (x) : (L0 (l0_ k l0)).l x = roundOf tab (E k) (L l0) c (fin tab Tryz.f111 (s k)) 0 (L0 l0) x := by kernel_rfl
theorem sound : ∀ k, Sound Tryz.prog 111 (s k) := snd S (fun k => (s k).pf) E (fun k => EntsOK.nil) (fun k => L (l0 k)) (fun k => ⟨⟨(L0 (l0 (k + 1))).l, rfl, fun x => r0 (l0 k) k x⟩, trivial⟩) eq
end U70
namespace U71
abbrev R := (((Bool × Unit) × Unit) × Unit)
def f (k : Nat) (a0 : Int) (a1 : Int) : Option R := Option.bind (U65.f k a0 0 (IntKind.wrap .i64 (a1 - 1))) fun r1 => some (((!r1.1.1.1, ()), ()), ())
abbrev S : ShapeParts := ⟨[⟨false, [.int .i64]⟩, ⟨false, [.ptr 0 0]⟩], [(0, .cbox [.int .i64])], false, [⟨false, [.bool]⟩], [], []⟩
def s (k : Nat) : FS := S.fs fun x => f k x.1.1.1 x.2.1.1
def E (k : Nat) : Ents := [(⟨41, []⟩, U65.s k)]
def L : List (LS R) := []
def c : Code := Tryz.f152.body.getD .skip
theorem eq (k : Nat) (x) : (s k).pf x = execF tab (E k) Tryz.f152 c (s k) L x := by kernel_rfl
theorem sound : ∀ k, Sound Tryz.prog 152 (s k) := snd S (fun k => (s k).pf) E (fun k => (EntsOK.cons (U65.sound k) EntsOK.nil)) (fun k => L) (fun k => trivial) eq
end U71
namespace U72
abbrev R := (((Int × Unit) × Unit) × Unit)
abbrev T0 : Type := (List Int) → Int → Int → Int → Option R
def l0_ (k : Nat) (l0 : T0) (a0 : List Int) (a1 : Int) (a2 : Int) (a3 : Int) : Option R := bif decide (a2 < a1) then (bif (decide (0 ≤ a2)) && (decide (a2 < ((List.length a0 : Nat) : Int))) then (Option.bind (U71.f k (List.getD a0 (Int.toNat a2) 0) a3) fun r1 => bif r1.1.1.1 then (some (((a2, ()), ()), ())) else (l0 a0 a1 (IntKind.wrap .i64 (a2 + 1)) a3)) else none) else (some (((-1, ()), ()), ()))
def all : Nat → (T0) × Unit
 | 0 => (fun _ _ _ _ => none, ())
 | k + 1 => (l0_ k (all k).1, ())
def l0 (k : Nat) : T0 := (all k).1
def f (k : Nat) (a0 : List Int) (a1 : Int) : Option R := l0 k a0 ((List.length a0 : Nat) : Int) 0 a1
abbrev S : ShapeParts := ⟨[⟨false, [.lst (.int .i64)]⟩, ⟨false, [.fn 152 [(0, 0)]]⟩], [(0, .cbox [.int .i64])], false, [⟨false, [.int .i64]⟩], [], []⟩
def s (k : Nat) : FS := S.fs fun x => f k x.1.1.1 x.2.1.1
def E (k : Nat) : Ents := [(⟨152, []⟩, U71.s k)]
def L0 (l : T0) : LS R := ⟨[], [(0, ⟨false, [.lst (.int .i64)]⟩), (1, ⟨false, [.fn 152 [(0, 0)]]⟩), (7, ⟨false, [.int .i64]⟩), (8, ⟨false, [.int .i64]⟩)], [(0, .cbox [.int .i64])], fun x => l x.1.1.1 x.1.2.2.1.1 x.1.2.2.2.1.1 x.2.1.1⟩
def L (l0 : T0) : List (LS R) := [L0 l0]
def c : Code := Tryz.f183.body.getD .skip
theorem eq (k : Nat) (x) : (s k).pf x = execF tab (E k) Tryz.f183 c (s k) (L (l0 k)) x := by kernel_rfl
theorem r0 (l0 : T0) (k : Nat) (x) : (L0 (l0_ k l0)).l x = roundOf tab (E k) (L l0) c (fin tab Tryz.f183 (s k)) 0 (L0 l0) x := by kernel_rfl
theorem sound : ∀ k, Sound Tryz.prog 183 (s k) := snd S (fun k => (s k).pf) E (fun k => (EntsOK.cons (U71.sound k) EntsOK.nil)) (fun k => L (l0 k)) (fun k => ⟨⟨(L0 (l0 (k + 1))).l, rfl, fun x => r0 (l0 k) k x⟩, trivial⟩) eq
end U72
namespace U73
abbrev R := (((Bool × Unit) × Unit) × Unit)
def f (k : Nat) (a0 : List Int) (a1 : Int) : Option R := Option.bind (U72.f k a0 a1) fun r1 => some (((decide (0 ≤ r1.1.1.1), ()), ()), ())
abbrev S : ShapeParts := ⟨[⟨false, [.lst (.int .i64)]⟩, ⟨false, [.fn 152 [(0, 0)]]⟩], [(0, .cbox [.int .i64])], false, [⟨false, [.bool]⟩], [], []⟩
def s (k : Nat) : FS := S.fs fun x => f k x.1.1.1 x.2.1.1
def E (k : Nat) : Ents := [(⟨183, [152]⟩, U72.s k)]
def L : List (LS R) := []
def c : Code := Tryz.f148.body.getD .skip
theorem eq (k : Nat) (x) : (s k).pf x = execF tab (E k) Tryz.f148 c (s k) L x := by kernel_rfl
theorem sound : ∀ k, Sound Tryz.prog 148 (s k) := snd S (fun k => (s k).pf) E (fun k => (EntsOK.cons (U72.sound k) EntsOK.nil)) (fun k => L) (fun k => trivial) eq
end U73
namespace U74
abbrev R := (((Bool × Unit) × Unit) × Unit)
def f (k : Nat) (a0 : tPhiD) (a1 : Int) : Option R := Option.bind (U66.f k a0.1) fun r1 => bif !r1.1.1.1 then (some (((true, ()), ()), ())) else (bif decide (10 < ((List.length a0.2.1 : Nat) : Int)) then (some (((true, ()), ()), ())) else (Option.bind (U73.f k a0.2.1 a1) fun r2 => some (((r2.1.1.1, ()), ()), ())))
abbrev S : ShapeParts := ⟨[⟨true, [.int .i64, .lst (.int .i64)]⟩, ⟨false, [.ptr 0 0]⟩], [(0, .cbox [.int .i64])], false, [⟨false, [.bool]⟩], [], []⟩
def s (k : Nat) : FS := S.fs fun x => f k x.1.1 x.2.1.1
def E (k : Nat) : Ents := [(⟨134, []⟩, U66.s k), (⟨148, [152]⟩, U73.s k)]
def L : List (LS R) := []
def c : Code := Tryz.f151.body.getD .skip
theorem eq (k : Nat) (x) : (s k).pf x = execF tab (E k) Tryz.f151 c (s k) L x := by kernel_rfl
theorem sound : ∀ k, Sound Tryz.prog 151 (s k) := snd S (fun k => (s k).pf) E (fun k => (EntsOK.cons (U66.sound k) (EntsOK.cons (U73.sound k) EntsOK.nil))) (fun k => L) (fun k => trivial) eq
end U74
namespace U75
abbrev R := (((Int × Unit) × Unit) × Unit)
abbrev T0 : Type := (List tPhiD) → Int → Int → Int → Option R
def l0_ (k : Nat) (l0 : T0) (a0 : List tPhiD) (a1 : Int) (a2 : Int) (a3 : Int) : Option R := bif decide (a2 < a1) then (bif (decide (0 ≤ a2)) && (decide (a2 < ((List.length a0 : Nat) : Int))) then (Option.bind (U74.f k (List.getD a0 (Int.toNat a2) tPhiZ) a3) fun r1 => bif r1.1.1.1 then (some (((a2, ()), ()), ())) else (l0 a0 a1 (IntKind.wrap .i64 (a2 + 1)) a3)) else none) else (some (((-1, ()), ()), ()))
def all : Nat → (T0) × Unit
 | 0 => (fun _ _ _ _ => none, ())
 | k + 1 => (l0_ k (all k).1, ())
def l0 (k : Nat) : T0 := (all k).1
def f (k : Nat) (a0 : List tPhiD) (a1 : Int) : Option R := l0 k a0 ((List.length a0 : Nat) : Int) 0 a1
abbrev S : ShapeParts := ⟨[⟨false, [.lst tPhi]⟩, ⟨false, [.fn 151 [(0, 0)]]⟩], [(0, .cbox [.int .i64])], false, [⟨false, [.int .i64]⟩], [], []⟩
def s (k : Nat) : FS := S.fs fun x => f k x.1.1.1 x.2.1.1
def E (k : Nat) : Ents := [(⟨151, []⟩, U74.s k)]
def L0 (l : T0) : LS R := ⟨[], [(0, ⟨false, [.lst tPhi]⟩), (1, ⟨false, [.fn 151 [(0, 0)]]⟩), (7, ⟨false, [.int .i64]⟩), (8, ⟨false, [.int .i64]⟩)], [(0, .cbox [.int .i64])], fun x => l x.1.1.1 x.1.2.2.1.1 x.1.2.2.2.1.1 x.2.1.1⟩
def L (l0 : T0) : List (LS R) := [L0 l0]
def c : Code := Tryz.f184.body.getD .skip
theorem eq (k : Nat) (x) : (s k).pf x = execF tab (E k) Tryz.f184 c (s k) (L (l0 k)) x := by kernel_rfl
theorem r0 (l0 : T0) (k : Nat) (x) : (L0 (l0_ k l0)).l x = roundOf tab (E k) (L l0) c (fin tab Tryz.f184 (s k)) 0 (L0 l0) x := by kernel_rfl
theorem sound : ∀ k, Sound Tryz.prog 184 (s k) := snd S (fun k => (s k).pf) E (fun k => (EntsOK.cons (U74.sound k) EntsOK.nil)) (fun k => L (l0 k)) (fun k => ⟨⟨(L0 (l0 (k + 1))).l, rfl, fun x => r0 (l0 k) k x⟩, trivial⟩) eq
end U75
namespace U76
abbrev R := (((Bool × Unit) × Unit) × Unit)
def f (k : Nat) (a0 : List tPhiD) (a1 : Int) : Option R := Option.bind (U75.f k a0 a1) fun r1 => some (((decide (0 ≤ r1.1.1.1), ()), ()), ())
abbrev S : ShapeParts := ⟨[⟨false, [.lst tPhi]⟩, ⟨false, [.fn 151 [(0, 0)]]⟩], [(0, .cbox [.int .i64])], false, [⟨false, [.bool]⟩], [], []⟩
def s (k : Nat) : FS := S.fs fun x => f k x.1.1.1 x.2.1.1
def E (k : Nat) : Ents := [(⟨184, [151]⟩, U75.s k)]
def L : List (LS R) := []
def c : Code := Tryz.f150.body.getD .skip
theorem eq (k : Nat) (x) : (s k).pf x = execF tab (E k) Tryz.f150 c (s k) L x := by kernel_rfl
theorem sound : ∀ k, Sound Tryz.prog 150 (s k) := snd S (fun k => (s k).pf) E (fun k => (EntsOK.cons (U75.sound k) EntsOK.nil)) (fun k => L) (fun k => trivial) eq
end U76
namespace U77
abbrev R := (((Bool × Unit) × Unit) × Unit)
def f (k : Nat) (a0 : Int) : Option R := Option.bind (U65.f k a0 1 17) fun r1 => some (((r1.1.1.1, ()), ()), ())
abbrev S : ShapeParts := ⟨[⟨false, [.int .i64]⟩], [], false, [⟨false, [.bool]⟩], [], []⟩
def s (k : Nat) : FS := S.fs fun x => f k x.1.1.1
def E (k : Nat) : Ents := [(⟨41, []⟩, U65.s k)]
def L : List (LS R) := []
def c : Code := Tryz.f71.body.getD .skip
theorem eq (k : Nat) (x) : (s k).pf x = execF tab (E k) Tryz.f71 c (s k) L x := by kernel_rfl
theorem sound : ∀ k, Sound Tryz.prog 71 (s k) := snd S (fun k => (s k).pf) E (fun k => (EntsOK.cons (U65.sound k) EntsOK.nil)) (fun k => L) (fun k => trivial) eq
end U77
namespace U78
abbrev R := (((Bool × Unit) × Unit) × Unit)
def f (k : Nat) (a0 : Int) : Option R := Option.bind (U65.f k a0 18 20) fun r1 => some (((r1.1.1.1, ()), ()), ())
abbrev S : ShapeParts := ⟨[⟨false, [.int .i64]⟩], [], false, [⟨false, [.bool]⟩], [], []⟩
def s (k : Nat) : FS := S.fs fun x => f k x.1.1.1
def E (k : Nat) : Ents := [(⟨41, []⟩, U65.s k)]
def L : List (LS R) := []
def c : Code := Tryz.f73.body.getD .skip
theorem eq (k : Nat) (x) : (s k).pf x = execF tab (E k) Tryz.f73 c (s k) L x := by kernel_rfl
theorem sound : ∀ k, Sound Tryz.prog 73 (s k) := snd S (fun k => (s k).pf) E (fun k => (EntsOK.cons (U65.sound k) EntsOK.nil)) (fun k => L) (fun k => trivial) eq
end U78
namespace U79
abbrev R := (((Unit × Unit) × Unit) × ((List Int) × Unit))
def f (k : Nat) (a0 : tInstD) : Option R := Option.bind (U77.f k a0.1) fun r1 => bif r1.1.1.1 then (some ((((), ()), ()), ([a0.2.2.1, a0.2.2.2.1], ()))) else (bif decide (a0.1 = 24) then (some ((((), ()), ()), ([a0.2.2.1, a0.2.2.2.1], ()))) else (Option.bind (U78.f k a0.1) fun r2 => bif r2.1.1.1 then (some ((((), ()), ()), ([a0.2.2.1], ()))) else (bif decide (a0.1 = 23) then (some ((((), ()), ()), ([a0.2.2.1], ()))) else (bif decide (a0.1 = 25) then (some ((((), ()), ()), ([a0.2.2.1], ()))) else (bif decide (a0.1 = 27) then (some ((((), ()), ()), ([a0.2.2.1], ()))) else (bif decide (a0.1 = 22) then (some ((((), ()), ()), ([a0.2.2.1, a0.2.2.2.1, a0.2.2.2.2.1], ()))) else (bif decide (a0.1 = 26) then (Option.bind (slices_Clone_int64_int64.f k a0.2.2.2.2.2.2.1) fun r3 => some ((((), ()), ()), (r3.2.1, ()))) else (some ((((), ()), ()), (([] : List Int), ()))))))))))
abbrev S : ShapeParts := ⟨[⟨true, [.int .i64, .int .i64, .int .i64, .int .i64, .int .i64, .int .i64, .lst (.int .i64)]⟩], [], false, [⟨false, [.own 100]⟩], [(100, .row true (.int .i64))], []⟩
def s (k : Nat) : FS := S.fs fun x => f k x.1.1
def E (k : Nat) : Ents := [(⟨71, []⟩, U77.s k), (⟨73, []⟩, U78.s k), (⟨166, []⟩, slices_Clone_int64_int64.s k)]
def L : List (LS R) := []
def c : Code := Tryz.f164.body.getD .skip
theorem eq (k : Nat) (x) : (s k).pf x = execF tab (E k) Tryz.f164 c (s k) L x := by kernel_rfl
theorem sound : ∀ k, Sound Tryz.prog 164 (s k) := snd S (fun k => (s k).pf) E (fun k => (EntsOK.cons (U77.sound k) (EntsOK.cons (U78.sound k) (EntsOK.cons (slices_Clone_int64_int64.sound k) EntsOK.nil)))) (fun k => L) (fun k => trivial) eq
end U79
namespace U80
abbrev R := (((Bool × Unit) × Unit) × Unit)
def f (k : Nat) (a0 : Int) (a1 : Int) : Option R := Option.bind (U65.f k a0 0 (IntKind.wrap .i64 (a1 - 1))) fun r1 => some (((!r1.1.1.1, ()), ()), ())
abbrev S : ShapeParts := ⟨[⟨false, [.int .i64]⟩, ⟨false, [.ptr 0 0]⟩], [(0, .cbox [.int .i64])], false, [⟨false, [.bool]⟩], [], []⟩
def s (k : Nat) : FS := S.fs fun x => f k x.1.1.1 x.2.1.1
def E (k : Nat) : Ents := [(⟨41, []⟩, U65.s k)]
def L : List (LS R) := []
def c : Code := Tryz.f185.body.getD .skip
theorem eq (k : Nat) (x) : (s k).pf x = execF tab (E k) Tryz.f185 c (s k) L x := by kernel_rfl
theorem sound : ∀ k, Sound Tryz.prog 185 (s k) := snd S (fun k => (s k).pf) E (fun k => (EntsOK.cons (U65.sound k) EntsOK.nil)) (fun k => L) (fun k => trivial) eq
end U80
namespace U81
abbrev R := (((Int × Unit) × Unit) × Unit)
abbrev T0 : Type := (List Int) → Int → Int → Int → Option R
def l0_ (k : Nat) (l0 : T0) (a0 : List Int) (a1 : Int) (a2 : Int) (a3 : Int) : Option R := bif decide (a2 < a1) then (bif (decide (0 ≤ a2)) && (decide (a2 < ((List.length a0 : Nat) : Int))) then (Option.bind (U80.f k (List.getD a0 (Int.toNat a2) 0) a3) fun r1 => bif r1.1.1.1 then (some (((a2, ()), ()), ())) else (l0 a0 a1 (IntKind.wrap .i64 (a2 + 1)) a3)) else none) else (some (((-1, ()), ()), ()))
def all : Nat → (T0) × Unit
 | 0 => (fun _ _ _ _ => none, ())
 | k + 1 => (l0_ k (all k).1, ())
def l0 (k : Nat) : T0 := (all k).1
def f (k : Nat) (a0 : List Int) (a1 : Int) : Option R := l0 k a0 ((List.length a0 : Nat) : Int) 0 a1
abbrev S : ShapeParts := ⟨[⟨false, [.lst (.int .i64)]⟩, ⟨false, [.fn 185 [(0, 0)]]⟩], [(0, .cbox [.int .i64])], false, [⟨false, [.int .i64]⟩], [], []⟩
def s (k : Nat) : FS := S.fs fun x => f k x.1.1.1 x.2.1.1
def E (k : Nat) : Ents := [(⟨185, []⟩, U80.s k)]
def L0 (l : T0) : LS R := ⟨[], [(0, ⟨false, [.lst (.int .i64)]⟩), (1, ⟨false, [.fn 185 [(0, 0)]]⟩), (7, ⟨false, [.int .i64]⟩), (8, ⟨false, [.int .i64]⟩)], [(0, .cbox [.int .i64])], fun x => l x.1.1.1 x.1.2.2.1.1 x.1.2.2.2.1.1 x.2.1.1⟩
def L (l0 : T0) : List (LS R) := [L0 l0]
def c : Code := Tryz.f183.body.getD .skip
theorem eq (k : Nat) (x) : (s k).pf x = execF tab (E k) Tryz.f183 c (s k) (L (l0 k)) x := by kernel_rfl
theorem r0 (l0 : T0) (k : Nat) (x) : (L0 (l0_ k l0)).l x = roundOf tab (E k) (L l0) c (fin tab Tryz.f183 (s k)) 0 (L0 l0) x := by kernel_rfl
theorem sound : ∀ k, Sound Tryz.prog 183 (s k) := snd S (fun k => (s k).pf) E (fun k => (EntsOK.cons (U80.sound k) EntsOK.nil)) (fun k => L (l0 k)) (fun k => ⟨⟨(L0 (l0 (k + 1))).l, rfl, fun x => r0 (l0 k) k x⟩, trivial⟩) eq
end U81
namespace U82
abbrev R := (((Bool × Unit) × Unit) × Unit)
def f (k : Nat) (a0 : List Int) (a1 : Int) : Option R := Option.bind (U81.f k a0 a1) fun r1 => some (((decide (0 ≤ r1.1.1.1), ()), ()), ())
abbrev S : ShapeParts := ⟨[⟨false, [.lst (.int .i64)]⟩, ⟨false, [.fn 185 [(0, 0)]]⟩], [(0, .cbox [.int .i64])], false, [⟨false, [.bool]⟩], [], []⟩
def s (k : Nat) : FS := S.fs fun x => f k x.1.1.1 x.2.1.1
def E (k : Nat) : Ents := [(⟨183, [185]⟩, U81.s k)]
def L : List (LS R) := []
def c : Code := Tryz.f148.body.getD .skip
theorem eq (k : Nat) (x) : (s k).pf x = execF tab (E k) Tryz.f148 c (s k) L x := by kernel_rfl
theorem sound : ∀ k, Sound Tryz.prog 148 (s k) := snd S (fun k => (s k).pf) E (fun k => (EntsOK.cons (U81.sound k) EntsOK.nil)) (fun k => L) (fun k => trivial) eq
end U82
namespace U83
abbrev R := (((Bool × Unit) × Unit) × Unit)
def f (k : Nat) (a0 : Int) : Option R := some (((!decide (a0 = 0), ()), ()), ())
abbrev S : ShapeParts := ⟨[⟨false, [.int .i64]⟩], [], false, [⟨false, [.bool]⟩], [], []⟩
def s (k : Nat) : FS := S.fs fun x => f k x.1.1.1
def E (k : Nat) : Ents := []
def L : List (LS R) := []
def c : Code := Tryz.f186.body.getD .skip
theorem eq (k : Nat) (x) : (s k).pf x = execF tab (E k) Tryz.f186 c (s k) L x := by kernel_rfl
theorem sound : ∀ k, Sound Tryz.prog 186 (s k) := snd S (fun k => (s k).pf) E (fun k => EntsOK.nil) (fun k => L) (fun k => trivial) eq
end U83
namespace U84
abbrev R := (((Int × Unit) × Unit) × Unit)
abbrev T0 : Type := (List Int) → Int → Int → Option R
def l0_ (k : Nat) (l0 : T0) (a0 : List Int) (a1 : Int) (a2 : Int) : Option R := bif decide (a2 < a1) then (bif (decide (0 ≤ a2)) && (decide (a2 < ((List.length a0 : Nat) : Int))) then (Option.bind (U83.f k (List.getD a0 (Int.toNat a2) 0)) fun r1 => bif r1.1.1.1 then (some (((a2, ()), ()), ())) else (l0 a0 a1 (IntKind.wrap .i64 (a2 + 1)))) else none) else (some (((-1, ()), ()), ()))
def all : Nat → (T0) × Unit
 | 0 => (fun _ _ _ => none, ())
 | k + 1 => (l0_ k (all k).1, ())
def l0 (k : Nat) : T0 := (all k).1
def f (k : Nat) (a0 : List Int) : Option R := l0 k a0 ((List.length a0 : Nat) : Int) 0
abbrev S : ShapeParts := ⟨[⟨false, [.lst (.int .i64)]⟩, ⟨false, [.fn 186 []]⟩], [], false, [⟨false, [.int .i64]⟩], [], []⟩
def s (k : Nat) : FS := S.fs fun x => f k x.1.1.1
def E (k : Nat) : Ents := [(⟨186, []⟩, U83.s k)]
def L0 (l : T0) : LS R := ⟨[], [(0, ⟨false, [.lst (.int .i64)]⟩), (1, ⟨false, [.fn 186 []]⟩), (7, ⟨false, [.int .i64]⟩), (8, ⟨false, [.int .i64]⟩)], [], fun x => l x.1.1.1 x.1.2.2.1.1 x.1.2.2.2.1.1⟩
def L (l0 : T0) : List (LS R) := [L0 l0]
def c : Code := Tryz.f183.body.getD .skip
theorem eq (k : Nat) (x) : (s k).pf x = execF tab (E k) Tryz.f183 c (s k) (L (l0 k)) x := by kernel_rfl
theorem r0 (l0 : T0) (k : Nat) (x) : (L0 (l0_ k l0)).l x = roundOf tab (E k) (L l0) c (fin tab Tryz.f183 (s k)) 0 (L0 l0) x := by kernel_rfl
theorem sound : ∀ k, Sound Tryz.prog 183 (s k) := snd S (fun k => (s k).pf) E (fun k => (EntsOK.cons (U83.sound k) EntsOK.nil)) (fun k => L (l0 k)) (fun k => ⟨⟨(L0 (l0 (k + 1))).l, rfl, fun x => r0 (l0 k) k x⟩, trivial⟩) eq
end U84
namespace U85
abbrev R := (((Bool × Unit) × Unit) × Unit)
def f (k : Nat) (a0 : List Int) : Option R := Option.bind (U84.f k a0) fun r1 => some (((decide (0 ≤ r1.1.1.1), ()), ()), ())
abbrev S : ShapeParts := ⟨[⟨false, [.lst (.int .i64)]⟩, ⟨false, [.fn 186 []]⟩], [], false, [⟨false, [.bool]⟩], [], []⟩
def s (k : Nat) : FS := S.fs fun x => f k x.1.1.1
def E (k : Nat) : Ents := [(⟨183, [186]⟩, U84.s k)]
def L : List (LS R) := []
def c : Code := Tryz.f148.body.getD .skip
theorem eq (k : Nat) (x) : (s k).pf x = execF tab (E k) Tryz.f148 c (s k) L x := by kernel_rfl
theorem sound : ∀ k, Sound Tryz.prog 148 (s k) := snd S (fun k => (s k).pf) E (fun k => (EntsOK.cons (U84.sound k) EntsOK.nil)) (fun k => L) (fun k => trivial) eq
end U85
namespace U86
abbrev R := (((Bool × Unit) × Unit) × Unit)
def f (k : Nat) (a0 : tInstD) : Option R := bif decide (a0.1 = 24) then (bif decide (a0.1 = 24) then (some (((decide (a0.2.1 = 0), ()), ()), ())) else (bif decide (a0.1 = 23) then (some (((decide (a0.2.1 = 8), ()), ()), ())) else (Option.bind (U66.f k a0.2.1) fun r1 => some (((r1.1.1.1, ()), ()), ())))) else (bif decide (a0.1 = 25) then (some (((decide (a0.2.1 = 0), ()), ()), ())) else (bif decide (a0.1 = 23) then (some (((decide (a0.2.1 = 8), ()), ()), ())) else (Option.bind (U66.f k a0.2.1) fun r2 => some (((r2.1.1.1, ()), ()), ()))))
abbrev S : ShapeParts := ⟨[⟨true, [.int .i64, .int .i64, .int .i64, .int .i64, .int .i64, .int .i64, .lst (.int .i64)]⟩], [], false, [⟨false, [.bool]⟩], [], []⟩
def s (k : Nat) : FS := S.fs fun x => f k x.1.1
def E (k : Nat) : Ents := [(⟨134, []⟩, U66.s k)]
def L : List (LS R) := []
def c : Code := Tryz.f187.body.getD .skip
theorem eq (k : Nat) (x) : (s k).pf x = execF tab (E k) Tryz.f187 c (s k) L x := by kernel_rfl
theorem sound : ∀ k, Sound Tryz.prog 187 (s k) := snd S (fun k => (s k).pf) E (fun k => (EntsOK.cons (U66.sound k) EntsOK.nil)) (fun k => L) (fun k => trivial) eq
end U86
namespace U87
abbrev R := (((Int × Unit) × Unit) × Unit)
def f (k : Nat) (a0 : Int) : Option R := bif decide (0 ≤ a0) then (some (((IntKind.wrap .i64 ((V.shl .i64 1 a0) - 1), ()), ()), ())) else none
abbrev S : ShapeParts := ⟨[⟨false, [.int .i64]⟩], [], false, [⟨false, [.int .i64]⟩], [], []⟩
def s (k : Nat) : FS := S.fs fun x => f k x.1.1.1
def E (k : Nat) : Ents := []
def L : List (LS R) := []
def c : Code := Tryz.f139.body.getD .skip
theorem eq (k : Nat) (x) : (s k).pf x = execF tab (E k) Tryz.f139 c (s k) L x := by kernel_rfl
theorem sound : ∀ k, Sound Tryz.prog 139 (s k) := snd S (fun k => (s k).pf) E (fun k => EntsOK.nil) (fun k => L) (fun k => trivial) eq
end U87
namespace U88
abbrev R := (((Bool × Unit) × Unit) × Unit)
def f (k : Nat) (a0 : Int) (a1 : Int) : Option R := Option.bind (U66.f k a0) fun r1 => bif r1.1.1.1 then (Option.bind (U87.f k a0) fun r2 => Option.bind (U65.f k a1 0 r2.1.1.1) fun r3 => some (((r3.1.1.1, ()), ()), ())) else (some (((false, ()), ()), ()))
abbrev S : ShapeParts := ⟨[⟨false, [.int .i64]⟩, ⟨false, [.int .i64]⟩], [], false, [⟨false, [.bool]⟩], [], []⟩
def s (k : Nat) : FS := S.fs fun x => f k x.1.1.1 x.1.2.1.1
def E (k : Nat) : Ents := [(⟨134, []⟩, U66.s k), (⟨139, []⟩, U87.s k), (⟨41, []⟩, U65.s k)]
def L : List (LS R) := []
def c : Code := Tryz.f78.body.getD .skip
theorem eq (k : Nat) (x) : (s k).pf x = execF tab (E k) Tryz.f78 c (s k) L x := by kernel_rfl
theorem sound : ∀ k, Sound Tryz.prog 78 (s k) := snd S (fun k => (s k).pf) E (fun k => (EntsOK.cons (U66.sound k) (EntsOK.cons (U87.sound k) (EntsOK.cons (U65.sound k) EntsOK.nil)))) (fun k => L) (fun k => trivial) eq
end U88
namespace U89
abbrev R := (((Bool × Unit) × Unit) × Unit)
def f (k : Nat) (a0 : tInstD) (a1 : Int) : Option R := bif decide (a0.1 = 21) then (Option.bind (U88.f k a0.2.1 a0.2.2.2.2.2.1) fun r1 => some (((r1.1.1.1, ()), ()), ())) else (bif decide (a0.1 = 26) then (Option.bind (U65.f k a0.2.2.2.2.2.1 0 (IntKind.wrap .i64 (a1 - 1))) fun r2 => some (((r2.1.1.1, ()), ()), ())) else (some (((decide (a0.2.2.2.2.2.1 = 0), ()), ()), ())))
abbrev S : ShapeParts := ⟨[⟨true, [.int .i64, .int .i64, .int .i64, .int .i64, .int .i64, .int .i64, .lst (.int .i64)]⟩, ⟨false, [.int .i64]⟩], [], false, [⟨false, [.bool]⟩], [], []⟩
def s (k : Nat) : FS := S.fs fun x => f k x.1.1 x.1.2.1.1
def E (k : Nat) : Ents := [(⟨78, []⟩, U88.s k), (⟨41, []⟩, U65.s k)]
def L : List (LS R) := []
def c : Code := Tryz.f188.body.getD .skip
theorem eq (k : Nat) (x) : (s k).pf x = execF tab (E k) Tryz.f188 c (s k) L x := by kernel_rfl
theorem sound : ∀ k, Sound Tryz.prog 188 (s k) := snd S (fun k => (s k).pf) E (fun k => (EntsOK.cons (U88.sound k) (EntsOK.cons (U65.sound k) EntsOK.nil))) (fun k => L) (fun k => trivial) eq
end U89
namespace U90
abbrev R := (((Bool × Unit) × Unit) × Unit)
def f (k : Nat) (a0 : tInstD) (a1 : Int) (a2 : Int) : Option R := Option.bind (U65.f k a0.1 1 27) fun r1 => bif !r1.1.1.1 then (some (((false, ()), ()), ())) else (bif decide (4 < ((List.length a0.2.2.2.2.2.2.1 : Nat) : Int)) then (some (((false, ()), ()), ())) else (bif decide (0 < ((List.length a0.2.2.2.2.2.2.1 : Nat) : Int)) then (bif !decide (a0.1 = 26) then (some (((false, ()), ()), ())) else (Option.bind (U79.f k a0) fun r2 => Option.bind (U82.f k r2.2.1 a1) fun r3 => bif r3.1.1.1 then (some (((false, ()), ()), ())) else (bif decide (a0.1 = 26) then (bif (decide (0 ≤ 0)) && (decide (0 ≤ ((List.length [a0.2.2.1, a0.2.2.2.1, a0.2.2.2.2.1] : Nat) : Int))) then (Option.bind (U85.f k [a0.2.2.1, a0.2.2.2.1, a0.2.2.2.2.1]) fun r4 => bif r4.1.1.1 then (some (((false, ()), ()), ())) else (Option.bind (U86.f k a0) fun r5 => bif r5.1.1.1 then (Option.bind (U89.f k a0 a2) fun r6 => some (((r6.1.1.1, ()), ()), ())) else (some (((false, ()), ()), ())))) else none) else (bif (decide (0 ≤ ((List.length r2.2.1 : Nat) : Int))) && (decide (((List.length r2.2.1 : Nat) : Int) ≤ ((List.length [a0.2.2.1, a0.2.2.2.1, a0.2.2.2.2.1] : Nat) : Int))) then (Option.bind (U85.f k (List.drop (Int.toNat ((List.length r2.2.1 : Nat) : Int)) [a0.2.2.1, a0.2.2.2.1, a0.2.2.2.2.1])) fun r7 => bif r7.1.1.1 then (some (((false, ()), ()), ())) else (Option.bind (U86.f k a0) fun r8 => bif r8.1.1.1 then (Option.bind (U89.f k a0 a2) fun r9 => some (((r9.1.1.1, ()), ()), ())) else (some (((false, ()), ()), ())))) else none)))) else (Option.bind (U79.f k a0) fun r10 => Option.bind (U82.f k r10.2.1 a1) fun r11 => bif r11.1.1.1 then (some (((false, ()), ()), ())) else (bif decide (a0.1 = 26) then (bif (decide (0 ≤ 0)) && (decide (0 ≤ ((List.length [a0.2.2.1, a0.2.2.2.1, a0.2.2.2.2.1] : Nat) : Int))) then (Option.bind (U85.f k [a0.2.2.1, a0.2.2.2.1, a0.2.2.2.2.1]) fun r12 => bif r12.1.1.1 then (some (((false, ()), ()), ())) else (Option.bind (U86.f k a0) fun r13 => bif r13.1.1.1 then (Option.bind (U89.f k a0 a2) fun r14 => some (((r14.1.1.1, ()), ()), ())) else (some (((false, ()), ()), ())))) else none) else (bif (decide (0 ≤ ((List.length r10.2.1 : Nat) : Int))) && (decide (((List.length r10.2.1 : Nat) : Int) ≤ ((List.length [a0.2.2.1, a0.2.2.2.1, a0.2.2.2.2.1] : Nat) : Int))) then (Option.bind (U85.f k (List.drop (Int.toNat ((List.length r10.2.1 : Nat) : Int)) [a0.2.2.1, a0.2.2.2.1, a0.2.2.2.2.1])) fun r15 => bif r15.1.1.1 then (some (((false, ()), ()), ())) else (Option.bind (U86.f k a0) fun r16 => bif r16.1.1.1 then (Option.bind (U89.f k a0 a2) fun r17 => some (((r17.1.1.1, ()), ()), ())) else (some (((false, ()), ()), ())))) else none)))))
abbrev S : ShapeParts := ⟨[⟨true, [.int .i64, .int .i64, .int .i64, .int .i64, .int .i64, .int .i64, .lst (.int .i64)]⟩, ⟨false, [.int .i64]⟩, ⟨false, [.int .i64]⟩], [], false, [⟨false, [.bool]⟩], [], []⟩
def s (k : Nat) : FS := S.fs fun x => f k x.1.1 x.1.2.1.1 x.1.2.2.1.1
def E (k : Nat) : Ents := [(⟨41, []⟩, U65.s k), (⟨164, []⟩, U79.s k), (⟨148, [185]⟩, U82.s k), (⟨148, [186]⟩, U85.s k), (⟨187, []⟩, U86.s k), (⟨188, []⟩, U89.s k)]
def L : List (LS R) := []
def c : Code := Tryz.f154.body.getD .skip
theorem eq (k : Nat) (x) : (s k).pf x = execF tab (E k) Tryz.f154 c (s k) L x := by kernel_rfl
theorem sound : ∀ k, Sound Tryz.prog 154 (s k) := snd S (fun k => (s k).pf) E (fun k => (EntsOK.cons (U65.sound k) (EntsOK.cons (U79.sound k) (EntsOK.cons (U82.sound k) (EntsOK.cons (U85.sound k) (EntsOK.cons (U86.sound k) (EntsOK.cons (U89.sound k) EntsOK.nil))))))) (fun k => L) (fun k => trivial) eq
end U90
namespace U91
abbrev R := (((Bool × Unit) × Unit) × Unit)
def f (k : Nat) (a0 : tInstD) (a1 : Int) (a2 : Int) : Option R := Option.bind (U90.f k a0 a1 a2) fun r1 => some (((!r1.1.1.1, ()), ()), ())
abbrev S : ShapeParts := ⟨[⟨true, [.int .i64, .int .i64, .int .i64, .int .i64, .int .i64, .int .i64, .lst (.int .i64)]⟩, ⟨false, [.ptr 0 0]⟩, ⟨false, [.ptr 1 0]⟩], [(0, .cbox [.int .i64]), (1, .cbox [.int .i64])], false, [⟨false, [.bool]⟩], [], []⟩
def s (k : Nat) : FS := S.fs fun x => f k x.1.1 x.2.1.1 x.2.2.1.1
def E (k : Nat) : Ents := [(⟨154, []⟩, U90.s k)]
def L : List (LS R) := []
def c : Code := Tryz.f153.body.getD .skip
theorem eq (k : Nat) (x) : (s k).pf x = execF tab (E k) Tryz.f153 c (s k) L x := by kernel_rfl
theorem sound : ∀ k, Sound Tryz.prog 153 (s k) := snd S (fun k => (s k).pf) E (fun k => (EntsOK.cons (U90.sound k) EntsOK.nil)) (fun k => L) (fun k => trivial) eq
end U91
namespace U92
abbrev R := (((Int × Unit) × Unit) × Unit)
abbrev T0 : Type := (List tInstD) → Int → Int → Int → Int → Option R
def l0_ (k : Nat) (l0 : T0) (a0 : List tInstD) (a1 : Int) (a2 : Int) (a3 : Int) (a4 : Int) : Option R := bif decide (a2 < a1) then (bif (decide (0 ≤ a2)) && (decide (a2 < ((List.length a0 : Nat) : Int))) then (Option.bind (U91.f k (List.getD a0 (Int.toNat a2) tInstZ) a3 a4) fun r1 => bif r1.1.1.1 then (some (((a2, ()), ()), ())) else (l0 a0 a1 (IntKind.wrap .i64 (a2 + 1)) a3 a4)) else none) else (some (((-1, ()), ()), ()))
def all : Nat → (T0) × Unit
 | 0 => (fun _ _ _ _ _ => none, ())
 | k + 1 => (l0_ k (all k).1, ())
def l0 (k : Nat) : T0 := (all k).1
def f (k : Nat) (a0 : List tInstD) (a1 : Int) (a2 : Int) : Option R := l0 k a0 ((List.length a0 : Nat) : Int) 0 a1 a2
abbrev S : ShapeParts := ⟨[⟨false, [.lst tInst]⟩, ⟨false, [.fn 153 [(0, 0), (1, 0)]]⟩], [(0, .cbox [.int .i64]), (1, .cbox [.int .i64])], false, [⟨false, [.int .i64]⟩], [], []⟩
def s (k : Nat) : FS := S.fs fun x => f k x.1.1.1 x.2.1.1 x.2.2.1.1
def E (k : Nat) : Ents := [(⟨153, []⟩, U91.s k)]
def L0 (l : T0) : LS R := ⟨[], [(0, ⟨false, [.lst tInst]⟩), (1, ⟨false, [.fn 153 [(0, 0), (1, 0)]]⟩), (7, ⟨false, [.int .i64]⟩), (8, ⟨false, [.int .i64]⟩)], [(0, .cbox [.int .i64]), (1, .cbox [.int .i64])], fun x => l x.1.1.1 x.1.2.2.1.1 x.1.2.2.2.1.1 x.2.1.1 x.2.2.1.1⟩
def L (l0 : T0) : List (LS R) := [L0 l0]
def c : Code := Tryz.f161.body.getD .skip
theorem eq (k : Nat) (x) : (s k).pf x = execF tab (E k) Tryz.f161 c (s k) (L (l0 k)) x := by kernel_rfl
theorem r0 (l0 : T0) (k : Nat) (x) : (L0 (l0_ k l0)).l x = roundOf tab (E k) (L l0) c (fin tab Tryz.f161 (s k)) 0 (L0 l0) x := by kernel_rfl
theorem sound : ∀ k, Sound Tryz.prog 161 (s k) := snd S (fun k => (s k).pf) E (fun k => (EntsOK.cons (U91.sound k) EntsOK.nil)) (fun k => L (l0 k)) (fun k => ⟨⟨(L0 (l0 (k + 1))).l, rfl, fun x => r0 (l0 k) k x⟩, trivial⟩) eq
end U92
namespace U93
abbrev R := (((Bool × Unit) × Unit) × Unit)
def f (k : Nat) (a0 : List tInstD) (a1 : Int) (a2 : Int) : Option R := Option.bind (U92.f k a0 a1 a2) fun r1 => some (((decide (0 ≤ r1.1.1.1), ()), ()), ())
abbrev S : ShapeParts := ⟨[⟨false, [.lst tInst]⟩, ⟨false, [.fn 153 [(0, 0), (1, 0)]]⟩], [(0, .cbox [.int .i64]), (1, .cbox [.int .i64])], false, [⟨false, [.bool]⟩], [], []⟩
def s (k : Nat) : FS := S.fs fun x => f k x.1.1.1 x.2.1.1 x.2.2.1.1
def E (k : Nat) : Ents := [(⟨161, [153]⟩, U92.s k)]
def L : List (LS R) := []
def c : Code := Tryz.f91.body.getD .skip
theorem eq (k : Nat) (x) : (s k).pf x = execF tab (E k) Tryz.f91 c (s k) L x := by kernel_rfl
theorem sound : ∀ k, Sound Tryz.prog 91 (s k) := snd S (fun k => (s k).pf) E (fun k => (EntsOK.cons (U92.sound k) EntsOK.nil)) (fun k => L) (fun k => trivial) eq
end U93
namespace U94
abbrev R := (((Bool × Unit) × Unit) × Unit)
def f (k : Nat) (a0 : Int) (a1 : tFuncD) : Option R := Option.bind (U65.f k a0 0 (IntKind.wrap .i64 (((List.length a1.2.2.1 : Nat) : Int) - 1))) fun r1 => some (((r1.1.1.1, ()), ()), ())
abbrev S : ShapeParts := ⟨[⟨false, [.int .i64]⟩, ⟨false, [.ptr 0 0]⟩], [(0, .cbox [.lst (.int .i64), .int .i64, .lst tBlock])], false, [⟨false, [.bool]⟩], [], []⟩
def s (k : Nat) : FS := S.fs fun x => f k x.1.1.1 x.2.1
def E (k : Nat) : Ents := [(⟨41, []⟩, U65.s k)]
def L : List (LS R) := []
def c : Code := Tryz.f189.body.getD .skip
theorem eq (k : Nat) (x) : (s k).pf x = execF tab (E k) Tryz.f189 c (s k) L x := by kernel_rfl
theorem sound : ∀ k, Sound Tryz.prog 189 (s k) := snd S (fun k => (s k).pf) E (fun k => (EntsOK.cons (U65.sound k) EntsOK.nil)) (fun k => L) (fun k => trivial) eq
end U94
namespace U95
abbrev R := (((Bool × Unit) × Unit) × Unit)
def f (k : Nat) (a0 : tFuncD) (a1 : tTermD) (a2 : Int) : Option R := bif decide (a1.1 = 1) then (Option.bind (U65.f k a1.2.1 0 (IntKind.wrap .i64 (a2 - 1))) fun r1 => bif r1.1.1.1 then (bif decide (a1.2.2.1 = 0) then (some (((decide (a1.2.2.2.1 = 0), ()), ()), ())) else (some (((false, ()), ()), ()))) else (some (((false, ()), ()), ()))) else (bif decide (a1.1 = 2) then (bif decide (a1.2.1 = 0) then (Option.bind (U94.f k a1.2.2.1 a0) fun r2 => bif r2.1.1.1 then (some (((decide (a1.2.2.2.1 = 0), ()), ()), ())) else (some (((false, ()), ()), ()))) else (some (((false, ()), ()), ()))) else (bif decide (a1.1 = 3) then (Option.bind (U65.f k a1.2.1 0 (IntKind.wrap .i64 (a2 - 1))) fun r3 => bif r3.1.1.1 then (Option.bind (U94.f k a1.2.2.1 a0) fun r4 => bif r4.1.1.1 then (Option.bind (U94.f k a1.2.2.2.1 a0) fun r5 => bif r5.1.1.1 then (some (((!decide (a1.2.2.1 = a1.2.2.2.1), ()), ()), ())) else (some (((false, ()), ()), ()))) else (some (((false, ()), ()), ()))) else (some (((false, ()), ()), ()))) else (bif decide (a1.1 = 4) then (bif decide (a1.2.1 = 0) then (bif decide (a1.2.2.1 = 0) then (some (((decide (a1.2.2.2.1 = 0), ()), ()), ())) else (some (((false, ()), ()), ()))) else (some (((false, ()), ()), ()))) else (some (((false, ()), ()), ())))))
abbrev S : ShapeParts := ⟨[⟨true, [.lst (.int .i64), .int .i64, .lst tBlock]⟩, ⟨true, [.int .i64, .int .i64, .int .i64, .int .i64]⟩, ⟨false, [.int .i64]⟩], [], false, [⟨false, [.bool]⟩], [], []⟩
def s (k : Nat) : FS := S.fs fun x => f k x.1.1 x.1.2.1 x.1.2.2.1.1
def E (k : Nat) : Ents := [(⟨41, []⟩, U65.s k), (⟨189, []⟩, U94.s k)]
def L : List (LS R) := []
def c : Code := Tryz.f155.body.getD .skip
theorem eq (k : Nat) (x) : (s k).pf x = execF tab (E k) Tryz.f155 c (s k) L x := by kernel_rfl
theorem sound : ∀ k, Sound Tryz.prog 155 (s k) := snd S (fun k => (s k).pf) E (fun k => (EntsOK.cons (U65.sound k) (EntsOK.cons (U94.sound k) EntsOK.nil))) (fun k => L) (fun k => trivial) eq
end U95
namespace U96
abbrev R := (((Bool × Unit) × Unit) × Unit)
abbrev T0 : Type := (List tBlockD) → Int → Int → tFuncD → Int → Int → Option R
def l0_ (k : Nat) (l0 : T0) (a0 : List tBlockD) (a1 : Int) (a2 : Int) (a3 : tFuncD) (a4 : Int) (a5 : Int) : Option R := bif decide (a2 < a1) then (bif (decide (0 ≤ a2)) && (decide (a2 < ((List.length a0 : Nat) : Int))) then (Option.bind (U76.f k ((List.getD a0 (Int.toNat a2) tBlockZ).1) a5) fun r1 => bif r1.1.1.1 then (some (((false, ()), ()), ())) else (Option.bind (U93.f k ((List.getD a0 (Int.toNat a2) tBlockZ).2.1) a5 a4) fun r2 => bif r2.1.1.1 then (some (((false, ()), ()), ())) else (Option.bind (U95.f k a3 ((List.getD a0 (Int.toNat a2) tBlockZ).2.2) a5) fun r3 => bif !r3.1.1.1 then (some (((false, ()), ()), ())) else (l0 a0 a1 (IntKind.wrap .i64 (a2 + 1)) a3 a4 a5)))) else none) else (some (((true, ()), ()), ()))
def all : Nat → (T0) × Unit
 | 0 => (fun _ _ _ _ _ _ => none, ())
 | k + 1 => (l0_ k (all k).1, ())
def l0 (k : Nat) : T0 := (all k).1
def f (k : Nat) (a0 : tFuncD) (a1 : Int) : Option R := bif decide (4 < ((List.length a0.1 : Nat) : Int)) then (some (((false, ()), ()), ())) else (Option.bind (U66.f k a0.2.1) fun r1 => bif !r1.1.1.1 then (some (((false, ()), ()), ())) else (Option.bind (U65.f k ((List.length a0.2.2.1 : Nat) : Int) 1 10) fun r2 => bif !r2.1.1.1 then (some (((false, ()), ()), ())) else (Option.bind (U69.f k a0.1) fun r3 => bif r3.1.1.1 then (some (((false, ()), ()), ())) else (Option.bind (U70.f k a0) fun r4 => bif decide (60 < r4.1.1.1) then (some (((false, ()), ()), ())) else (l0 k a0.2.2.1 ((List.length a0.2.2.1 : Nat) : Int) 0 a0 a1 r4.1.1.1)))))
abbrev S : ShapeParts := ⟨[⟨true, [.lst (.int .i64), .int .i64, .lst tBlock]⟩, ⟨false, [.int .i64]⟩], [], false, [⟨false, [.bool]⟩], [], []⟩
def s (k : Nat) : FS := S.fs fun x => f k x.1.1 x.1.2.1.1
def E (k : Nat) : Ents := [(⟨134, []⟩, U66.s k), (⟨41, []⟩, U65.s k), (⟨148, [149]⟩, U69.s k), (⟨111, []⟩, U70.s k), (⟨150, [151]⟩, U76.s k), (⟨91, [153]⟩, U93.s k), (⟨155, []⟩, U95.s k)]
def L0 (l : T0) : LS R := ⟨[], [(2, ⟨false, [.ptr 100000 0]⟩), (3, ⟨false, [.ptr 100001 0]⟩), (5, ⟨false, [.ptr 100002 0]⟩), (35, ⟨false, [.lst tBlock]⟩), (36, ⟨false, [.int .i64]⟩), (37, ⟨false, [.int .i64]⟩)], [(100000, .box [.lst (.int .i64), .int .i64, .lst tBlock]), (100001, .box [.int .i64]), (100002, .box [.int .i64])], fun x => l x.1.2.2.2.1.1 x.1.2.2.2.2.1.1 x.1.2.2.2.2.2.1.1 x.2.1 x.2.2.1.1 x.2.2.2.1.1⟩
def L (l0 : T0) : List (LS R) := [L0 l0]
def c : Code := Tryz.f87.body.getD .skip
theorem eq (k : Nat) (x) : (s k).pf x = execF tab (E k) Tryz.f87 c (s k) (L (l0 k)) x := by kernel_rfl
theorem r0 (l0 : T0) (k : Nat) (x) : (L0 (l0_ k l0)).l x = roundOf tab (E k) (L l0) c (fin tab Tryz.f87 (s k)) 0 (L0 l0) x := by kernel_rfl
theorem sound : ∀ k, Sound Tryz.prog 87 (s k) := snd S (fun k => (s k).pf) E (fun k => (EntsOK.cons (U66.sound k) (EntsOK.cons (U65.sound k) (EntsOK.cons (U69.sound k) (EntsOK.cons (U70.sound k) (EntsOK.cons (U76.sound k) (EntsOK.cons (U93.sound k) (EntsOK.cons (U95.sound k) EntsOK.nil)))))))) (fun k => L (l0 k)) (fun k => ⟨⟨(L0 (l0 (k + 1))).l, rfl, fun x => r0 (l0 k) k x⟩, trivial⟩) eq
end U96
namespace U97
abbrev R := (((Bool × Unit) × Unit) × Unit)
def f (k : Nat) (a0 : tFuncD) (a1 : Int) : Option R := Option.bind (U96.f k a0 a1) fun r1 => some (((!r1.1.1.1, ()), ()), ())
abbrev S : ShapeParts := ⟨[⟨true, [.lst (.int .i64), .int .i64, .lst tBlock]⟩, ⟨false, [.ptr 0 0]⟩], [(0, .cbox [.int .i64])], false, [⟨false, [.bool]⟩], [], []⟩
def s (k : Nat) : FS := S.fs fun x => f k x.1.1 x.2.1.1
def E (k : Nat) : Ents := [(⟨87, []⟩, U96.s k)]
def L : List (LS R) := []
def c : Code := Tryz.f86.body.getD .skip
theorem eq (k : Nat) (x) : (s k).pf x = execF tab (E k) Tryz.f86 c (s k) L x := by kernel_rfl
theorem sound : ∀ k, Sound Tryz.prog 86 (s k) := snd S (fun k => (s k).pf) E (fun k => (EntsOK.cons (U96.sound k) EntsOK.nil)) (fun k => L) (fun k => trivial) eq
end U97
namespace U98
abbrev R := (((Int × Unit) × Unit) × Unit)
abbrev T0 : Type := (List tFuncD) → Int → Int → Int → Option R
def l0_ (k : Nat) (l0 : T0) (a0 : List tFuncD) (a1 : Int) (a2 : Int) (a3 : Int) : Option R := bif decide (a2 < a1) then (bif (decide (0 ≤ a2)) && (decide (a2 < ((List.length a0 : Nat) : Int))) then (Option.bind (U97.f k (List.getD a0 (Int.toNat a2) tFuncZ) a3) fun r1 => bif r1.1.1.1 then (some (((a2, ()), ()), ())) else (l0 a0 a1 (IntKind.wrap .i64 (a2 + 1)) a3)) else none) else (some (((-1, ()), ()), ()))
def all : Nat → (T0) × Unit
 | 0 => (fun _ _ _ _ => none, ())
 | k + 1 => (l0_ k (all k).1, ())
def l0 (k : Nat) : T0 := (all k).1
def f (k : Nat) (a0 : List tFuncD) (a1 : Int) : Option R := l0 k a0 ((List.length a0 : Nat) : Int) 0 a1
abbrev S : ShapeParts := ⟨[⟨false, [.lst tFunc]⟩, ⟨false, [.fn 86 [(0, 0)]]⟩], [(0, .cbox [.int .i64])], false, [⟨false, [.int .i64]⟩], [], []⟩
def s (k : Nat) : FS := S.fs fun x => f k x.1.1.1 x.2.1.1
def E (k : Nat) : Ents := [(⟨86, []⟩, U97.s k)]
def L0 (l : T0) : LS R := ⟨[], [(0, ⟨false, [.lst tFunc]⟩), (1, ⟨false, [.fn 86 [(0, 0)]]⟩), (7, ⟨false, [.int .i64]⟩), (8, ⟨false, [.int .i64]⟩)], [(0, .cbox [.int .i64])], fun x => l x.1.1.1 x.1.2.2.1.1 x.1.2.2.2.1.1 x.2.1.1⟩
def L (l0 : T0) : List (LS R) := [L0 l0]
def c : Code := Tryz.f147.body.getD .skip
theorem eq (k : Nat) (x) : (s k).pf x = execF tab (E k) Tryz.f147 c (s k) (L (l0 k)) x := by kernel_rfl
theorem r0 (l0 : T0) (k : Nat) (x) : (L0 (l0_ k l0)).l x = roundOf tab (E k) (L l0) c (fin tab Tryz.f147 (s k)) 0 (L0 l0) x := by kernel_rfl
theorem sound : ∀ k, Sound Tryz.prog 147 (s k) := snd S (fun k => (s k).pf) E (fun k => (EntsOK.cons (U97.sound k) EntsOK.nil)) (fun k => L (l0 k)) (fun k => ⟨⟨(L0 (l0 (k + 1))).l, rfl, fun x => r0 (l0 k) k x⟩, trivial⟩) eq
end U98
namespace U99
abbrev R := (((Bool × Unit) × Unit) × Unit)
def f (k : Nat) (a0 : List tFuncD) (a1 : Int) : Option R := Option.bind (U98.f k a0 a1) fun r1 => some (((decide (0 ≤ r1.1.1.1), ()), ()), ())
abbrev S : ShapeParts := ⟨[⟨false, [.lst tFunc]⟩, ⟨false, [.fn 86 [(0, 0)]]⟩], [(0, .cbox [.int .i64])], false, [⟨false, [.bool]⟩], [], []⟩
def s (k : Nat) : FS := S.fs fun x => f k x.1.1.1 x.2.1.1
def E (k : Nat) : Ents := [(⟨147, [86]⟩, U98.s k)]
def L : List (LS R) := []
def c : Code := Tryz.f85.body.getD .skip
theorem eq (k : Nat) (x) : (s k).pf x = execF tab (E k) Tryz.f85 c (s k) L x := by kernel_rfl
theorem sound : ∀ k, Sound Tryz.prog 85 (s k) := snd S (fun k => (s k).pf) E (fun k => (EntsOK.cons (U98.sound k) EntsOK.nil)) (fun k => L) (fun k => trivial) eq
end U99
namespace U100
abbrev R := (((Bool × Unit) × Unit) × Unit)
def f (k : Nat) (a0 : tModuleD) : Option R := Option.bind (U65.f k ((List.length a0.1 : Nat) : Int) 1 3) fun r1 => bif r1.1.1.1 then (Option.bind (U99.f k a0.1 ((List.length a0.1 : Nat) : Int)) fun r2 => some (((!r2.1.1.1, ()), ()), ())) else (some (((false, ()), ()), ()))
abbrev S : ShapeParts := ⟨[⟨true, [.lst tFunc]⟩], [], false, [⟨false, [.bool]⟩], [], []⟩
def s (k : Nat) : FS := S.fs fun x => f k x.1.1
def E (k : Nat) : Ents := [(⟨41, []⟩, U65.s k), (⟨85, [86]⟩, U99.s k)]
def L : List (LS R) := []
def c : Code := Tryz.f40.body.getD .skip
theorem eq (k : Nat) (x) : (s k).pf x = execF tab (E k) Tryz.f40 c (s k) L x := by kernel_rfl
theorem sound : ∀ k, Sound Tryz.prog 40 (s k) := snd S (fun k => (s k).pf) E (fun k => (EntsOK.cons (U65.sound k) (EntsOK.cons (U99.sound k) EntsOK.nil))) (fun k => L) (fun k => trivial) eq
end U100
namespace U101
abbrev R := (((Unit × Unit) × Unit) × ((List Int) × Unit))
def f (k : Nat) (a0 : tTermD) : Option R := bif decide (a0.1 = 2) then (some ((((), ()), ()), ([a0.2.2.1], ()))) else (bif decide (a0.1 = 3) then (some ((((), ()), ()), ([a0.2.2.1, a0.2.2.2.1], ()))) else (some ((((), ()), ()), (([] : List Int), ()))))
abbrev S : ShapeParts := ⟨[⟨true, [.int .i64, .int .i64, .int .i64, .int .i64]⟩], [], false, [⟨false, [.own 100]⟩], [(100, .row true (.int .i64))], []⟩
def s (k : Nat) : FS := S.fs fun x => f k x.1.1
def E (k : Nat) : Ents := []
def L : List (LS R) := []
def c : Code := Tryz.f162.body.getD .skip
theorem eq (k : Nat) (x) : (s k).pf x = execF tab (E k) Tryz.f162 c (s k) L x := by kernel_rfl
theorem sound : ∀ k, Sound Tryz.prog 162 (s k) := snd S (fun k => (s k).pf) E (fun k => EntsOK.nil) (fun k => L) (fun k => trivial) eq
end U101
namespace U102
abbrev R := (((Int × Unit) × Unit) × Unit)
abbrev T0 : Type := (List Int) → Int → Int → Int → Option R
def l0_ (k : Nat) (l0 : T0) (a0 : List Int) (a1 : Int) (a2 : Int) (a3 : Int) : Option R := bif decide (a3 < a2) then (bif (decide (0 ≤ a3)) && (decide (a3 < ((List.length a0 : Nat) : Int))) then (bif decide (a1 = List.getD a0 (Int.toNat a3) 0) then (some (((a3, ()), ()), ())) else (l0 a0 a1 a2 (IntKind.wrap .i64 (a3 + 1)))) else none) else (some (((-1, ()), ()), ()))
def all : Nat → (T0) × Unit
 | 0 => (fun _ _ _ _ => none, ())
 | k + 1 => (l0_ k (all k).1, ())
def l0 (k : Nat) : T0 := (all k).1
def f (k : Nat) (a0 : List Int) (a1 : Int) : Option R := l0 k a0 a1 ((List.length a0 : Nat) : Int) 0
abbrev S : ShapeParts := ⟨[⟨false, [.lst (.int .i64)]⟩, ⟨false, [.int .i64]⟩], [], false, [⟨false, [.int .i64]⟩], [], []⟩
def s (k : Nat) : FS := S.fs fun x => f k x.1.1.1 x.1.2.1.1
def E (k : Nat) : Ents := []
def L0 (l : T0) : LS R := ⟨[], [(0, ⟨false, [.lst (.int .i64)]⟩), (1, ⟨false, [.int .i64]⟩), (7, ⟨false, [.int .i64]⟩), (8, ⟨false, [.int .i64]⟩)], [], fun x => l x.1.1.1 x.1.2.1.1 x.1.2.2.1.1 x.1.2.2.2.1.1⟩
def L (l0 : T0) : List (LS R) := [L0 l0]
def c : Code := Tryz.f204.body.getD .skip
theorem eq (k : Nat) (x) : (s k).pf x = execF tab (E k) Tryz.f204 c (s k) (L (l0 k)) x := by kernel_rfl
theorem r0 (l0 : T0) (k : Nat) (x) : (L0 (l0_ k l0)).l x = roundOf tab (E k) (L l0) c (fin tab Tryz.f204 (s k)) 0 (L0 l0) x := by kernel_rfl
theorem sound : ∀ k, Sound Tryz.prog 204 (s k) := snd S (fun k => (s k).pf) E (fun k => EntsOK.nil) (fun k => L (l0 k)) (fun k => ⟨⟨(L0 (l0 (k + 1))).l, rfl, fun x => r0 (l0 k) k x⟩, trivial⟩) eq
end U102
namespace U103
abbrev R := (((Bool × Unit) × Unit) × Unit)
def f (k : Nat) (a0 : List Int) (a1 : Int) : Option R := Option.bind (U102.f k a0 a1) fun r1 => some (((decide (0 ≤ r1.1.1.1), ()), ()), ())
abbrev S : ShapeParts := ⟨[⟨false, [.lst (.int .i64)]⟩, ⟨false, [.int .i64]⟩], [], false, [⟨false, [.bool]⟩], [], []⟩
def s (k : Nat) : FS := S.fs fun x => f k x.1.1.1 x.1.2.1.1
def E (k : Nat) : Ents := [(⟨204, []⟩, U102.s k)]
def L : List (LS R) := []
def c : Code := Tryz.f179.body.getD .skip
theorem eq (k : Nat) (x) : (s k).pf x = execF tab (E k) Tryz.f179 c (s k) L x := by kernel_rfl
theorem sound : ∀ k, Sound Tryz.prog 179 (s k) := snd S (fun k => (s k).pf) E (fun k => (EntsOK.cons (U102.sound k) EntsOK.nil)) (fun k => L) (fun k => trivial) eq
end U103
namespace U104
abbrev R := (((Unit × Unit) × Unit) × ((List Int) × Unit))
abbrev T0 : Type := Int → (List tBlockD) → Int → Int → (List Int) → Option R
def l0_ (k : Nat) (l0 : T0) (a0 : Int) (a1 : List tBlockD) (a2 : Int) (a3 : Int) (a4 : List Int) : Option R := bif decide (a3 < a2) then (bif (decide (0 ≤ a3)) && (decide (a3 < ((List.length a1 : Nat) : Int))) then (Option.bind (U101.f k ((List.getD a1 (Int.toNat a3) tBlockZ).2.2)) fun r1 => Option.bind (U103.f k r1.2.1 a0) fun r2 => bif r2.1.1.1 then (bif decide ((List.length a4 + List.length [a3]) * 8 ≤ 140737488355328) then (l0 a0 a1 a2 (IntKind.wrap .i64 (a3 + 1)) (a4 ++ [a3])) else none) else (l0 a0 a1 a2 (IntKind.wrap .i64 (a3 + 1)) a4)) else none) else (some ((((), ()), ()), (a4, ())))
def all : Nat → (T0) × Unit
 | 0 => (fun _ _ _ _ _ => none, ())
 | k + 1 => (l0_ k (all k).1, ())
def l0 (k : Nat) : T0 := (all k).1
def f (k : Nat) (a0 : tFuncD) (a1 : Int) : Option R := l0 k a1 a0.2.2.1 ((List.length a0.2.2.1 : Nat) : Int) 0 ([] : List Int)
abbrev S : ShapeParts := ⟨[⟨true, [.lst (.int .i64), .int .i64, .lst tBlock]⟩, ⟨false, [.int .i64]⟩], [], false, [⟨false, [.own 100]⟩], [(100, .row true (.int .i64))], []⟩
def s (k : Nat) : FS := S.fs fun x => f k x.1.1 x.1.2.1.1
def E (k : Nat) : Ents := [(⟨162, []⟩, U101.s k), (⟨179, []⟩, U103.s k)]
def L0 (l : T0) : LS R := ⟨[], [(1, ⟨false, [.int .i64]⟩), (5, ⟨false, [.own 100000]⟩), (10, ⟨false, [.lst tBlock]⟩), (11, ⟨false, [.int .i64]⟩), (12, ⟨false, [.int .i64]⟩)], [(100000, .row true (.int .i64))], fun x => l x.1.1.1 x.1.2.2.1.1 x.1.2.2.2.1.1 x.1.2.2.2.2.1.1 x.2.1⟩
def L (l0 : T0) : List (LS R) := [L0 l0]
def c : Code := Tryz.f156.body.getD .skip
theorem eq (k : Nat) (x) : (s k).pf x = execF tab (E k) Tryz.f156 c (s k) (L (l0 k)) x := by kernel_rfl
theorem r0 (l0 : T0) (k : Nat) (x) : (L0 (l0_ k l0)).l x = roundOf tab (E k) (L l0) c (fin tab Tryz.f156 (s k)) 0 (L0 l0) x := by kernel_rfl
theorem sound : ∀ k, Sound Tryz.prog 156 (s k) := snd S (fun k => (s k).pf) E (fun k => (EntsOK.cons (U101.sound k) (EntsOK.cons (U103.sound k) EntsOK.nil))) (fun k => L (l0 k)) (fun k => ⟨⟨(L0 (l0 (k + 1))).l, rfl, fun x => r0 (l0 k) k x⟩, trivial⟩) eq
end U104
namespace U105
abbrev R := (((Bool × Unit) × Unit) × Unit)
def f (k : Nat) (a0 : tFuncD) : Option R := bif (decide (0 ≤ 0)) && (decide (0 < ((List.length a0.2.2.1 : Nat) : Int))) then (bif decide (((List.length ((List.getD a0.2.2.1 0 tBlockZ).1) : Nat) : Int) = 0) then (Option.bind (U104.f k a0 0) fun r1 => some (((decide (((List.length r1.2.1 : Nat) : Int) = 0), ()), ()), ())) else (some (((false, ()), ()), ()))) else none
abbrev S : ShapeParts := ⟨[⟨true, [.lst (.int .i64), .int .i64, .lst tBlock]⟩], [], false, [⟨false, [.bool]⟩], [], []⟩
def s (k : Nat) : FS := S.fs fun x => f k x.1.1
def E (k : Nat) : Ents := [(⟨156, []⟩, U104.s k)]
def L : List (LS R) := []
def c : Code := Tryz.f88.body.getD .skip
theorem eq (k : Nat) (x) : (s k).pf x = execF tab (E k) Tryz.f88 c (s k) L x := by kernel_rfl
theorem sound : ∀ k, Sound Tryz.prog 88 (s k) := snd S (fun k => (s k).pf) E (fun k => (EntsOK.cons (U104.sound k) EntsOK.nil)) (fun k => L) (fun k => trivial) eq
end U105
namespace U106
abbrev R := (((Bool × Unit) × Unit) × Unit)
def f (k : Nat) (a0 : tPhiD) (a1 : Int) : Option R := some (((!decide (((List.length a0.2.1 : Nat) : Int) = a1), ()), ()), ())
abbrev S : ShapeParts := ⟨[⟨true, [.int .i64, .lst (.int .i64)]⟩, ⟨false, [.ptr 0 0]⟩], [(0, .cbox [.int .i64])], false, [⟨false, [.bool]⟩], [], []⟩
def s (k : Nat) : FS := S.fs fun x => f k x.1.1 x.2.1.1
def E (k : Nat) : Ents := []
def L : List (LS R) := []
def c : Code := Tryz.f157.body.getD .skip
theorem eq (k : Nat) (x) : (s k).pf x = execF tab (E k) Tryz.f157 c (s k) L x := by kernel_rfl
theorem sound : ∀ k, Sound Tryz.prog 157 (s k) := snd S (fun k => (s k).pf) E (fun k => EntsOK.nil) (fun k => L) (fun k => trivial) eq
end U106
namespace U107
abbrev R := (((Int × Unit) × Unit) × Unit)
abbrev T0 : Type := (List tPhiD) → Int → Int → Int → Option R
def l0_ (k : Nat) (l0 : T0) (a0 : List tPhiD) (a1 : Int) (a2 : Int) (a3 : Int) : Option R := bif decide (a2 < a1) then (bif (decide (0 ≤ a2)) && (decide (a2 < ((List.length a0 : Nat) : Int))) then (Option.bind (U106.f k (List.getD a0 (Int.toNat a2) tPhiZ) a3) fun r1 => bif r1.1.1.1 then (some (((a2, ()), ()), ())) else (l0 a0 a1 (IntKind.wrap .i64 (a2 + 1)) a3)) else none) else (some (((-1, ()), ()), ()))
def all : Nat → (T0) × Unit
 | 0 => (fun _ _ _ _ => none, ())
 | k + 1 => (l0_ k (all k).1, ())
def l0 (k : Nat) : T0 := (all k).1
def f (k : Nat) (a0 : List tPhiD) (a1 : Int) : Option R := l0 k a0 ((List.length a0 : Nat) : Int) 0 a1
abbrev S : ShapeParts := ⟨[⟨false, [.lst tPhi]⟩, ⟨false, [.fn 157 [(0, 0)]]⟩], [(0, .cbox [.int .i64])], false, [⟨false, [.int .i64]⟩], [], []⟩
def s (k : Nat) : FS := S.fs fun x => f k x.1.1.1 x.2.1.1
def E (k : Nat) : Ents := [(⟨157, []⟩, U106.s k)]
def L0 (l : T0) : LS R := ⟨[], [(0, ⟨false, [.lst tPhi]⟩), (1, ⟨false, [.fn 157 [(0, 0)]]⟩), (7, ⟨false, [.int .i64]⟩), (8, ⟨false, [.int .i64]⟩)], [(0, .cbox [.int .i64])], fun x => l x.1.1.1 x.1.2.2.1.1 x.1.2.2.2.1.1 x.2.1.1⟩
def L (l0 : T0) : List (LS R) := [L0 l0]
def c : Code := Tryz.f184.body.getD .skip
theorem eq (k : Nat) (x) : (s k).pf x = execF tab (E k) Tryz.f184 c (s k) (L (l0 k)) x := by kernel_rfl
theorem r0 (l0 : T0) (k : Nat) (x) : (L0 (l0_ k l0)).l x = roundOf tab (E k) (L l0) c (fin tab Tryz.f184 (s k)) 0 (L0 l0) x := by kernel_rfl
theorem sound : ∀ k, Sound Tryz.prog 184 (s k) := snd S (fun k => (s k).pf) E (fun k => (EntsOK.cons (U106.sound k) EntsOK.nil)) (fun k => L (l0 k)) (fun k => ⟨⟨(L0 (l0 (k + 1))).l, rfl, fun x => r0 (l0 k) k x⟩, trivial⟩) eq
end U107
namespace U108
abbrev R := (((Bool × Unit) × Unit) × Unit)
def f (k : Nat) (a0 : List tPhiD) (a1 : Int) : Option R := Option.bind (U107.f k a0 a1) fun r1 => some (((decide (0 ≤ r1.1.1.1), ()), ()), ())
abbrev S : ShapeParts := ⟨[⟨false, [.lst tPhi]⟩, ⟨false, [.fn 157 [(0, 0)]]⟩], [(0, .cbox [.int .i64])], false, [⟨false, [.bool]⟩], [], []⟩
def s (k : Nat) : FS := S.fs fun x => f k x.1.1.1 x.2.1.1
def E (k : Nat) : Ents := [(⟨184, [157]⟩, U107.s k)]
def L : List (LS R) := []
def c : Code := Tryz.f150.body.getD .skip
theorem eq (k : Nat) (x) : (s k).pf x = execF tab (E k) Tryz.f150 c (s k) L x := by kernel_rfl
theorem sound : ∀ k, Sound Tryz.prog 150 (s k) := snd S (fun k => (s k).pf) E (fun k => (EntsOK.cons (U107.sound k) EntsOK.nil)) (fun k => L) (fun k => trivial) eq
end U108
namespace U109
abbrev R := (((Bool × Unit) × Unit) × Unit)
abbrev T0 : Type := (List tBlockD) → Int → Int → tFuncD → Option R
def l0_ (k : Nat) (l0 : T0) (a0 : List tBlockD) (a1 : Int) (a2 : Int) (a3 : tFuncD) : Option R := bif decide (a2 < a1) then (bif (decide (0 ≤ a2)) && (decide (a2 < ((List.length a0 : Nat) : Int))) then (Option.bind (U104.f k a3 a2) fun r1 => Option.bind (U108.f k ((List.getD a0 (Int.toNat a2) tBlockZ).1) ((List.length r1.2.1 : Nat) : Int)) fun r2 => bif r2.1.1.1 then (some (((false, ()), ()), ())) else (l0 a0 a1 (IntKind.wrap .i64 (a2 + 1)) a3)) else none) else (some (((true, ()), ()), ()))
def all : Nat → (T0) × Unit
 | 0 => (fun _ _ _ _ => none, ())
 | k + 1 => (l0_ k (all k).1, ())
def l0 (k : Nat) : T0 := (all k).1
def f (k : Nat) (a0 : tFuncD) : Option R := l0 k a0.2.2.1 ((List.length a0.2.2.1 : Nat) : Int) 0 a0
abbrev S : ShapeParts := ⟨[⟨true, [.lst (.int .i64), .int .i64, .lst tBlock]⟩], [], false, [⟨false, [.bool]⟩], [], []⟩
def s (k : Nat) : FS := S.fs fun x => f k x.1.1
def E (k : Nat) : Ents := [(⟨156, []⟩, U104.s k), (⟨150, [157]⟩, U108.s k)]
def L0 (l : T0) : LS R := ⟨[], [(1, ⟨false, [.ptr 100000 0]⟩), (7, ⟨false, [.lst tBlock]⟩), (8, ⟨false, [.int .i64]⟩), (9, ⟨false, [.int .i64]⟩)], [(100000, .box [.lst (.int .i64), .int .i64, .lst tBlock])], fun x => l x.1.2.1.1 x.1.2.2.1.1 x.1.2.2.2.1.1 x.2.1⟩
def L (l0 : T0) : List (LS R) := [L0 l0]
def c : Code := Tryz.f89.body.getD .skip
theorem eq (k : Nat) (x) : (s k).pf x = execF tab (E k) Tryz.f89 c (s k) (L (l0 k)) x := by kernel_rfl
theorem r0 (l0 : T0) (k : Nat) (x) : (L0 (l0_ k l0)).l x = roundOf tab (E k) (L l0) c (fin tab Tryz.f89 (s k)) 0 (L0 l0) x := by kernel_rfl
theorem sound : ∀ k, Sound Tryz.prog 89 (s k) := snd S (fun k => (s k).pf) E (fun k => (EntsOK.cons (U104.sound k) (EntsOK.cons (U108.sound k) EntsOK.nil))) (fun k => L (l0 k)) (fun k => ⟨⟨(L0 (l0 (k + 1))).l, rfl, fun x => r0 (l0 k) k x⟩, trivial⟩) eq
end U109
namespace U110
abbrev R := (((Bool × Unit) × Unit) × Unit)
def f (k : Nat) (a0 : tFuncD) (a1 : Int) : Option R := Option.bind (U70.f k a0) fun r1 => Option.bind (U65.f k a1 0 (IntKind.wrap .i64 (r1.1.1.1 - 1))) fun r2 => some (((r2.1.1.1, ()), ()), ())
abbrev S : ShapeParts := ⟨[⟨true, [.lst (.int .i64), .int .i64, .lst tBlock]⟩, ⟨false, [.int .i64]⟩], [], false, [⟨false, [.bool]⟩], [], []⟩
def s (k : Nat) : FS := S.fs fun x => f k x.1.1 x.1.2.1.1
def E (k : Nat) : Ents := [(⟨111, []⟩, U70.s k), (⟨41, []⟩, U65.s k)]
def L : List (LS R) := []
def c : Code := Tryz.f180.body.getD .skip
theorem eq (k : Nat) (x) : (s k).pf x = execF tab (E k) Tryz.f180 c (s k) L x := by kernel_rfl
theorem sound : ∀ k, Sound Tryz.prog 180 (s k) := snd S (fun k => (s k).pf) E (fun k => (EntsOK.cons (U70.sound k) (EntsOK.cons (U65.sound k) EntsOK.nil))) (fun k => L) (fun k => trivial) eq
end U110
namespace U111
abbrev R := (((Int × Unit) × (Int × Unit) × Unit) × Unit)
abbrev T0 : Type := Int → Int → (List tBlockD) → Int → Int → Option R
def l0_ (k : Nat) (l0 : T0) (a0 : Int) (a1 : Int) (a2 : List tBlockD) (a3 : Int) (a4 : Int) : Option R := bif decide (a4 < a3) then (bif (decide (0 ≤ a4)) && (decide (a4 < ((List.length a2 : Nat) : Int))) then (bif decide (a0 < IntKind.wrap .i64 (a1 + (IntKind.wrap .i64 (((List.length ((List.getD a2 (Int.toNat a4) tBlockZ).1) : Nat) : Int) + ((List.length ((List.getD a2 (Int.toNat a4) tBlockZ).2.1) : Nat) : Int))))) then (some (((a4, ()), (IntKind.wrap .i64 (a0 - a1), ()), ()), ())) else (l0 a0 (IntKind.wrap .i64 (a1 + (IntKind.wrap .i64 (((List.length ((List.getD a2 (Int.toNat a4) tBlockZ).1) : Nat) : Int) + ((List.length ((List.getD a2 (Int.toNat a4) tBlockZ).2.1) : Nat) : Int))))) a2 a3 (IntKind.wrap .i64 (a4 + 1)))) else none) else (some (((-2, ()), (0, ()), ()), ()))
def all : Nat → (T0) × Unit
 | 0 => (fun _ _ _ _ _ => none, ())
 | k + 1 => (l0_ k (all k).1, ())
def l0 (k : Nat) : T0 := (all k).1
def f (k : Nat) (a0 : tFuncD) (a1 : Int) : Option R := Option.bind (U110.f k a0 a1) fun r1 => bif !r1.1.1.1 then (some (((-2, ()), (0, ()), ()), ())) else (bif decide (a1 < ((List.length a0.1 : Nat) : Int)) then (some (((-1, ()), (a1, ()), ()), ())) else (l0 k a1 ((List.length a0.1 : Nat) : Int) a0.2.2.1 ((List.length a0.2.2.1 : Nat) : Int) 0))
abbrev S : ShapeParts := ⟨[⟨true, [.lst (.int .i64), .int .i64, .lst tBlock]⟩, ⟨false, [.int .i64]⟩], [], true, [⟨false, [.int .i64]⟩, ⟨false, [.int .i64]⟩], [], []⟩
def s (k : Nat) : FS := S.fs fun x => f k x.1.1 x.1.2.1.1
def E (k : Nat) : Ents := [(⟨180, []⟩, U110.s k)]
def L0 (l : T0) : LS R := ⟨[], [(1, ⟨false, [.int .i64]⟩), (6, ⟨false, [.int .i64]⟩), (22, ⟨false, [.lst tBlock]⟩), (23, ⟨false, [.int .i64]⟩), (24, ⟨false, [.int .i64]⟩)], [], fun x => l x.1.1.1 x.1.2.1.1 x.1.2.2.1.1 x.1.2.2.2.1.1 x.1.2.2.2.2.1.1⟩
def L (l0 : T0) : List (LS R) := [L0 l0]
def c : Code := Tryz.f137.body.getD .skip
theorem eq (k : Nat) (x) : (s k).pf x = execF tab (E k) Tryz.f137 c (s k) (L (l0 k)) x := by kernel_rfl
theorem r0 (l0 : T0) (k : Nat) (x) : (L0 (l0_ k l0)).l x = roundOf tab (E k) (L l0) c (fin tab Tryz.f137 (s k)) 0 (L0 l0) x := by kernel_rfl
theorem sound : ∀ k, Sound Tryz.prog 137 (s k) := snd S (fun k => (s k).pf) E (fun k => (EntsOK.cons (U110.sound k) EntsOK.nil)) (fun k => L (l0 k)) (fun k => ⟨⟨(L0 (l0 (k + 1))).l, rfl, fun x => r0 (l0 k) k x⟩, trivial⟩) eq
end U111
namespace U112
abbrev R := (((Int × Int × Int × Int × Int × Int × (List Int) × Unit) × (Bool × Unit) × Unit) × Unit)
def f (k : Nat) (a0 : tFuncD) (a1 : Int) : Option R := Option.bind (U111.f k a0 a1) fun r1 => bif decide (r1.1.1.1 < 0) then (some (((0, 0, 0, 0, 0, 0, ([] : List Int), ()), (false, ()), ()), ())) else (bif (decide (0 ≤ r1.1.1.1)) && (decide (r1.1.1.1 < ((List.length a0.2.2.1 : Nat) : Int))) then (bif decide (r1.1.2.1.1 < ((List.length ((List.getD a0.2.2.1 (Int.toNat r1.1.1.1) tBlockZ).1) : Nat) : Int)) then (some (((0, 0, 0, 0, 0, 0, ([] : List Int), ()), (false, ()), ()), ())) else (bif (decide (0 ≤ r1.1.1.1)) && (decide (r1.1.1.1 < ((List.length a0.2.2.1 : Nat) : Int))) then (bif (decide (0 ≤ r1.1.1.1)) && (decide (r1.1.1.1 < ((List.length a0.2.2.1 : Nat) : Int))) then (bif (decide (0 ≤ IntKind.wrap .i64 (r1.1.2.1.1 - ((List.length ((List.getD a0.2.2.1 (Int.toNat r1.1.1.1) tBlockZ).1) : Nat) : Int)))) && (decide (IntKind.wrap .i64 (r1.1.2.1.1 - ((List.length ((List.getD a0.2.2.1 (Int.toNat r1.1.1.1) tBlockZ).1) : Nat) : Int)) < ((List.length ((List.getD a0.2.2.1 (Int.toNat r1.1.1.1) tBlockZ).2.1) : Nat) : Int))) then (some (((List.getD ((List.getD a0.2.2.1 (Int.toNat r1.1.1.1) tBlockZ).2.1) (Int.toNat (IntKind.wrap .i64 (r1.1.2.1.1 - ((List.length ((List.getD a0.2.2.1 (Int.toNat r1.1.1.1) tBlockZ).1) : Nat) : Int)))) tInstZ), (true, ()), ()), ())) else none) else none) else none)) else none)
abbrev S : ShapeParts := ⟨[⟨true, [.lst (.int .i64), .int .i64, .lst tBlock]⟩, ⟨false, [.int .i64]⟩], [], true, [⟨true, [.int .i64, .int .i64, .int .i64, .int .i64, .int .i64, .int .i64, .lst (.int .i64)]⟩, ⟨false, [.bool]⟩], [], []⟩
def s (k : Nat) : FS := S.fs fun x => f k x.1.1 x.1.2.1.1
def E (k : Nat) : Ents := [(⟨137, []⟩, U111.s k)]
def L : List (LS R) := []
def c : Code := Tryz.f102.body.getD .skip
theorem eq (k : Nat) (x) : (s k).pf x = execF tab (E k) Tryz.f102 c (s k) L x := by kernel_rfl
theorem sound : ∀ k, Sound Tryz.prog 102 (s k) := snd S (fun k => (s k).pf) E (fun k => (EntsOK.cons (U111.sound k) EntsOK.nil)) (fun k => L) (fun k => trivial) eq
end U112
namespace U113
abbrev R := (((Int × Unit) × Unit) × Unit)
def f (k : Nat) (a0 : Int) (a1 : Int) : Option R := Option.bind (U77.f k a0) fun r1 => bif !r1.1.1.1 then (some (((0, ()), ()), ())) else (Option.bind (U66.f k a1) fun r2 => bif !r2.1.1.1 then (some (((0, ()), ()), ())) else (bif decide (14 ≤ a0) then (some (((1, ()), ()), ())) else (some (((a1, ()), ()), ()))))
abbrev S : ShapeParts := ⟨[⟨false, [.int .i64]⟩, ⟨false, [.int .i64]⟩], [], false, [⟨false, [.int .i64]⟩], [], []⟩
def s (k : Nat) : FS := S.fs fun x => f k x.1.1.1 x.1.2.1.1
def E (k : Nat) : Ents := [(⟨71, []⟩, U77.s k), (⟨134, []⟩, U66.s k)]
def L : List (LS R) := []
def c : Code := Tryz.f181.body.getD .skip
theorem eq (k : Nat) (x) : (s k).pf x = execF tab (E k) Tryz.f181 c (s k) L x := by kernel_rfl
theorem sound : ∀ k, Sound Tryz.prog 181 (s k) := snd S (fun k => (s k).pf) E (fun k => (EntsOK.cons (U77.sound k) (EntsOK.cons (U66.sound k) EntsOK.nil))) (fun k => L) (fun k => trivial) eq
end U113
namespace U114
abbrev R := (((Int × Unit) × Unit) × Unit)
def f (k : Nat) (a0 : tInstD) : Option R := Option.bind (U77.f k a0.1) fun r1 => bif r1.1.1.1 then (Option.bind (U113.f k a0.1 a0.2.1) fun r2 => some (((r2.1.1.1, ()), ()), ())) else (bif decide (a0.1 = 24) then (some (((0, ()), ()), ())) else (bif decide (a0.1 = 25) then (some (((0, ()), ()), ())) else (some (((a0.2.1, ()), ()), ()))))
abbrev S : ShapeParts := ⟨[⟨true, [.int .i64, .int .i64, .int .i64, .int .i64, .int .i64, .int .i64, .lst (.int .i64)]⟩], [], false, [⟨false, [.int .i64]⟩], [], []⟩
def s (k : Nat) : FS := S.fs fun x => f k x.1.1
def E (k : Nat) : Ents := [(⟨71, []⟩, U77.s k), (⟨181, []⟩, U113.s k)]
def L : List (LS R) := []
def c : Code := Tryz.f138.body.getD .skip
theorem eq (k : Nat) (x) : (s k).pf x = execF tab (E k) Tryz.f138 c (s k) L x := by kernel_rfl
theorem sound : ∀ k, Sound Tryz.prog 138 (s k) := snd S (fun k => (s k).pf) E (fun k => (EntsOK.cons (U77.sound k) (EntsOK.cons (U113.sound k) EntsOK.nil))) (fun k => L) (fun k => trivial) eq
end U114
namespace U115
abbrev R := (((Int × Unit) × Unit) × Unit)
def f (k : Nat) (a0 : tFuncD) (a1 : Int) : Option R := Option.bind (U111.f k a0 a1) fun r1 => bif decide (r1.1.1.1 = -2) then (some (((-1, ()), ()), ())) else (bif decide (r1.1.1.1 = -1) then (bif (decide (0 ≤ r1.1.2.1.1)) && (decide (r1.1.2.1.1 < ((List.length a0.1 : Nat) : Int))) then (some (((List.getD a0.1 (Int.toNat r1.1.2.1.1) 0, ()), ()), ())) else none) else (bif (decide (0 ≤ r1.1.1.1)) && (decide (r1.1.1.1 < ((List.length a0.2.2.1 : Nat) : Int))) then (bif decide (r1.1.2.1.1 < ((List.length ((List.getD a0.2.2.1 (Int.toNat r1.1.1.1) tBlockZ).1) : Nat) : Int)) then (bif (decide (0 ≤ r1.1.1.1)) && (decide (r1.1.1.1 < ((List.length a0.2.2.1 : Nat) : Int))) then (bif (decide (0 ≤ r1.1.2.1.1)) && (decide (r1.1.2.1.1 < ((List.length ((List.getD a0.2.2.1 (Int.toNat r1.1.1.1) tBlockZ).1) : Nat) : Int))) then (some ((((List.getD ((List.getD a0.2.2.1 (Int.toNat r1.1.1.1) tBlockZ).1) (Int.toNat r1.1.2.1.1) tPhiZ).1, ()), ()), ())) else none) else none) else (Option.bind (U112.f k a0 a1) fun r2 => Option.bind (U114.f k r2.1.1) fun r3 => some (((r3.1.1.1, ()), ()), ()))) else none))
abbrev S : ShapeParts := ⟨[⟨true, [.lst (.int .i64), .int .i64, .lst tBlock]⟩, ⟨false, [.int .i64]⟩], [], false, [⟨false, [.int .i64]⟩], [], []⟩
def s (k : Nat) : FS := S.fs fun x => f k x.1.1 x.1.2.1.1
def E (k : Nat) : Ents := [(⟨137, []⟩, U111.s k), (⟨102, []⟩, U112.s k), (⟨138, []⟩, U114.s k)]
def L : List (LS R) := []
def c : Code := Tryz.f75.body.getD .skip
theorem eq (k : Nat) (x) : (s k).pf x = execF tab (E k) Tryz.f75 c (s k) L x := by kernel_rfl
theorem sound : ∀ k, Sound Tryz.prog 75 (s k) := snd S (fun k => (s k).pf) E (fun k => (EntsOK.cons (U111.sound k) (EntsOK.cons (U112.sound k) (EntsOK.cons (U114.sound k) EntsOK.nil)))) (fun k => L) (fun k => trivial) eq
end U115
namespace U116
abbrev R := (((Bool × Unit) × Unit) × Unit)
def f (k : Nat) (a0 : Int) (a1 : tFuncD) (a2 : tPhiD) : Option R := Option.bind (U115.f k a1 a0) fun r1 => some (((!decide (r1.1.1.1 = a2.1), ()), ()), ())
abbrev S : ShapeParts := ⟨[⟨false, [.int .i64]⟩, ⟨false, [.ptr 0 0]⟩, ⟨false, [.ptr 1 0]⟩], [(0, .cbox [.lst (.int .i64), .int .i64, .lst tBlock]), (1, .cbox [.int .i64, .lst (.int .i64)])], false, [⟨false, [.bool]⟩], [], []⟩
def s (k : Nat) : FS := S.fs fun x => f k x.1.1.1 x.2.1 x.2.2.1
def E (k : Nat) : Ents := [(⟨75, []⟩, U115.s k)]
def L : List (LS R) := []
def c : Code := Tryz.f158.body.getD .skip
theorem eq (k : Nat) (x) : (s k).pf x = execF tab (E k) Tryz.f158 c (s k) L x := by kernel_rfl
theorem sound : ∀ k, Sound Tryz.prog 158 (s k) := snd S (fun k => (s k).pf) E (fun k => (EntsOK.cons (U115.sound k) EntsOK.nil)) (fun k => L) (fun k => trivial) eq
end U116
namespace U117
abbrev R := (((Int × Unit) × Unit) × Unit)
abbrev T0 : Type := (List Int) → Int → Int → tFuncD → tPhiD → Option R
def l0_ (k : Nat) (l0 : T0) (a0 : List Int) (a1 : Int) (a2 : Int) (a3 : tFuncD) (a4 : tPhiD) : Option R := bif decide (a2 < a1) then (bif (decide (0 ≤ a2)) && (decide (a2 < ((List.length a0 : Nat) : Int))) then (Option.bind (U116.f k (List.getD a0 (Int.toNat a2) 0) a3 a4) fun r1 => bif r1.1.1.1 then (some (((a2, ()), ()), ())) else (l0 a0 a1 (IntKind.wrap .i64 (a2 + 1)) a3 a4)) else none) else (some (((-1, ()), ()), ()))
def all : Nat → (T0) × Unit
 | 0 => (fun _ _ _ _ _ => none, ())
 | k + 1 => (l0_ k (all k).1, ())
def l0 (k : Nat) : T0 := (all k).1
def f (k : Nat) (a0 : List Int) (a1 : tFuncD) (a2 : tPhiD) : Option R := l0 k a0 ((List.length a0 : Nat) : Int) 0 a1 a2
abbrev S : ShapeParts := ⟨[⟨false, [.lst (.int .i64)]⟩, ⟨false, [.fn 158 [(0, 0), (1, 0)]]⟩], [(0, .cbox [.lst (.int .i64), .int .i64, .lst tBlock]), (1, .cbox [.int .i64, .lst (.int .i64)])], false, [⟨false, [.int .i64]⟩], [], []⟩
def s (k : Nat) : FS := S.fs fun x => f k x.1.1.1 x.2.1 x.2.2.1
def E (k : Nat) : Ents := [(⟨158, []⟩, U116.s k)]
def L0 (l : T0) : LS R := ⟨[], [(0, ⟨false, [.lst (.int .i64)]⟩), (1, ⟨false, [.fn 158 [(0, 0), (1, 0)]]⟩), (7, ⟨false, [.int .i64]⟩), (8, ⟨false, [.int .i64]⟩)], [(0, .cbox [.lst (.int .i64), .int .i64, .lst tBlock]), (1, .cbox [.int .i64, .lst (.int .i64)])], fun x => l x.1.1.1 x.1.2.2.1.1 x.1.2.2.2.1.1 x.2.1 x.2.2.1⟩
def L (l0 : T0) : List (LS R) := [L0 l0]
def c : Code := Tryz.f183.body.getD .skip
theorem eq (k : Nat) (x) : (s k).pf x = execF tab (E k) Tryz.f183 c (s k) (L (l0 k)) x := by kernel_rfl
theorem r0 (l0 : T0) (k : Nat) (x) : (L0 (l0_ k l0)).l x = roundOf tab (E k) (L l0) c (fin tab Tryz.f183 (s k)) 0 (L0 l0) x := by kernel_rfl
theorem sound : ∀ k, Sound Tryz.prog 183 (s k) := snd S (fun k => (s k).pf) E (fun k => (EntsOK.cons (U116.sound k) EntsOK.nil)) (fun k => L (l0 k)) (fun k => ⟨⟨(L0 (l0 (k + 1))).l, rfl, fun x => r0 (l0 k) k x⟩, trivial⟩) eq
end U117
namespace U118
abbrev R := (((Bool × Unit) × Unit) × Unit)
def f (k : Nat) (a0 : List Int) (a1 : tFuncD) (a2 : tPhiD) : Option R := Option.bind (U117.f k a0 a1 a2) fun r1 => some (((decide (0 ≤ r1.1.1.1), ()), ()), ())
abbrev S : ShapeParts := ⟨[⟨false, [.lst (.int .i64)]⟩, ⟨false, [.fn 158 [(0, 0), (1, 0)]]⟩], [(0, .cbox [.lst (.int .i64), .int .i64, .lst tBlock]), (1, .cbox [.int .i64, .lst (.int .i64)])], false, [⟨false, [.bool]⟩], [], []⟩
def s (k : Nat) : FS := S.fs fun x => f k x.1.1.1 x.2.1 x.2.2.1
def E (k : Nat) : Ents := [(⟨183, [158]⟩, U117.s k)]
def L : List (LS R) := []
def c : Code := Tryz.f148.body.getD .skip
theorem eq (k : Nat) (x) : (s k).pf x = execF tab (E k) Tryz.f148 c (s k) L x := by kernel_rfl
theorem sound : ∀ k, Sound Tryz.prog 148 (s k) := snd S (fun k => (s k).pf) E (fun k => (EntsOK.cons (U117.sound k) EntsOK.nil)) (fun k => L) (fun k => trivial) eq
end U118
namespace U119
abbrev R := (((Bool × Unit) × Unit) × Unit)
def f (k : Nat) (a0 : Int) (a1 : Int) (a2 : tFuncD) : Option R := Option.bind (U115.f k a2 a0) fun r1 => some (((decide (r1.1.1.1 = a1), ()), ()), ())
abbrev S : ShapeParts := ⟨[⟨false, [.int .i64]⟩, ⟨false, [.int .i64]⟩, ⟨false, [.ptr 0 0]⟩], [(0, .cbox [.lst (.int .i64), .int .i64, .lst tBlock])], false, [⟨false, [.bool]⟩], [], []⟩
def s (k : Nat) : FS := S.fs fun x => f k x.1.1.1 x.1.2.1.1 x.2.1
def E (k : Nat) : Ents := [(⟨75, []⟩, U115.s k)]
def L : List (LS R) := []
def c : Code := Tryz.f190.body.getD .skip
theorem eq (k : Nat) (x) : (s k).pf x = execF tab (E k) Tryz.f190 c (s k) L x := by kernel_rfl
theorem sound : ∀ k, Sound Tryz.prog 190 (s k) := snd S (fun k => (s k).pf) E (fun k => (EntsOK.cons (U115.sound k) EntsOK.nil)) (fun k => L) (fun k => trivial) eq
end U119
namespace U120
abbrev R := (((Bool × Unit) × Unit) × Unit)
def f (k : Nat) (a0 : tFuncD) (a1 : tInstD) : Option R := Option.bind (U115.f k a0 a1.2.2.1) fun r1 => Option.bind (U77.f k a1.1) fun r2 => bif r2.1.1.1 then (Option.bind (U119.f k a1.2.2.1 a1.2.1 a0) fun r3 => bif r3.1.1.1 then (Option.bind (U119.f k a1.2.2.2.1 a1.2.1 a0) fun r4 => some (((r4.1.1.1, ()), ()), ())) else (some (((false, ()), ()), ()))) else (bif decide (a1.1 = 27) then (Option.bind (U119.f k a1.2.2.1 a1.2.1 a0) fun r5 => some (((r5.1.1.1, ()), ()), ())) else (bif decide (a1.1 = 18) then (bif !decide (r1.1.1.1 = 0) then (some (((decide (r1.1.1.1 < a1.2.1), ()), ()), ())) else (some (((false, ()), ()), ()))) else (bif decide (a1.1 = 19) then (bif !decide (r1.1.1.1 = 0) then (some (((decide (r1.1.1.1 < a1.2.1), ()), ()), ())) else (some (((false, ()), ()), ()))) else (bif decide (a1.1 = 20) then (some (((decide (a1.2.1 < r1.1.1.1), ()), ()), ())) else (bif decide (a1.1 = 22) then (Option.bind (U119.f k a1.2.2.1 1 a0) fun r6 => bif r6.1.1.1 then (Option.bind (U119.f k a1.2.2.2.1 a1.2.1 a0) fun r7 => bif r7.1.1.1 then (Option.bind (U119.f k a1.2.2.2.2.1 a1.2.1 a0) fun r8 => some (((r8.1.1.1, ()), ()), ())) else (some (((false, ()), ()), ()))) else (some (((false, ()), ()), ()))) else (bif decide (a1.1 = 23) then (Option.bind (U119.f k a1.2.2.1 32 a0) fun r9 => some (((r9.1.1.1, ()), ()), ())) else (bif decide (a1.1 = 24) then (Option.bind (U119.f k a1.2.2.1 32 a0) fun r10 => bif r10.1.1.1 then (Option.bind (U119.f k a1.2.2.2.1 8 a0) fun r11 => some (((r11.1.1.1, ()), ()), ())) else (some (((false, ()), ()), ()))) else (bif decide (a1.1 = 25) then (some (((!decide (r1.1.1.1 = 0), ()), ()), ())) else (some (((true, ()), ()), ()))))))))))
abbrev S : ShapeParts := ⟨[⟨true, [.lst (.int .i64), .int .i64, .lst tBlock]⟩, ⟨true, [.int .i64, .int .i64, .int .i64, .int .i64, .int .i64, .int .i64, .lst (.int .i64)]⟩], [], false, [⟨false, [.bool]⟩], [], []⟩
def s (k : Nat) : FS := S.fs fun x => f k x.1.1 x.1.2.1
def E (k : Nat) : Ents := [(⟨75, []⟩, U115.s k), (⟨71, []⟩, U77.s k), (⟨190, []⟩, U119.s k)]
def L : List (LS R) := []
def c : Code := Tryz.f160.body.getD .skip
theorem eq (k : Nat) (x) : (s k).pf x = execF tab (E k) Tryz.f160 c (s k) L x := by kernel_rfl
theorem sound : ∀ k, Sound Tryz.prog 160 (s k) := snd S (fun k => (s k).pf) E (fun k => (EntsOK.cons (U115.sound k) (EntsOK.cons (U77.sound k) (EntsOK.cons (U119.sound k) EntsOK.nil)))) (fun k => L) (fun k => trivial) eq
end U120
namespace U121
abbrev R := (((Bool × Unit) × Unit) × Unit)
def f (k : Nat) (a0 : tInstD) (a1 : tFuncD) : Option R := Option.bind (U120.f k a1 a0) fun r1 => some (((!r1.1.1.1, ()), ()), ())
abbrev S : ShapeParts := ⟨[⟨true, [.int .i64, .int .i64, .int .i64, .int .i64, .int .i64, .int .i64, .lst (.int .i64)]⟩, ⟨false, [.ptr 0 0]⟩], [(0, .cbox [.lst (.int .i64), .int .i64, .lst tBlock])], false, [⟨false, [.bool]⟩], [], []⟩
def s (k : Nat) : FS := S.fs fun x => f k x.1.1 x.2.1
def E (k : Nat) : Ents := [(⟨160, []⟩, U120.s k)]
def L : List (LS R) := []
def c : Code := Tryz.f159.body.getD .skip
theorem eq (k : Nat) (x) : (s k).pf x = execF tab (E k) Tryz.f159 c (s k) L x := by kernel_rfl
theorem sound : ∀ k, Sound Tryz.prog 159 (s k) := snd S (fun k => (s k).pf) E (fun k => (EntsOK.cons (U120.sound k) EntsOK.nil)) (fun k => L) (fun k => trivial) eq
end U121
namespace U122
abbrev R := (((Int × Unit) × Unit) × Unit)
abbrev T0 : Type := (List tInstD) → Int → Int → tFuncD → Option R
def l0_ (k : Nat) (l0 : T0) (a0 : List tInstD) (a1 : Int) (a2 : Int) (a3 : tFuncD) : Option R := bif decide (a2 < a1) then (bif (decide (0 ≤ a2)) && (decide (a2 < ((List.length a0 : Nat) : Int))) then (Option.bind (U121.f k (List.getD a0 (Int.toNat a2) tInstZ) a3) fun r1 => bif r1.1.1.1 then (some (((a2, ()), ()), ())) else (l0 a0 a1 (IntKind.wrap .i64 (a2 + 1)) a3)) else none) else (some (((-1, ()), ()), ()))
def all : Nat → (T0) × Unit
 | 0 => (fun _ _ _ _ => none, ())
 | k + 1 => (l0_ k (all k).1, ())
def l0 (k : Nat) : T0 := (all k).1
def f (k : Nat) (a0 : List tInstD) (a1 : tFuncD) : Option R := l0 k a0 ((List.length a0 : Nat) : Int) 0 a1
abbrev S : ShapeParts := ⟨[⟨false, [.lst tInst]⟩, ⟨false, [.fn 159 [(0, 0)]]⟩], [(0, .cbox [.lst (.int .i64), .int .i64, .lst tBlock])], false, [⟨false, [.int .i64]⟩], [], []⟩
def s (k : Nat) : FS := S.fs fun x => f k x.1.1.1 x.2.1
def E (k : Nat) : Ents := [(⟨159, []⟩, U121.s k)]
def L0 (l : T0) : LS R := ⟨[], [(0, ⟨false, [.lst tInst]⟩), (1, ⟨false, [.fn 159 [(0, 0)]]⟩), (7, ⟨false, [.int .i64]⟩), (8, ⟨false, [.int .i64]⟩)], [(0, .cbox [.lst (.int .i64), .int .i64, .lst tBlock])], fun x => l x.1.1.1 x.1.2.2.1.1 x.1.2.2.2.1.1 x.2.1⟩
def L (l0 : T0) : List (LS R) := [L0 l0]
def c : Code := Tryz.f161.body.getD .skip
theorem eq (k : Nat) (x) : (s k).pf x = execF tab (E k) Tryz.f161 c (s k) (L (l0 k)) x := by kernel_rfl
theorem r0 (l0 : T0) (k : Nat) (x) : (L0 (l0_ k l0)).l x = roundOf tab (E k) (L l0) c (fin tab Tryz.f161 (s k)) 0 (L0 l0) x := by kernel_rfl
theorem sound : ∀ k, Sound Tryz.prog 161 (s k) := snd S (fun k => (s k).pf) E (fun k => (EntsOK.cons (U121.sound k) EntsOK.nil)) (fun k => L (l0 k)) (fun k => ⟨⟨(L0 (l0 (k + 1))).l, rfl, fun x => r0 (l0 k) k x⟩, trivial⟩) eq
end U122
namespace U123
abbrev R := (((Bool × Unit) × Unit) × Unit)
def f (k : Nat) (a0 : List tInstD) (a1 : tFuncD) : Option R := Option.bind (U122.f k a0 a1) fun r1 => some (((decide (0 ≤ r1.1.1.1), ()), ()), ())
abbrev S : ShapeParts := ⟨[⟨false, [.lst tInst]⟩, ⟨false, [.fn 159 [(0, 0)]]⟩], [(0, .cbox [.lst (.int .i64), .int .i64, .lst tBlock])], false, [⟨false, [.bool]⟩], [], []⟩
def s (k : Nat) : FS := S.fs fun x => f k x.1.1.1 x.2.1
def E (k : Nat) : Ents := [(⟨161, [159]⟩, U122.s k)]
def L : List (LS R) := []
def c : Code := Tryz.f91.body.getD .skip
theorem eq (k : Nat) (x) : (s k).pf x = execF tab (E k) Tryz.f91 c (s k) L x := by kernel_rfl
theorem sound : ∀ k, Sound Tryz.prog 91 (s k) := snd S (fun k => (s k).pf) E (fun k => (EntsOK.cons (U122.sound k) EntsOK.nil)) (fun k => L) (fun k => trivial) eq
end U123
namespace U124
abbrev R := (((Bool × Unit) × Unit) × Unit)
abbrev T0 : Type := (List tBlockD) → Int → Int → tFuncD → Option R
abbrev T1 : Type := (List tBlockD) → Int → Int → (List tPhiD) → Int → Int → tFuncD → tBlockD → Option R
def l0_ (k : Nat) (l0 : T0) (l1 : T1) (a0 : List tBlockD) (a1 : Int) (a2 : Int) (a3 : tFuncD) : Option R := bif decide (a2 < a1) then (bif (decide (0 ≤ a2)) && (decide (a2 < ((List.length a0 : Nat) : Int))) then (l1 a0 a1 a2 ((List.getD a0 (Int.toNat a2) tBlockZ).1) ((List.length ((List.getD a0 (Int.toNat a2) tBlockZ).1) : Nat) : Int) 0 a3 (List.getD a0 (Int.toNat a2) tBlockZ)) else none) else (some (((true, ()), ()), ()))
def l1_ (k : Nat) (l0 : T0) (l1 : T1) (a0 : List tBlockD) (a1 : Int) (a2 : Int) (a3 : List tPhiD) (a4 : Int) (a5 : Int) (a6 : tFuncD) (a7 : tBlockD) : Option R := bif decide (a5 < a4) then (bif (decide (0 ≤ a5)) && (decide (a5 < ((List.length a3 : Nat) : Int))) then (Option.bind (U118.f k ((List.getD a3 (Int.toNat a5) tPhiZ).2.1) a6 (List.getD a3 (Int.toNat a5) tPhiZ)) fun r1 => bif r1.1.1.1 then (some (((false, ()), ()), ())) else (l1 a0 a1 a2 a3 a4 (IntKind.wrap .i64 (a5 + 1)) a6 a7)) else none) else (Option.bind (U123.f k a7.2.1 a6) fun r2 => bif r2.1.1.1 then (some (((false, ()), ()), ())) else (bif decide (a7.2.2.1 = 1) then (Option.bind (U115.f k a6 a7.2.2.2.1) fun r3 => bif !decide (r3.1.1.1 = a6.2.1) then (some (((false, ()), ()), ())) else (bif decide (a7.2.2.1 = 3) then (Option.bind (U115.f k a6 a7.2.2.2.1) fun r4 => bif !decide (r4.1.1.1 = 1) then (some (((false, ()), ()), ())) else (l0 a0 a1 (IntKind.wrap .i64 (a2 + 1)) a6)) else (l0 a0 a1 (IntKind.wrap .i64 (a2 + 1)) a6))) else (bif decide (a7.2.2.1 = 3) then (Option.bind (U115.f k a6 a7.2.2.2.1) fun r5 => bif !decide (r5.1.1.1 = 1) then (some (((false, ()), ()), ())) else (l0 a0 a1 (IntKind.wrap .i64 (a2 + 1)) a6)) else (l0 a0 a1 (IntKind.wrap .i64 (a2 + 1)) a6))))
def all : Nat → (T0) × (T1) × Unit
 | 0 => (fun _ _ _ _ => none, fun _ _ _ _ _ _ _ _ => none, ())
 | k + 1 => (l0_ k (all k).1 (all k).2.1, l1_ k (all k).1 (all k).2.1, ())
def l0 (k : Nat) : T0 := (all k).1
def l1 (k : Nat) : T1 := (all k).2.1
def f (k : Nat) (a0 : tFuncD) : Option R := l0 k a0.2.2.1 ((List.length a0.2.2.1 : Nat) : Int) 0 a0
abbrev S : ShapeParts := ⟨[⟨true, [.lst (.int .i64), .int .i64, .lst tBlock]⟩], [], false, [⟨false, [.bool]⟩], [], []⟩
def s (k : Nat) : FS := S.fs fun x => f k x.1.1
def E (k : Nat) : Ents := [(⟨148, [158]⟩, U118.s k), (⟨91, [159]⟩, U123.s k), (⟨75, []⟩, U115.s k)]
def L0 (l : T0) : LS R := ⟨[], [(1, ⟨false, [.ptr 100000 0]⟩), (9, ⟨false, [.lst tBlock]⟩), (10, ⟨false, [.int .i64]⟩), (11, ⟨false, [.int .i64]⟩)], [(100000, .box [.lst (.int .i64), .int .i64, .lst tBlock])], fun x => l x.1.2.1.1 x.1.2.2.1.1 x.1.2.2.2.1.1 x.2.1⟩
def L1 (l : T1) : LS R := ⟨[], [(1, ⟨false, [.ptr 100000 0]⟩), (4, ⟨false, [.ptr 100001 0]⟩), (9, ⟨false, [.lst tBlock]⟩), (10, ⟨false, [.int .i64]⟩), (11, ⟨false, [.int .i64]⟩), (16, ⟨false, [.lst tPhi]⟩), (17, ⟨false, [.int .i64]⟩), (18, ⟨false, [.int .i64]⟩)], [(100000, .box [.lst (.int .i64), .int .i64, .lst tBlock]), (100001, .box [.lst tPhi, .lst tInst, .int .i64, .int .i64, .int .i64, .int .i64])], fun x => l x.1.2.2.1.1 x.1.2.2.2.1.1 x.1.2.2.2.2.1.1 x.1.2.2.2.2.2.1.1 x.1.2.2.2.2.2.2.1.1 x.1.2.2.2.2.2.2.2.1.1 x.2.1 x.2.2.1⟩
def L (l0 : T0) (l1 : T1) : List (LS R) := [L0 l0, L1 l1]
def c : Code := Tryz.f90.body.getD .skip
theorem eq (k : Nat) (x) : (s k).pf x = execF tab (E k) Tryz.f90 c (s k) (L (l0 k) (l1 k)) x := by kernel_rfl
theorem r0 (l0 : T0) (l1 : T1) (k : Nat) (x) : (L0 (l0_ k l0 l1)).l x = roundOf tab (E k) (L l0 l1) c (fin tab Tryz.f90 (s k)) 0 (L0 l0) x := by kernel_rfl
theorem r1 (l0 : T0) (l1 : T1) (k : Nat) (x) : (L1 (l1_ k l0 l1)).l x = roundOf tab (E k) (L l0 l1) c (fin tab Tryz.f90 (s k)) 1 (L1 l1) x := by kernel_rfl
theorem sound : ∀ k, Sound Tryz.prog 90 (s k) := snd S (fun k => (s k).pf) E (fun k => (EntsOK.cons (U118.sound k) (EntsOK.cons (U123.sound k) (EntsOK.cons (U115.sound k) EntsOK.nil)))) (fun k => L (l0 k) (l1 k)) (fun k => ⟨⟨(L0 (l0 (k + 1))).l, rfl, fun x => r0 (l0 k) (l1 k) k x⟩, ⟨(L1 (l1 (k + 1))).l, rfl, fun x => r1 (l0 k) (l1 k) k x⟩, trivial⟩) eq
end U124
namespace U125
abbrev R := (((Bool × Unit) × Unit) × Unit)
abbrev T0 : Type := (List Int) → Int → Int → tFuncD → tFuncD → Option R
def l0_ (k : Nat) (l0 : T0) (a0 : List Int) (a1 : Int) (a2 : Int) (a3 : tFuncD) (a4 : tFuncD) : Option R := bif decide (a2 < a1) then (bif (decide (0 ≤ a2)) && (decide (a2 < ((List.length a0 : Nat) : Int))) then (Option.bind (U115.f k a3 (List.getD a0 (Int.toNat a2) 0)) fun r1 => bif (decide (0 ≤ a2)) && (decide (a2 < ((List.length a4.1 : Nat) : Int))) then (bif !decide (r1.1.1.1 = List.getD a4.1 (Int.toNat a2) 0) then (some (((false, ()), ()), ())) else (l0 a0 a1 (IntKind.wrap .i64 (a2 + 1)) a3 a4)) else none) else none) else (some (((true, ()), ()), ()))
def all : Nat → (T0) × Unit
 | 0 => (fun _ _ _ _ _ => none, ())
 | k + 1 => (l0_ k (all k).1, ())
def l0 (k : Nat) : T0 := (all k).1
def f (k : Nat) (a0 : tModuleD) (a1 : tFuncD) (a2 : tInstD) : Option R := bif (decide (0 ≤ a2.2.2.2.2.2.1)) && (decide (a2.2.2.2.2.2.1 < ((List.length a0.1 : Nat) : Int))) then (bif !decide (a2.2.1 = (List.getD a0.1 (Int.toNat a2.2.2.2.2.2.1) tFuncZ).2.1) then (some (((false, ()), ()), ())) else (bif !decide (((List.length a2.2.2.2.2.2.2.1 : Nat) : Int) = ((List.length ((List.getD a0.1 (Int.toNat a2.2.2.2.2.2.1) tFuncZ).1) : Nat) : Int)) then (some (((false, ()), ()), ())) else (l0 k a2.2.2.2.2.2.2.1 ((List.length a2.2.2.2.2.2.2.1 : Nat) : Int) 0 a1 (List.getD a0.1 (Int.toNat a2.2.2.2.2.2.1) tFuncZ)))) else none
abbrev S : ShapeParts := ⟨[⟨true, [.lst tFunc]⟩, ⟨true, [.lst (.int .i64), .int .i64, .lst tBlock]⟩, ⟨true, [.int .i64, .int .i64, .int .i64, .int .i64, .int .i64, .int .i64, .lst (.int .i64)]⟩], [], false, [⟨false, [.bool]⟩], [], []⟩
def s (k : Nat) : FS := S.fs fun x => f k x.1.1 x.1.2.1 x.1.2.2.1
def E (k : Nat) : Ents := [(⟨75, []⟩, U115.s k)]
def L0 (l : T0) : LS R := ⟨[], [(4, ⟨false, [.ptr 100000 0]⟩), (7, ⟨false, [.ptr 100001 0]⟩), (31, ⟨false, [.lst (.int .i64)]⟩), (32, ⟨false, [.int .i64]⟩), (33, ⟨false, [.int .i64]⟩)], [(100000, .box [.lst (.int .i64), .int .i64, .lst tBlock]), (100001, .box [.lst (.int .i64), .int .i64, .lst tBlock])], fun x => l x.1.2.2.1.1 x.1.2.2.2.1.1 x.1.2.2.2.2.1.1 x.2.1 x.2.2.1⟩
def L (l0 : T0) : List (LS R) := [L0 l0]
def c : Code := Tryz.f93.body.getD .skip
theorem eq (k : Nat) (x) : (s k).pf x = execF tab (E k) Tryz.f93 c (s k) (L (l0 k)) x := by kernel_rfl
theorem r0 (l0 : T0) (k : Nat) (x) : (L0 (l0_ k l0)).l x = roundOf tab (E k) (L l0) c (fin tab Tryz.f93 (s k)) 0 (L0 l0) x := by kernel_rfl
theorem sound : ∀ k, Sound Tryz.prog 93 (s k) := snd S (fun k => (s k).pf) E (fun k => (EntsOK.cons (U115.sound k) EntsOK.nil)) (fun k => L (l0 k)) (fun k => ⟨⟨(L0 (l0 (k + 1))).l, rfl, fun x => r0 (l0 k) k x⟩, trivial⟩) eq
end U125
namespace U126
abbrev R := (((Bool × Unit) × Unit) × Unit)
def f (k : Nat) (a0 : tInstD) (a1 : List tFuncD) (a2 : tFuncD) : Option R := bif decide (a0.1 = 26) then (Option.bind (U125.f k (a1, ()) a2 a0) fun r1 => some (((!r1.1.1.1, ()), ()), ())) else (some (((false, ()), ()), ()))
abbrev S : ShapeParts := ⟨[⟨true, [.int .i64, .int .i64, .int .i64, .int .i64, .int .i64, .int .i64, .lst (.int .i64)]⟩, ⟨false, [.ptr 0 0]⟩, ⟨false, [.ptr 1 0]⟩], [(0, .cbox [.lst tFunc]), (1, .cbox [.lst (.int .i64), .int .i64, .lst tBlock])], false, [⟨false, [.bool]⟩], [], []⟩
def s (k : Nat) : FS := S.fs fun x => f k x.1.1 x.2.1.1 x.2.2.1
def E (k : Nat) : Ents := [(⟨93, []⟩, U125.s k)]
def L : List (LS R) := []
def c : Code := Tryz.f92.body.getD .skip
theorem eq (k : Nat) (x) : (s k).pf x = execF tab (E k) Tryz.f92 c (s k) L x := by kernel_rfl
theorem sound : ∀ k, Sound Tryz.prog 92 (s k) := snd S (fun k => (s k).pf) E (fun k => (EntsOK.cons (U125.sound k) EntsOK.nil)) (fun k => L) (fun k => trivial) eq
end U126
namespace U127
abbrev R := (((Int × Unit) × Unit) × Unit)
abbrev T0 : Type := (List tInstD) → Int → Int → (List tFuncD) → tFuncD → Option R
def l0_ (k : Nat) (l0 : T0) (a0 : List tInstD) (a1 : Int) (a2 : Int) (a3 : List tFuncD) (a4 : tFuncD) : Option R := bif decide (a2 < a1) then (bif (decide (0 ≤ a2)) && (decide (a2 < ((List.length a0 : Nat) : Int))) then (Option.bind (U126.f k (List.getD a0 (Int.toNat a2) tInstZ) a3 a4) fun r1 => bif r1.1.1.1 then (some (((a2, ()), ()), ())) else (l0 a0 a1 (IntKind.wrap .i64 (a2 + 1)) a3 a4)) else none) else (some (((-1, ()), ()), ()))
def all : Nat → (T0) × Unit
 | 0 => (fun _ _ _ _ _ => none, ())
 | k + 1 => (l0_ k (all k).1, ())
def l0 (k : Nat) : T0 := (all k).1
def f (k : Nat) (a0 : List tInstD) (a1 : List tFuncD) (a2 : tFuncD) : Option R := l0 k a0 ((List.length a0 : Nat) : Int) 0 a1 a2
abbrev S : ShapeParts := ⟨[⟨false, [.lst tInst]⟩, ⟨false, [.fn 92 [(0, 0), (1, 0)]]⟩], [(0, .cbox [.lst tFunc]), (1, .cbox [.lst (.int .i64), .int .i64, .lst tBlock])], false, [⟨false, [.int .i64]⟩], [], []⟩
def s (k : Nat) : FS := S.fs fun x => f k x.1.1.1 x.2.1.1 x.2.2.1
def E (k : Nat) : Ents := [(⟨92, []⟩, U126.s k)]
def L0 (l : T0) : LS R := ⟨[], [(0, ⟨false, [.lst tInst]⟩), (1, ⟨false, [.fn 92 [(0, 0), (1, 0)]]⟩), (7, ⟨false, [.int .i64]⟩), (8, ⟨false, [.int .i64]⟩)], [(0, .cbox [.lst tFunc]), (1, .cbox [.lst (.int .i64), .int .i64, .lst tBlock])], fun x => l x.1.1.1 x.1.2.2.1.1 x.1.2.2.2.1.1 x.2.1.1 x.2.2.1⟩
def L (l0 : T0) : List (LS R) := [L0 l0]
def c : Code := Tryz.f161.body.getD .skip
theorem eq (k : Nat) (x) : (s k).pf x = execF tab (E k) Tryz.f161 c (s k) (L (l0 k)) x := by kernel_rfl
theorem r0 (l0 : T0) (k : Nat) (x) : (L0 (l0_ k l0)).l x = roundOf tab (E k) (L l0) c (fin tab Tryz.f161 (s k)) 0 (L0 l0) x := by kernel_rfl
theorem sound : ∀ k, Sound Tryz.prog 161 (s k) := snd S (fun k => (s k).pf) E (fun k => (EntsOK.cons (U126.sound k) EntsOK.nil)) (fun k => L (l0 k)) (fun k => ⟨⟨(L0 (l0 (k + 1))).l, rfl, fun x => r0 (l0 k) k x⟩, trivial⟩) eq
end U127
namespace U128
abbrev R := (((Bool × Unit) × Unit) × Unit)
def f (k : Nat) (a0 : List tInstD) (a1 : List tFuncD) (a2 : tFuncD) : Option R := Option.bind (U127.f k a0 a1 a2) fun r1 => some (((decide (0 ≤ r1.1.1.1), ()), ()), ())
abbrev S : ShapeParts := ⟨[⟨false, [.lst tInst]⟩, ⟨false, [.fn 92 [(0, 0), (1, 0)]]⟩], [(0, .cbox [.lst tFunc]), (1, .cbox [.lst (.int .i64), .int .i64, .lst tBlock])], false, [⟨false, [.bool]⟩], [], []⟩
def s (k : Nat) : FS := S.fs fun x => f k x.1.1.1 x.2.1.1 x.2.2.1
def E (k : Nat) : Ents := [(⟨161, [92]⟩, U127.s k)]
def L : List (LS R) := []
def c : Code := Tryz.f91.body.getD .skip
theorem eq (k : Nat) (x) : (s k).pf x = execF tab (E k) Tryz.f91 c (s k) L x := by kernel_rfl
theorem sound : ∀ k, Sound Tryz.prog 91 (s k) := snd S (fun k => (s k).pf) E (fun k => (EntsOK.cons (U127.sound k) EntsOK.nil)) (fun k => L) (fun k => trivial) eq
end U128
namespace U129
abbrev R := (((Unit × Unit) × Unit) × ((List Bool) × Unit))
abbrev T0 : Type := Int → tFuncD → (List Bool) → (List Int) → Option R
def l0_ (k : Nat) (l0 : T0) (a0 : Int) (a1 : tFuncD) (a2 : List Bool) (a3 : List Int) : Option R := bif decide (0 < ((List.length a3 : Nat) : Int)) then (bif (decide (0 ≤ 0)) && (decide (0 < ((List.length a3 : Nat) : Int))) then (bif (decide (0 ≤ 1)) && (decide (1 ≤ ((List.length a3 : Nat) : Int))) then (bif decide (List.getD a3 0 0 = a0) then (l0 a0 a1 a2 (List.drop 1 a3)) else (bif (decide (0 ≤ List.getD a3 0 0)) && (decide (List.getD a3 0 0 < ((List.length a2 : Nat) : Int))) then (bif List.getD a2 (Int.toNat (List.getD a3 0 0)) false then (l0 a0 a1 a2 (List.drop 1 a3)) else (bif (decide (0 ≤ List.getD a3 0 0)) && (decide (List.getD a3 0 0 < ((List.length a2 : Nat) : Int))) then (bif (decide (0 ≤ List.getD a3 0 0)) && (decide (List.getD a3 0 0 < ((List.length a1.2.2.1 : Nat) : Int))) then (Option.bind (U101.f k ((List.getD a1.2.2.1 (Int.toNat (List.getD a3 0 0)) tBlockZ).2.2)) fun r1 => bif decide ((List.length (List.drop 1 a3) + List.length r1.2.1) * 8 ≤ 140737488355328) then (l0 a0 a1 (List.set a2 (Int.toNat (List.getD a3 0 0)) true) ((List.drop 1 a3) ++ r1.2.1)) else none) else none) else none)) else none)) else none) else none) else (some ((((), ()), ()), (a2, ())))
def all : Nat → (T0) × Unit
 | 0 => (fun _ _ _ _ => none, ())
 | k + 1 => (l0_ k (all k).1, ())
def l0 (k : Nat) : T0 := (all k).1
def f (k : Nat) (a0 : tFuncD) (a1 : Int) : Option R := bif (decide (((List.length a0.2.2.1 : Nat) : Int) = ((List.length a0.2.2.1 : Nat) : Int))) && (decide (0 ≤ ((List.length a0.2.2.1 : Nat) : Int))) && (decide (((List.length a0.2.2.1 : Nat) : Int) * 1 ≤ 281474976710656)) then (l0 k a1 a0 (List.replicate (Int.toNat ((List.length a0.2.2.1 : Nat) : Int)) false) [0]) else none
abbrev S : ShapeParts := ⟨[⟨true, [.lst (.int .i64), .int .i64, .lst tBlock]⟩, ⟨false, [.int .i64]⟩], [], false, [⟨false, [.own 100]⟩], [(100, .row true .bool)], []⟩
def s (k : Nat) : FS := S.fs fun x => f k x.1.1 x.1.2.1.1
def E (k : Nat) : Ents := [(⟨162, []⟩, U101.s k)]
def L0 (l : T0) : LS R := ⟨[], [(1, ⟨false, [.int .i64]⟩), (2, ⟨false, [.ptr 100000 0]⟩), (5, ⟨false, [.own 100001]⟩), (6, ⟨false, [.own 100002]⟩)], [(100000, .box [.lst (.int .i64), .int .i64, .lst tBlock]), (100001, .row true .bool), (100002, .row true (.int .i64))], fun x => l x.1.1.1 x.2.1 x.2.2.1 x.2.2.2.1⟩
def L (l0 : T0) : List (LS R) := [L0 l0]
def c : Code := Tryz.f94.body.getD .skip
theorem eq (k : Nat) (x) : (s k).pf x = execF tab (E k) Tryz.f94 c (s k) (L (l0 k)) x := by kernel_rfl
theorem r0 (l0 : T0) (k : Nat) (x) : (L0 (l0_ k l0)).l x = roundOf tab (E k) (L l0) c (fin tab Tryz.f94 (s k)) 0 (L0 l0) x := by kernel_rfl
theorem sound : ∀ k, Sound Tryz.prog 94 (s k) := snd S (fun k => (s k).pf) E (fun k => (EntsOK.cons (U101.sound k) EntsOK.nil)) (fun k => L (l0 k)) (fun k => ⟨⟨(L0 (l0 (k + 1))).l, rfl, fun x => r0 (l0 k) k x⟩, trivial⟩) eq
end U129
namespace U130
abbrev R := (((Int × Unit) × Unit) × Unit)
abbrev T0 : Type := Int → (List tBlockD) → Int → Int → Option R
def l0_ (k : Nat) (l0 : T0) (a0 : Int) (a1 : List tBlockD) (a2 : Int) (a3 : Int) : Option R := bif decide (a3 < a2) then (bif (decide (0 ≤ a3)) && (decide (a3 < ((List.length a1 : Nat) : Int))) then (l0 (IntKind.wrap .i64 (a0 + (IntKind.wrap .i64 (((List.length ((List.getD a1 (Int.toNat a3) tBlockZ).1) : Nat) : Int) + ((List.length ((List.getD a1 (Int.toNat a3) tBlockZ).2.1) : Nat) : Int))))) a1 a2 (IntKind.wrap .i64 (a3 + 1))) else none) else (some (((a0, ()), ()), ()))
def all : Nat → (T0) × Unit
 | 0 => (fun _ _ _ _ => none, ())
 | k + 1 => (l0_ k (all k).1, ())
def l0 (k : Nat) : T0 := (all k).1
def f (k : Nat) (a0 : tFuncD) (a1 : Int) : Option R := bif (decide (0 ≤ 0)) && (decide (0 ≤ a1)) && (decide (a1 ≤ ((List.length a0.2.2.1 : Nat) : Int))) then (l0 k ((List.length a0.1 : Nat) : Int) (List.take (Int.toNat a1) a0.2.2.1) ((List.length (List.take (Int.toNat a1) a0.2.2.1) : Nat) : Int) 0) else none
abbrev S : ShapeParts := ⟨[⟨true, [.lst (.int .i64), .int .i64, .lst tBlock]⟩, ⟨false, [.int .i64]⟩], [], false, [⟨false, [.int .i64]⟩], [], []⟩
def s (k : Nat) : FS := S.fs fun x => f k x.1.1 x.1.2.1.1
def E (k : Nat) : Ents := []
def L0 (l : T0) : LS R := ⟨[], [(5, ⟨false, [.int .i64]⟩), (14, ⟨false, [.lst tBlock]⟩), (15, ⟨false, [.int .i64]⟩), (16, ⟨false, [.int .i64]⟩)], [], fun x => l x.1.1.1 x.1.2.1.1 x.1.2.2.1.1 x.1.2.2.2.1.1⟩
def L (l0 : T0) : List (LS R) := [L0 l0]
def c : Code := Tryz.f115.body.getD .skip
theorem eq (k : Nat) (x) : (s k).pf x = execF tab (E k) Tryz.f115 c (s k) (L (l0 k)) x := by kernel_rfl
theorem r0 (l0 : T0) (k : Nat) (x) : (L0 (l0_ k l0)).l x = roundOf tab (E k) (L l0) c (fin tab Tryz.f115 (s k)) 0 (L0 l0) x := by kernel_rfl
theorem sound : ∀ k, Sound Tryz.prog 115 (s k) := snd S (fun k => (s k).pf) E (fun k => EntsOK.nil) (fun k => L (l0 k)) (fun k => ⟨⟨(L0 (l0 (k + 1))).l, rfl, fun x => r0 (l0 k) k x⟩, trivial⟩) eq
end U130
namespace U131
abbrev R := (((Bool × Unit) × Unit) × Unit)
def f (k : Nat) (a0 : tFuncD) (a1 : Int) (a2 : Int) : Option R := Option.bind (U129.f k a0 (-1)) fun r1 => bif (decide (0 ≤ a2)) && (decide (a2 < ((List.length r1.2.1 : Nat) : Int))) then (bif List.getD r1.2.1 (Int.toNat a2) false then (Option.bind (U129.f k a0 a1) fun r2 => bif (decide (0 ≤ a2)) && (decide (a2 < ((List.length r2.2.1 : Nat) : Int))) then (some (((!(List.getD r2.2.1 (Int.toNat a2) false), ()), ()), ())) else none) else (some (((false, ()), ()), ()))) else none
abbrev S : ShapeParts := ⟨[⟨true, [.lst (.int .i64), .int .i64, .lst tBlock]⟩, ⟨false, [.int .i64]⟩, ⟨false, [.int .i64]⟩], [], false, [⟨false, [.bool]⟩], [], []⟩
def s (k : Nat) : FS := S.fs fun x => f k x.1.1 x.1.2.1.1 x.1.2.2.1.1
def E (k : Nat) : Ents := [(⟨94, []⟩, U129.s k)]
def L : List (LS R) := []
def c : Code := Tryz.f191.body.getD .skip
theorem eq (k : Nat) (x) : (s k).pf x = execF tab (E k) Tryz.f191 c (s k) L x := by kernel_rfl
theorem sound : ∀ k, Sound Tryz.prog 191 (s k) := snd S (fun k => (s k).pf) E (fun k => (EntsOK.cons (U129.sound k) EntsOK.nil)) (fun k => L) (fun k => trivial) eq
end U131
namespace U132
abbrev R := (((Bool × Unit) × Unit) × Unit)
def f (k : Nat) (a0 : tFuncD) (a1 : Int) (a2 : Int) (a3 : Int) : Option R := Option.bind (U111.f k a0 a1) fun r1 => bif decide (r1.1.1.1 = -1) then (some (((true, ()), ()), ())) else (bif decide (r1.1.1.1 = a2) then (some (((decide (a1 < a3), ()), ()), ())) else (Option.bind (U131.f k a0 r1.1.1.1 a2) fun r2 => some (((r2.1.1.1, ()), ()), ())))
abbrev S : ShapeParts := ⟨[⟨true, [.lst (.int .i64), .int .i64, .lst tBlock]⟩, ⟨false, [.int .i64]⟩, ⟨false, [.int .i64]⟩, ⟨false, [.int .i64]⟩], [], false, [⟨false, [.bool]⟩], [], []⟩
def s (k : Nat) : FS := S.fs fun x => f k x.1.1 x.1.2.1.1 x.1.2.2.1.1 x.1.2.2.2.1.1
def E (k : Nat) : Ents := [(⟨137, []⟩, U111.s k), (⟨191, []⟩, U131.s k)]
def L : List (LS R) := []
def c : Code := Tryz.f163.body.getD .skip
theorem eq (k : Nat) (x) : (s k).pf x = execF tab (E k) Tryz.f163 c (s k) L x := by kernel_rfl
theorem sound : ∀ k, Sound Tryz.prog 163 (s k) := snd S (fun k => (s k).pf) E (fun k => (EntsOK.cons (U111.sound k) (EntsOK.cons (U131.sound k) EntsOK.nil))) (fun k => L) (fun k => trivial) eq
end U132
namespace U133
abbrev R := (((Bool × Unit) × Unit) × Unit)
def f (k : Nat) (a0 : Int) (a1 : tFuncD) (a2 : Int) (a3 : Int) (a4 : Int) : Option R := Option.bind (U132.f k a1 a0 a2 (IntKind.wrap .i64 (a3 + a4))) fun r1 => some (((!r1.1.1.1, ()), ()), ())
abbrev S : ShapeParts := ⟨[⟨false, [.int .i64]⟩, ⟨false, [.ptr 0 0]⟩, ⟨false, [.ptr 1 0]⟩, ⟨false, [.ptr 2 0]⟩, ⟨false, [.ptr 3 0]⟩], [(0, .cbox [.lst (.int .i64), .int .i64, .lst tBlock]), (1, .cbox [.int .i64]), (2, .cbox [.int .i64]), (3, .cbox [.int .i64])], false, [⟨false, [.bool]⟩], [], []⟩
def s (k : Nat) : FS := S.fs fun x => f k x.1.1.1 x.2.1 x.2.2.1.1 x.2.2.2.1.1 x.2.2.2.2.1.1
def E (k : Nat) : Ents := [(⟨163, []⟩, U132.s k)]
def L : List (LS R) := []
def c : Code := Tryz.f165.body.getD .skip
theorem eq (k : Nat) (x) : (s k).pf x = execF tab (E k) Tryz.f165 c (s k) L x := by kernel_rfl
theorem sound : ∀ k, Sound Tryz.prog 165 (s k) := snd S (fun k => (s k).pf) E (fun k => (EntsOK.cons (U132.sound k) EntsOK.nil)) (fun k => L) (fun k => trivial) eq
end U133
namespace U134
abbrev R := (((Int × Unit) × Unit) × Unit)
abbrev T0 : Type := (List Int) → Int → Int → tFuncD → Int → Int → Int → Option R
def l0_ (k : Nat) (l0 : T0) (a0 : List Int) (a1 : Int) (a2 : Int) (a3 : tFuncD) (a4 : Int) (a5 : Int) (a6 : Int) : Option R := bif decide (a2 < a1) then (bif (decide (0 ≤ a2)) && (decide (a2 < ((List.length a0 : Nat) : Int))) then (Option.bind (U133.f k (List.getD a0 (Int.toNat a2) 0) a3 a4 a5 a6) fun r1 => bif r1.1.1.1 then (some (((a2, ()), ()), ())) else (l0 a0 a1 (IntKind.wrap .i64 (a2 + 1)) a3 a4 a5 a6)) else none) else (some (((-1, ()), ()), ()))
def all : Nat → (T0) × Unit
 | 0 => (fun _ _ _ _ _ _ _ => none, ())
 | k + 1 => (l0_ k (all k).1, ())
def l0 (k : Nat) : T0 := (all k).1
def f (k : Nat) (a0 : List Int) (a1 : tFuncD) (a2 : Int) (a3 : Int) (a4 : Int) : Option R := l0 k a0 ((List.length a0 : Nat) : Int) 0 a1 a2 a3 a4
abbrev S : ShapeParts := ⟨[⟨false, [.lst (.int .i64)]⟩, ⟨false, [.fn 165 [(0, 0), (1, 0), (2, 0), (3, 0)]]⟩], [(0, .cbox [.lst (.int .i64), .int .i64, .lst tBlock]), (1, .cbox [.int .i64]), (2, .cbox [.int .i64]), (3, .cbox [.int .i64])], false, [⟨false, [.int .i64]⟩], [], []⟩
def s (k : Nat) : FS := S.fs fun x => f k x.1.1.1 x.2.1 x.2.2.1.1 x.2.2.2.1.1 x.2.2.2.2.1.1
def E (k : Nat) : Ents := [(⟨165, []⟩, U133.s k)]
def L0 (l : T0) : LS R := ⟨[], [(0, ⟨false, [.lst (.int .i64)]⟩), (1, ⟨false, [.fn 165 [(0, 0), (1, 0), (2, 0), (3, 0)]]⟩), (7, ⟨false, [.int .i64]⟩), (8, ⟨false, [.int .i64]⟩)], [(0, .cbox [.lst (.int .i64), .int .i64, .lst tBlock]), (1, .cbox [.int .i64]), (2, .cbox [.int .i64]), (3, .cbox [.int .i64])], fun x => l x.1.1.1 x.1.2.2.1.1 x.1.2.2.2.1.1 x.2.1 x.2.2.1.1 x.2.2.2.1.1 x.2.2.2.2.1.1⟩
def L (l0 : T0) : List (LS R) := [L0 l0]
def c : Code := Tryz.f183.body.getD .skip
theorem eq (k : Nat) (x) : (s k).pf x = execF tab (E k) Tryz.f183 c (s k) (L (l0 k)) x := by kernel_rfl
theorem r0 (l0 : T0) (k : Nat) (x) : (L0 (l0_ k l0)).l x = roundOf tab (E k) (L l0) c (fin tab Tryz.f183 (s k)) 0 (L0 l0) x := by kernel_rfl
theorem sound : ∀ k, Sound Tryz.prog 183 (s k) := snd S (fun k => (s k).pf) E (fun k => (EntsOK.cons (U133.sound k) EntsOK.nil)) (fun k => L (l0 k)) (fun k => ⟨⟨(L0 (l0 (k + 1))).l, rfl, fun x => r0 (l0 k) k x⟩, trivial⟩) eq
end U134
namespace U135
abbrev R := (((Bool × Unit) × Unit) × Unit)
def f (k : Nat) (a0 : List Int) (a1 : tFuncD) (a2 : Int) (a3 : Int) (a4 : Int) : Option R := Option.bind (U134.f k a0 a1 a2 a3 a4) fun r1 => some (((decide (0 ≤ r1.1.1.1), ()), ()), ())
abbrev S : ShapeParts := ⟨[⟨false, [.lst (.int .i64)]⟩, ⟨false, [.fn 165 [(0, 0), (1, 0), (2, 0), (3, 0)]]⟩], [(0, .cbox [.lst (.int .i64), .int .i64, .lst tBlock]), (1, .cbox [.int .i64]), (2, .cbox [.int .i64]), (3, .cbox [.int .i64])], false, [⟨false, [.bool]⟩], [], []⟩
def s (k : Nat) : FS := S.fs fun x => f k x.1.1.1 x.2.1 x.2.2.1.1 x.2.2.2.1.1 x.2.2.2.2.1.1
def E (k : Nat) : Ents := [(⟨183, [165]⟩, U134.s k)]
def L : List (LS R) := []
def c : Code := Tryz.f148.body.getD .skip
theorem eq (k : Nat) (x) : (s k).pf x = execF tab (E k) Tryz.f148 c (s k) L x := by kernel_rfl
theorem sound : ∀ k, Sound Tryz.prog 148 (s k) := snd S (fun k => (s k).pf) E (fun k => (EntsOK.cons (U134.sound k) EntsOK.nil)) (fun k => L) (fun k => trivial) eq
end U135
namespace U136
abbrev R := (((Bool × Unit) × Unit) × Unit)
abbrev T0 : Type := (List Bool) → (List tPhiD) → Int → Int → tFuncD → Int → tBlockD → (List Int) → Option R
abbrev T1 : Type := (List Bool) → (List tPhiD) → Int → Int → (List Int) → Int → Int → tFuncD → Int → tBlockD → (List Int) → Option R
abbrev T2 : Type := (List tInstD) → Int → Int → tFuncD → Int → tBlockD → Int → Option R
def l0_ (k : Nat) (l0 : T0) (l1 : T1) (l2 : T2) (a0 : List Bool) (a1 : List tPhiD) (a2 : Int) (a3 : Int) (a4 : tFuncD) (a5 : Int) (a6 : tBlockD) (a7 : List Int) : Option R := bif decide (a3 < a2) then (bif (decide (0 ≤ a3)) && (decide (a3 < ((List.length a1 : Nat) : Int))) then (l1 a0 a1 a2 a3 ((List.getD a1 (Int.toNat a3) tPhiZ).2.1) ((List.length ((List.getD a1 (Int.toNat a3) tPhiZ).2.1) : Nat) : Int) 0 a4 a5 a6 a7) else none) else (Option.bind (U130.f k a4 a5) fun r1 => l2 a6.2.1 ((List.length a6.2.1 : Nat) : Int) 0 a4 a5 a6 (IntKind.wrap .i64 (r1.1.1.1 + ((List.length a6.1 : Nat) : Int))))
def l1_ (k : Nat) (l0 : T0) (l1 : T1) (l2 : T2) (a0 : List Bool) (a1 : List tPhiD) (a2 : Int) (a3 : Int) (a4 : List Int) (a5 : Int) (a6 : Int) (a7 : tFuncD) (a8 : Int) (a9 : tBlockD) (a10 : List Int) : Option R := bif decide (a6 < a5) then (bif (decide (0 ≤ a6)) && (decide (a6 < ((List.length a4 : Nat) : Int))) then (bif (decide (0 ≤ a6)) && (decide (a6 < ((List.length a10 : Nat) : Int))) then (bif (decide (0 ≤ List.getD a10 (Int.toNat a6) 0)) && (decide (List.getD a10 (Int.toNat a6) 0 < ((List.length a0 : Nat) : Int))) then (bif List.getD a0 (Int.toNat (List.getD a10 (Int.toNat a6) 0)) false then (bif (decide (0 ≤ a6)) && (decide (a6 < ((List.length a10 : Nat) : Int))) then (Option.bind (U70.f k a7) fun r1 => Option.bind (U132.f k a7 (List.getD a4 (Int.toNat a6) 0) (List.getD a10 (Int.toNat a6) 0) r1.1.1.1) fun r2 => bif !r2.1.1.1 then (some (((false, ()), ()), ())) else (l1 a0 a1 a2 a3 a4 a5 (IntKind.wrap .i64 (a6 + 1)) a7 a8 a9 a10)) else none) else (l1 a0 a1 a2 a3 a4 a5 (IntKind.wrap .i64 (a6 + 1)) a7 a8 a9 a10)) else none) else none) else none) else (l0 a0 a1 a2 (IntKind.wrap .i64 (a3 + 1)) a7 a8 a9 a10)
def l2_ (k : Nat) (l0 : T0) (l1 : T1) (l2 : T2) (a0 : List tInstD) (a1 : Int) (a2 : Int) (a3 : tFuncD) (a4 : Int) (a5 : tBlockD) (a6 : Int) : Option R := bif decide (a2 < a1) then (bif (decide (0 ≤ a2)) && (decide (a2 < ((List.length a0 : Nat) : Int))) then (Option.bind (U79.f k (List.getD a0 (Int.toNat a2) tInstZ)) fun r1 => Option.bind (U135.f k r1.2.1 a3 a4 a6 a2) fun r2 => bif r2.1.1.1 then (some (((false, ()), ()), ())) else (l2 a0 a1 (IntKind.wrap .i64 (a2 + 1)) a3 a4 a5 a6)) else none) else (bif decide (a5.2.2.1 = 1) then (Option.bind (U70.f k a3) fun r3 => Option.bind (U132.f k a3 a5.2.2.2.1 a4 r3.1.1.1) fun r4 => some (((r4.1.1.1, ()), ()), ())) else (bif !(decide (a5.2.2.1 = 3)) then (some (((true, ()), ()), ())) else (Option.bind (U70.f k a3) fun r5 => Option.bind (U132.f k a3 a5.2.2.2.1 a4 r5.1.1.1) fun r6 => some (((r6.1.1.1, ()), ()), ()))))
def all : Nat → (T0) × (T1) × (T2) × Unit
 | 0 => (fun _ _ _ _ _ _ _ _ => none, fun _ _ _ _ _ _ _ _ _ _ _ => none, fun _ _ _ _ _ _ _ => none, ())
 | k + 1 => (l0_ k (all k).1 (all k).2.1 (all k).2.2.1, l1_ k (all k).1 (all k).2.1 (all k).2.2.1, l2_ k (all k).1 (all k).2.1 (all k).2.2.1, ())
def l0 (k : Nat) : T0 := (all k).1
def l1 (k : Nat) : T1 := (all k).2.1
def l2 (k : Nat) : T2 := (all k).2.2.1
def f (k : Nat) (a0 : tFuncD) (a1 : Int) (a2 : List Bool) : Option R := bif (decide (0 ≤ a1)) && (decide (a1 < ((List.length a0.2.2.1 : Nat) : Int))) then (Option.bind (U104.f k a0 a1) fun r1 => l0 k a2 ((List.getD a0.2.2.1 (Int.toNat a1) tBlockZ).1) ((List.length ((List.getD a0.2.2.1 (Int.toNat a1) tBlockZ).1) : Nat) : Int) 0 a0 a1 (List.getD a0.2.2.1 (Int.toNat a1) tBlockZ) r1.2.1) else none
abbrev S : ShapeParts := ⟨[⟨true, [.lst (.int .i64), .int .i64, .lst tBlock]⟩, ⟨false, [.int .i64]⟩, ⟨false, [.lst .bool]⟩], [], false, [⟨false, [.bool]⟩], [], []⟩
def s (k : Nat) : FS := S.fs fun x => f k x.1.1 x.1.2.1.1 x.1.2.2.1.1
def E (k : Nat) : Ents := [(⟨156, []⟩, U104.s k), (⟨115, []⟩, U130.s k), (⟨111, []⟩, U70.s k), (⟨163, []⟩, U132.s k), (⟨164, []⟩, U79.s k), (⟨148, [165]⟩, U135.s k)]
def L0 (l : T0) : LS R := ⟨[], [(2, ⟨false, [.lst .bool]⟩), (3, ⟨false, [.ptr 100000 0]⟩), (4, ⟨false, [.ptr 100001 0]⟩), (7, ⟨false, [.ptr 100002 0]⟩), (8, ⟨false, [.own 100003]⟩), (26, ⟨false, [.lst tPhi]⟩), (27, ⟨false, [.int .i64]⟩), (28, ⟨false, [.int .i64]⟩)], [(100000, .box [.lst (.int .i64), .int .i64, .lst tBlock]), (100001, .box [.int .i64]), (100002, .box [.lst tPhi, .lst tInst, .int .i64, .int .i64, .int .i64, .int .i64]), (100003, .row true (.int .i64))], fun x => l x.1.1.1 x.1.2.2.2.2.2.1.1 x.1.2.2.2.2.2.2.1.1 x.1.2.2.2.2.2.2.2.1.1 x.2.1 x.2.2.1.1 x.2.2.2.1 x.2.2.2.2.1⟩
def L1 (l : T1) : LS R := ⟨[], [(2, ⟨false, [.lst .bool]⟩), (3, ⟨false, [.ptr 100000 0]⟩), (4, ⟨false, [.ptr 100001 0]⟩), (7, ⟨false, [.ptr 100002 0]⟩), (8, ⟨false, [.own 100003]⟩), (26, ⟨false, [.lst tPhi]⟩), (27, ⟨false, [.int .i64]⟩), (28, ⟨false, [.int .i64]⟩), (33, ⟨false, [.lst (.int .i64)]⟩), (34, ⟨false, [.int .i64]⟩), (35, ⟨false, [.int .i64]⟩)], [(100000, .box [.lst (.int .i64), .int .i64, .lst tBlock]), (100001, .box [.int .i64]), (100002, .box [.lst tPhi, .lst tInst, .int .i64, .int .i64, .int .i64, .int .i64]), (100003, .row true (.int .i64))], fun x => l x.1.1.1 x.1.2.2.2.2.2.1.1 x.1.2.2.2.2.2.2.1.1 x.1.2.2.2.2.2.2.2.1.1 x.1.2.2.2.2.2.2.2.2.1.1 x.1.2.2.2.2.2.2.2.2.2.1.1 x.1.2.2.2.2.2.2.2.2.2.2.1.1 x.2.1 x.2.2.1.1 x.2.2.2.1 x.2.2.2.2.1⟩
def L2 (l : T2) : LS R := ⟨[], [(3, ⟨false, [.ptr 100000 0]⟩), (4, ⟨false, [.ptr 100001 0]⟩), (7, ⟨false, [.ptr 100002 0]⟩), (13, ⟨false, [.ptr 100003 0]⟩), (69, ⟨false, [.lst tInst]⟩), (70, ⟨false, [.int .i64]⟩), (71, ⟨false, [.int .i64]⟩)], [(100000, .box [.lst (.int .i64), .int .i64, .lst tBlock]), (100001, .box [.int .i64]), (100002, .box [.lst tPhi, .lst tInst, .int .i64, .int .i64, .int .i64, .int .i64]), (100003, .box [.int .i64])], fun x => l x.1.2.2.2.2.1.1 x.1.2.2.2.2.2.1.1 x.1.2.2.2.2.2.2.1.1 x.2.1 x.2.2.1.1 x.2.2.2.1 x.2.2.2.2.1.1⟩
def L (l0 : T0) (l1 : T1) (l2 : T2) : List (LS R) := [L0 l0, L1 l1, L2 l2]
def c : Code := Tryz.f95.body.getD .skip
theorem eq (k : Nat) (x) : (s k).pf x = execF tab (E k) Tryz.f95 c (s k) (L (l0 k) (l1 k) (l2 k)) x := by kernel_rfl
theorem r0 (l0 : T0) (l1 : T1) (l2 : T2) (k : Nat) (x) : (L0 (l0_ k l0 l1 l2)).l x = roundOf tab (E k) (L l0 l1 l2) c (fin tab Tryz.f95 (s k)) 0 (L0 l0) x := by kernel_rfl
theorem r1 (l0 : T0) (l1 : T1) (l2 : T2) (k : Nat) (x) : (L1 (l1_ k l0 l1 l2)).l x = roundOf tab (E k) (L l0 l1 l2) c (fin tab Tryz.f95 (s k)) 1 (L1 l1) x := by kernel_rfl
theorem r2 (l0 : T0) (l1 : T1) (l2 : T2) (k : Nat) (x) : (L2 (l2_ k l0 l1 l2)).l x = roundOf tab (E k) (L l0 l1 l2) c (fin tab Tryz.f95 (s k)) 2 (L2 l2) x := by kernel_rfl
theorem sound : ∀ k, Sound Tryz.prog 95 (s k) := snd S (fun k => (s k).pf) E (fun k => (EntsOK.cons (U104.sound k) (EntsOK.cons (U130.sound k) (EntsOK.cons (U70.sound k) (EntsOK.cons (U132.sound k) (EntsOK.cons (U79.sound k) (EntsOK.cons (U135.sound k) EntsOK.nil))))))) (fun k => L (l0 k) (l1 k) (l2 k)) (fun k => ⟨⟨(L0 (l0 (k + 1))).l, rfl, fun x => r0 (l0 k) (l1 k) (l2 k) k x⟩, ⟨(L1 (l1 (k + 1))).l, rfl, fun x => r1 (l0 k) (l1 k) (l2 k) k x⟩, ⟨(L2 (l2 (k + 1))).l, rfl, fun x => r2 (l0 k) (l1 k) (l2 k) k x⟩, trivial⟩) eq
end U136
namespace U137
abbrev R := (((Int × Unit) × Unit) × Unit)
abbrev T0 : Type := (List tBlockD) → Int → Int → (List tFuncD) → tFuncD → Option R
abbrev T1 : Type := Int → Int → tFuncD → (List Bool) → Option R
def l0_ (k : Nat) (l0 : T0) (l1 : T1) (a0 : List tBlockD) (a1 : Int) (a2 : Int) (a3 : List tFuncD) (a4 : tFuncD) : Option R := bif decide (a2 < a1) then (bif (decide (0 ≤ a2)) && (decide (a2 < ((List.length a0 : Nat) : Int))) then (Option.bind (U128.f k ((List.getD a0 (Int.toNat a2) tBlockZ).2.1) a3 a4) fun r1 => bif r1.1.1.1 then (some (((5, ()), ()), ())) else (l0 a0 a1 (IntKind.wrap .i64 (a2 + 1)) a3 a4)) else none) else (Option.bind (U129.f k a4 (-1)) fun r2 => l1 ((List.length r2.2.1 : Nat) : Int) 0 a4 r2.2.1)
def l1_ (k : Nat) (l0 : T0) (l1 : T1) (a0 : Int) (a1 : Int) (a2 : tFuncD) (a3 : List Bool) : Option R := bif decide (a1 < a0) then (bif (decide (0 ≤ a1)) && (decide (a1 < ((List.length a3 : Nat) : Int))) then (bif List.getD a3 (Int.toNat a1) false then (Option.bind (U136.f k a2 a1 a3) fun r1 => bif !r1.1.1.1 then (some (((6, ()), ()), ())) else (l1 a0 (IntKind.wrap .i64 (a1 + 1)) a2 a3)) else (l1 a0 (IntKind.wrap .i64 (a1 + 1)) a2 a3)) else none) else (some (((0, ()), ()), ()))
def all : Nat → (T0) × (T1) × Unit
 | 0 => (fun _ _ _ _ _ => none, fun _ _ _ _ => none, ())
 | k + 1 => (l0_ k (all k).1 (all k).2.1, l1_ k (all k).1 (all k).2.1, ())
def l0 (k : Nat) : T0 := (all k).1
def l1 (k : Nat) : T1 := (all k).2.1
def f (k : Nat) (a0 : tModuleD) (a1 : tFuncD) : Option R := Option.bind (U105.f k a1) fun r1 => bif !r1.1.1.1 then (some (((2, ()), ()), ())) else (Option.bind (U109.f k a1) fun r2 => bif !r2.1.1.1 then (some (((3, ()), ()), ())) else (Option.bind (U124.f k a1) fun r3 => bif !r3.1.1.1 then (some (((4, ()), ()), ())) else (l0 k a1.2.2.1 ((List.length a1.2.2.1 : Nat) : Int) 0 a0.1 a1)))
abbrev S : ShapeParts := ⟨[⟨true, [.lst tFunc]⟩, ⟨true, [.lst (.int .i64), .int .i64, .lst tBlock]⟩], [], false, [⟨false, [.int .i64]⟩], [], []⟩
def s (k : Nat) : FS := S.fs fun x => f k x.1.1 x.1.2.1
def E (k : Nat) : Ents := [(⟨88, []⟩, U105.s k), (⟨89, []⟩, U109.s k), (⟨90, []⟩, U124.s k), (⟨91, [92]⟩, U128.s k), (⟨94, []⟩, U129.s k), (⟨95, []⟩, U136.s k)]
def L0 (l : T0) : LS R := ⟨[], [(2, ⟨false, [.ptr 100000 0]⟩), (3, ⟨false, [.ptr 100001 0]⟩), (23, ⟨false, [.lst tBlock]⟩), (24, ⟨false, [.int .i64]⟩), (25, ⟨false, [.int .i64]⟩)], [(100000, .box [.lst tFunc]), (100001, .box [.lst (.int .i64), .int .i64, .lst tBlock])], fun x => l x.1.2.2.1.1 x.1.2.2.2.1.1 x.1.2.2.2.2.1.1 x.2.1.1 x.2.2.1⟩
def L1 (l : T1) : LS R := ⟨[], [(3, ⟨false, [.ptr 100000 0]⟩), (7, ⟨false, [.own 100001]⟩), (36, ⟨false, [.own 100001]⟩), (37, ⟨false, [.int .i64]⟩), (38, ⟨false, [.int .i64]⟩)], [(100000, .box [.lst (.int .i64), .int .i64, .lst tBlock]), (100001, .row true .bool)], fun x => l x.1.2.2.2.1.1 x.1.2.2.2.2.1.1 x.2.1 x.2.2.1⟩
def L (l0 : T0) (l1 : T1) : List (LS R) := [L0 l0, L1 l1]
def c : Code := Tryz.f42.body.getD .skip
theorem eq (k : Nat) (x) : (s k).pf x = execF tab (E k) Tryz.f42 c (s k) (L (l0 k) (l1 k)) x := by kernel_rfl
theorem r0 (l0 : T0) (l1 : T1) (k : Nat) (x) : (L0 (l0_ k l0 l1)).l x = roundOf tab (E k) (L l0 l1) c (fin tab Tryz.f42 (s k)) 0 (L0 l0) x := by kernel_rfl
theorem r1 (l0 : T0) (l1 : T1) (k : Nat) (x) : (L1 (l1_ k l0 l1)).l x = roundOf tab (E k) (L l0 l1) c (fin tab Tryz.f42 (s k)) 1 (L1 l1) x := by kernel_rfl
theorem sound : ∀ k, Sound Tryz.prog 42 (s k) := snd S (fun k => (s k).pf) E (fun k => (EntsOK.cons (U105.sound k) (EntsOK.cons (U109.sound k) (EntsOK.cons (U124.sound k) (EntsOK.cons (U128.sound k) (EntsOK.cons (U129.sound k) (EntsOK.cons (U136.sound k) EntsOK.nil))))))) (fun k => L (l0 k) (l1 k)) (fun k => ⟨⟨(L0 (l0 (k + 1))).l, rfl, fun x => r0 (l0 k) (l1 k) k x⟩, ⟨(L1 (l1 (k + 1))).l, rfl, fun x => r1 (l0 k) (l1 k) k x⟩, trivial⟩) eq
end U137
namespace U138
abbrev R := (((Int × Unit) × Unit) × Unit)
abbrev T0 : Type := (List tFuncD) → Int → Int → (List tFuncD) → Option R
def l0_ (k : Nat) (l0 : T0) (a0 : List tFuncD) (a1 : Int) (a2 : Int) (a3 : List tFuncD) : Option R := bif decide (a2 < a1) then (bif (decide (0 ≤ a2)) && (decide (a2 < ((List.length a0 : Nat) : Int))) then (Option.bind (U137.f k (a3, ()) (List.getD a0 (Int.toNat a2) tFuncZ)) fun r1 => bif !decide (r1.1.1.1 = 0) then (some (((r1.1.1.1, ()), ()), ())) else (l0 a0 a1 (IntKind.wrap .i64 (a2 + 1)) a3)) else none) else (some (((0, ()), ()), ()))
def all : Nat → (T0) × Unit
 | 0 => (fun _ _ _ _ => none, ())
 | k + 1 => (l0_ k (all k).1, ())
def l0 (k : Nat) : T0 := (all k).1
def f (k : Nat) (a0 : tModuleD) : Option R := Option.bind (U100.f k (a0.1, ())) fun r1 => bif !r1.1.1.1 then (some (((1, ()), ()), ())) else (l0 k a0.1 ((List.length a0.1 : Nat) : Int) 0 a0.1)
abbrev S : ShapeParts := ⟨[⟨true, [.lst tFunc]⟩], [], false, [⟨false, [.int .i64]⟩], [], []⟩
def s (k : Nat) : FS := S.fs fun x => f k x.1.1
def E (k : Nat) : Ents := [(⟨40, []⟩, U100.s k), (⟨42, []⟩, U137.s k)]
def L0 (l : T0) : LS R := ⟨[], [(1, ⟨false, [.ptr 100000 0]⟩), (10, ⟨false, [.lst tFunc]⟩), (11, ⟨false, [.int .i64]⟩), (12, ⟨false, [.int .i64]⟩)], [(100000, .box [.lst tFunc])], fun x => l x.1.2.1.1 x.1.2.2.1.1 x.1.2.2.2.1.1 x.2.1.1⟩
def L (l0 : T0) : List (LS R) := [L0 l0]
def c : Code := Tryz.f20.body.getD .skip
theorem eq (k : Nat) (x) : (s k).pf x = execF tab (E k) Tryz.f20 c (s k) (L (l0 k)) x := by kernel_rfl
theorem r0 (l0 : T0) (k : Nat) (x) : (L0 (l0_ k l0)).l x = roundOf tab (E k) (L l0) c (fin tab Tryz.f20 (s k)) 0 (L0 l0) x := by kernel_rfl
theorem sound : ∀ k, Sound Tryz.prog 20 (s k) := snd S (fun k => (s k).pf) E (fun k => (EntsOK.cons (U100.sound k) (EntsOK.cons (U137.sound k) EntsOK.nil))) (fun k => L (l0 k)) (fun k => ⟨⟨(L0 (l0 (k + 1))).l, rfl, fun x => r0 (l0 k) k x⟩, trivial⟩) eq
end U138
namespace U139
abbrev R := (((Bool × Unit) × Unit) × Unit)
def f (k : Nat) (a0 : tModuleD) : Option R := Option.bind (U138.f k (a0.1, ())) fun r1 => some (((decide (r1.1.1.1 = 0), ()), ()), ())
abbrev S : ShapeParts := ⟨[⟨true, [.lst tFunc]⟩], [], false, [⟨false, [.bool]⟩], [], []⟩
def s (k : Nat) : FS := S.fs fun x => f k x.1.1
def E (k : Nat) : Ents := [(⟨20, []⟩, U138.s k)]
def L : List (LS R) := []
def c : Code := Tryz.f110.body.getD .skip
theorem eq (k : Nat) (x) : (s k).pf x = execF tab (E k) Tryz.f110 c (s k) L x := by kernel_rfl
theorem sound : ∀ k, Sound Tryz.prog 110 (s k) := snd S (fun k => (s k).pf) E (fun k => (EntsOK.cons (U138.sound k) EntsOK.nil)) (fun k => L) (fun k => trivial) eq
end U139
namespace U140
abbrev R := (((Int × Int × Int × Int × Int × Int × Unit × Unit) × Unit) × ((List Int) × Unit))
def f (k : Nat) (a0 : tInstD) : Option R := Option.bind (slices_Clone_int64_int64.f k a0.2.2.2.2.2.2.1) fun r1 => some (((a0.1, a0.2.1, a0.2.2.1, a0.2.2.2.1, a0.2.2.2.2.1, a0.2.2.2.2.2.1, (), ()), ()), (r1.2.1, ()))
abbrev S : ShapeParts := ⟨[⟨true, [.int .i64, .int .i64, .int .i64, .int .i64, .int .i64, .int .i64, .lst (.int .i64)]⟩], [], false, [⟨true, [.int .i64, .int .i64, .int .i64, .int .i64, .int .i64, .int .i64, .own 100]⟩], [(100, .row true (.int .i64))], []⟩
def s (k : Nat) : FS := S.fs fun x => f k x.1.1
def E (k : Nat) : Ents := [(⟨166, []⟩, slices_Clone_int64_int64.s k)]
def L : List (LS R) := []
def c : Code := Tryz.f168.body.getD .skip
theorem eq (k : Nat) (x) : (s k).pf x = execF tab (E k) Tryz.f168 c (s k) L x := by kernel_rfl
theorem sound : ∀ k, Sound Tryz.prog 168 (s k) := snd S (fun k => (s k).pf) E (fun k => (EntsOK.cons (slices_Clone_int64_int64.sound k) EntsOK.nil)) (fun k => L) (fun k => trivial) eq
end U140
namespace U141
abbrev R := (((Unit × Unit × Int × Int × Int × Int × Unit) × Unit) × ((List tPhiD) × (List tInstD) × Unit))
abbrev T0 : Type := (List tPhiD) → Int → Int → tBlockD → Int → Int → Int → Int → (List tPhiD) → (List tInstD) → Int → Int → Int → Int → (List tPhiD) → (List tInstD) → Option R
abbrev T1 : Type := (List tInstD) → Int → Int → Int → Int → Int → Int → (List tPhiD) → (List tInstD) → Int → Int → Int → Int → (List tPhiD) → (List tInstD) → Option R
def l0_ (k : Nat) (l0 : T0) (l1 : T1) (a0 : List tPhiD) (a1 : Int) (a2 : Int) (a3 : tBlockD) (a4 : Int) (a5 : Int) (a6 : Int) (a7 : Int) (a8 : List tPhiD) (a9 : List tInstD) (a10 : Int) (a11 : Int) (a12 : Int) (a13 : Int) (a14 : List tPhiD) (a15 : List tInstD) : Option R := bif decide (a2 < a1) then (bif (decide (0 ≤ a2)) && (decide (a2 < ((List.length a0 : Nat) : Int))) then (Option.bind (slices_Clone_int64_int64.f k ((List.getD a0 (Int.toNat a2) tPhiZ).2.1)) fun r1 => bif decide ((List.length a14 + List.length [(((List.getD a0 (Int.toNat a2) tPhiZ).1, r1.2.1, ()) : tPhiD)]) * 32 ≤ 140737488355328) then (l0 a0 a1 (IntKind.wrap .i64 (a2 + 1)) a3 a4 a5 a6 a7 a8 a9 a10 a11 a12 a13 (a14 ++ [(((List.getD a0 (Int.toNat a2) tPhiZ).1, r1.2.1, ()) : tPhiD)]) a15) else none) else none) else (l1 a3.2.1 ((List.length a3.2.1 : Nat) : Int) 0 a4 a5 a6 a7 a8 a9 a10 a11 a12 a13 a14 a15)
def l1_ (k : Nat) (l0 : T0) (l1 : T1) (a0 : List tInstD) (a1 : Int) (a2 : Int) (a3 : Int) (a4 : Int) (a5 : Int) (a6 : Int) (a7 : List tPhiD) (a8 : List tInstD) (a9 : Int) (a10 : Int) (a11 : Int) (a12 : Int) (a13 : List tPhiD) (a14 : List tInstD) : Option R := bif decide (a2 < a1) then (bif (decide (0 ≤ a2)) && (decide (a2 < ((List.length a0 : Nat) : Int))) then (Option.bind (U140.f k (List.getD a0 (Int.toNat a2) tInstZ)) fun r1 => bif decide ((List.length a14 + List.length [((r1.1.1.1, r1.1.1.2.1, r1.1.1.2.2.1, r1.1.1.2.2.2.1, r1.1.1.2.2.2.2.1, r1.1.1.2.2.2.2.2.1, r1.2.1, ()) : tInstD)]) * 72 ≤ 140737488355328) then (l1 a0 a1 (IntKind.wrap .i64 (a2 + 1)) a3 a4 a5 a6 a7 a8 a9 a10 a11 a12 a13 (a14 ++ [((r1.1.1.1, r1.1.1.2.1, r1.1.1.2.2.1, r1.1.1.2.2.2.1, r1.1.1.2.2.2.2.1, r1.1.1.2.2.2.2.2.1, r1.2.1, ()) : tInstD)])) else none) else none) else (some ((((), (), a9, a10, a11, a12, ()), ()), (a13, a14, ())))
def all : Nat → (T0) × (T1) × Unit
 | 0 => (fun _ _ _ _ _ _ _ _ _ _ _ _ _ _ _ _ => none, fun _ _ _ _ _ _ _ _ _ _ _ _ _ _ _ => none, ())
 | k + 1 => (l0_ k (all k).1 (all k).2.1, l1_ k (all k).1 (all k).2.1, ())
def l0 (k : Nat) : T0 := (all k).1
def l1 (k : Nat) : T1 := (all k).2.1
def f (k : Nat) (a0 : tBlockD) : Option R := l0 k a0.1 ((List.length a0.1 : Nat) : Int) 0 a0 0 0 0 0 ([] : List tPhiD) ([] : List tInstD) a0.2.2.1 a0.2.2.2.1 a0.2.2.2.2.1 a0.2.2.2.2.2.1 ([] : List tPhiD) ([] : List tInstD)
abbrev S : ShapeParts := ⟨[⟨true, [.lst tPhi, .lst tInst, .int .i64, .int .i64, .int .i64, .int .i64]⟩], [], false, [⟨true, [.own 100, .own 101, .int .i64, .int .i64, .int .i64, .int .i64]⟩], [(100, .row true tPhi), (101, .row true tInst)], []⟩
def s (k : Nat) : FS := S.fs fun x => f k x.1.1
def E (k : Nat) : Ents := [(⟨166, []⟩, slices_Clone_int64_int64.s k), (⟨168, []⟩, U140.s k)]
def L0 (l : T0) : LS R := ⟨[], [(1, ⟨false, [.ptr 100000 0]⟩), (2, ⟨false, [.ptr 100001 0]⟩), (3, ⟨false, [.ptr 100004 0]⟩), (12, ⟨false, [.lst tPhi]⟩), (13, ⟨false, [.int .i64]⟩), (14, ⟨false, [.int .i64]⟩)], [(100000, .box [.lst tPhi, .lst tInst, .int .i64, .int .i64, .int .i64, .int .i64]), (100001, .box [.own 100002, .own 100003, .int .i64, .int .i64, .int .i64, .int .i64]), (100002, .row true tPhi), (100003, .row true tInst), (100004, .box [.own 100005, .own 100006, .int .i64, .int .i64, .int .i64, .int .i64]), (100005, .row true tPhi), (100006, .row true tInst)], fun x => l x.1.2.2.2.1.1 x.1.2.2.2.2.1.1 x.1.2.2.2.2.2.1.1 x.2.1 x.2.2.1.2.2.1 x.2.2.1.2.2.2.1 x.2.2.1.2.2.2.2.1 x.2.2.1.2.2.2.2.2.1 x.2.2.2.1 x.2.2.2.2.1 x.2.2.2.2.2.1.2.2.1 x.2.2.2.2.2.1.2.2.2.1 x.2.2.2.2.2.1.2.2.2.2.1 x.2.2.2.2.2.1.2.2.2.2.2.1 x.2.2.2.2.2.2.1 x.2.2.2.2.2.2.2.1⟩
def L1 (l : T1) : LS R := ⟨[], [(2, ⟨false, [.ptr 100000 0]⟩), (3, ⟨false, [.ptr 100003 0]⟩), (31, ⟨false, [.lst tInst]⟩), (32, ⟨false, [.int .i64]⟩), (33, ⟨false, [.int .i64]⟩)], [(100000, .box [.own 100001, .own 100002, .int .i64, .int .i64, .int .i64, .int .i64]), (100001, .row true tPhi), (100002, .row true tInst), (100003, .box [.own 100004, .own 100005, .int .i64, .int .i64, .int .i64, .int .i64]), (100004, .row true tPhi), (100005, .row true tInst)], fun x => l x.1.2.2.1.1 x.1.2.2.2.1.1 x.1.2.2.2.2.1.1 x.2.1.2.2.1 x.2.1.2.2.2.1 x.2.1.2.2.2.2.1 x.2.1.2.2.2.2.2.1 x.2.2.1 x.2.2.2.1 x.2.2.2.2.1.2.2.1 x.2.2.2.2.1.2.2.2.1 x.2.2.2.2.1.2.2.2.2.1 x.2.2.2.2.1.2.2.2.2.2.1 x.2.2.2.2.2.1 x.2.2.2.2.2.2.1⟩
def L (l0 : T0) (l1 : T1) : List (LS R) := [L0 l0, L1 l1]
def c : Code := Tryz.f167.body.getD .skip
theorem eq (k : Nat) (x) : (s k).pf x = execF tab (E k) Tryz.f167 c (s k) (L (l0 k) (l1 k)) x := by kernel_rfl
theorem r0 (l0 : T0) (l1 : T1) (k : Nat) (x) : (L0 (l0_ k l0 l1)).l x = roundOf tab (E k) (L l0 l1) c (fin tab Tryz.f167 (s k)) 0 (L0 l0) x := by kernel_rfl
theorem r1 (l0 : T0) (l1 : T1) (k : Nat) (x) : (L1 (l1_ k l0 l1)).l x = roundOf tab (E k) (L l0 l1) c (fin tab Tryz.f167 (s k)) 1 (L1 l1) x := by kernel_rfl
theorem sound : ∀ k, Sound Tryz.prog 167 (s k) := snd S (fun k => (s k).pf) E (fun k => (EntsOK.cons (slices_Clone_int64_int64.sound k) (EntsOK.cons (U140.sound k) EntsOK.nil))) (fun k => L (l0 k) (l1 k)) (fun k => ⟨⟨(L0 (l0 (k + 1))).l, rfl, fun x => r0 (l0 k) (l1 k) k x⟩, ⟨(L1 (l1 (k + 1))).l, rfl, fun x => r1 (l0 k) (l1 k) k x⟩, trivial⟩) eq
end U141
namespace U142
abbrev R := (((Unit × Int × Unit × Unit) × Unit) × ((List Int) × (List tBlockD) × Unit))
abbrev T0 : Type := (List tBlockD) → Int → Int → Int → (List Int) → (List tBlockD) → Int → (List Int) → (List tBlockD) → Option R
def l0_ (k : Nat) (l0 : T0) (a0 : List tBlockD) (a1 : Int) (a2 : Int) (a3 : Int) (a4 : List Int) (a5 : List tBlockD) (a6 : Int) (a7 : List Int) (a8 : List tBlockD) : Option R := bif decide (a2 < a1) then (bif (decide (0 ≤ a2)) && (decide (a2 < ((List.length a0 : Nat) : Int))) then (Option.bind (U141.f k (List.getD a0 (Int.toNat a2) tBlockZ)) fun r1 => bif decide ((List.length a8 + List.length [((r1.2.1, r1.2.2.1, r1.1.1.2.2.1, r1.1.1.2.2.2.1, r1.1.1.2.2.2.2.1, r1.1.1.2.2.2.2.2.1, ()) : tBlockD)]) * 80 ≤ 140737488355328) then (l0 a0 a1 (IntKind.wrap .i64 (a2 + 1)) a3 a4 a5 a6 a7 (a8 ++ [((r1.2.1, r1.2.2.1, r1.1.1.2.2.1, r1.1.1.2.2.2.1, r1.1.1.2.2.2.2.1, r1.1.1.2.2.2.2.2.1, ()) : tBlockD)])) else none) else none) else (some ((((), a6, (), ()), ()), (a7, a8, ())))
def all : Nat → (T0) × Unit
 | 0 => (fun _ _ _ _ _ _ _ _ _ => none, ())
 | k + 1 => (l0_ k (all k).1, ())
def l0 (k : Nat) : T0 := (all k).1
def f (k : Nat) (a0 : tFuncD) : Option R := Option.bind (slices_Clone_int64_int64.f k a0.1) fun r1 => l0 k a0.2.2.1 ((List.length a0.2.2.1 : Nat) : Int) 0 0 ([] : List Int) ([] : List tBlockD) a0.2.1 r1.2.1 ([] : List tBlockD)
abbrev S : ShapeParts := ⟨[⟨true, [.lst (.int .i64), .int .i64, .lst tBlock]⟩], [], false, [⟨true, [.own 100, .int .i64, .own 101]⟩], [(100, .row true (.int .i64)), (101, .row true tBlock)], []⟩
def s (k : Nat) : FS := S.fs fun x => f k x.1.1
def E (k : Nat) : Ents := [(⟨166, []⟩, slices_Clone_int64_int64.s k), (⟨167, []⟩, U141.s k)]
def L0 (l : T0) : LS R := ⟨[], [(2, ⟨false, [.ptr 100000 0]⟩), (3, ⟨false, [.ptr 100003 0]⟩), (13, ⟨false, [.lst tBlock]⟩), (14, ⟨false, [.int .i64]⟩), (15, ⟨false, [.int .i64]⟩)], [(100000, .box [.own 100001, .int .i64, .own 100002]), (100001, .row true (.int .i64)), (100002, .row true tBlock), (100003, .box [.own 100004, .int .i64, .own 100005]), (100004, .row true (.int .i64)), (100005, .row true tBlock)], fun x => l x.1.2.2.1.1 x.1.2.2.2.1.1 x.1.2.2.2.2.1.1 x.2.1.2.1 x.2.2.1 x.2.2.2.1 x.2.2.2.2.1.2.1 x.2.2.2.2.2.1 x.2.2.2.2.2.2.1⟩
def L (l0 : T0) : List (LS R) := [L0 l0]
def c : Code := Tryz.f99.body.getD .skip
theorem eq (k : Nat) (x) : (s k).pf x = execF tab (E k) Tryz.f99 c (s k) (L (l0 k)) x := by kernel_rfl
theorem r0 (l0 : T0) (k : Nat) (x) : (L0 (l0_ k l0)).l x = roundOf tab (E k) (L l0) c (fin tab Tryz.f99 (s k)) 0 (L0 l0) x := by kernel_rfl
theorem sound : ∀ k, Sound Tryz.prog 99 (s k) := snd S (fun k => (s k).pf) E (fun k => (EntsOK.cons (slices_Clone_int64_int64.sound k) (EntsOK.cons (U141.sound k) EntsOK.nil))) (fun k => L (l0 k)) (fun k => ⟨⟨(L0 (l0 (k + 1))).l, rfl, fun x => r0 (l0 k) k x⟩, trivial⟩) eq
end U142
namespace U143
abbrev R := (((Bool × Unit) × Unit) × Unit)
def f (k : Nat) (a0 : Int) : Option R := Option.bind (U65.f k a0 4 7) fun r1 => some (((r1.1.1.1, ()), ()), ())
abbrev S : ShapeParts := ⟨[⟨false, [.int .i64]⟩], [], false, [⟨false, [.bool]⟩], [], []⟩
def s (k : Nat) : FS := S.fs fun x => f k x.1.1.1
def E (k : Nat) : Ents := [(⟨41, []⟩, U65.s k)]
def L : List (LS R) := []
def c : Code := Tryz.f171.body.getD .skip
theorem eq (k : Nat) (x) : (s k).pf x = execF tab (E k) Tryz.f171 c (s k) L x := by kernel_rfl
theorem sound : ∀ k, Sound Tryz.prog 171 (s k) := snd S (fun k => (s k).pf) E (fun k => (EntsOK.cons (U65.sound k) EntsOK.nil)) (fun k => L) (fun k => trivial) eq
end U143
namespace U144
abbrev R := (((Int × Unit) × (Bool × Unit) × Unit) × Unit)
def f (k : Nat) (a0 : tFuncD) (a1 : Int) : Option R := Option.bind (U112.f k a0 a1) fun r1 => bif !r1.1.2.1.1 then (some (((0, ()), (false, ()), ()), ())) else (bif !decide (r1.1.1.1 = 21) then (some (((0, ()), (false, ()), ()), ())) else (some (((r1.1.1.2.2.2.2.2.1, ()), (true, ()), ()), ())))
abbrev S : ShapeParts := ⟨[⟨true, [.lst (.int .i64), .int .i64, .lst tBlock]⟩, ⟨false, [.int .i64]⟩], [], true, [⟨false, [.int .i64]⟩, ⟨false, [.bool]⟩], [], []⟩
def s (k : Nat) : FS := S.fs fun x => f k x.1.1 x.1.2.1.1
def E (k : Nat) : Ents := [(⟨102, []⟩, U112.s k)]
def L : List (LS R) := []
def c : Code := Tryz.f70.body.getD .skip
theorem eq (k : Nat) (x) : (s k).pf x = execF tab (E k) Tryz.f70 c (s k) L x := by kernel_rfl
theorem sound : ∀ k, Sound Tryz.prog 70 (s k) := snd S (fun k => (s k).pf) E (fun k => (EntsOK.cons (U112.sound k) EntsOK.nil)) (fun k => L) (fun k => trivial) eq
end U144
namespace U145
abbrev R := (((Bool × Unit) × Unit) × Unit)
def f (k : Nat) (a0 : tFuncD) (a1 : tInstD) : Option R := Option.bind (U143.f k a1.1) fun r1 => bif r1.1.1.1 then (Option.bind (U144.f k a0 a1.2.2.2.1) fun r2 => bif !r2.1.2.1.1 then (some (((true, ()), ()), ())) else (some (((decide (r2.1.1.1 = 0), ()), ()), ()))) else (Option.bind (U65.f k a1.1 23 26) fun r3 => some (((r3.1.1.1, ()), ()), ()))
abbrev S : ShapeParts := ⟨[⟨true, [.lst (.int .i64), .int .i64, .lst tBlock]⟩, ⟨true, [.int .i64, .int .i64, .int .i64, .int .i64, .int .i64, .int .i64, .lst (.int .i64)]⟩], [], false, [⟨false, [.bool]⟩], [], []⟩
def s (k : Nat) : FS := S.fs fun x => f k x.1.1 x.1.2.1
def E (k : Nat) : Ents := [(⟨171, []⟩, U143.s k), (⟨70, []⟩, U144.s k), (⟨41, []⟩, U65.s k)]
def L : List (LS R) := []
def c : Code := Tryz.f112.body.getD .skip
theorem eq (k : Nat) (x) : (s k).pf x = execF tab (E k) Tryz.f112 c (s k) L x := by kernel_rfl
theorem sound : ∀ k, Sound Tryz.prog 112 (s k) := snd S (fun k => (s k).pf) E (fun k => (EntsOK.cons (U143.sound k) (EntsOK.cons (U144.sound k) (EntsOK.cons (U65.sound k) EntsOK.nil)))) (fun k => L) (fun k => trivial) eq
end U145
namespace U146
abbrev R := (((Unit × Unit) × Unit) × ((List Int) × Unit))
def f (k : Nat) (a0 : tTermD) : Option R := bif decide (a0.1 = 1) then (some ((((), ()), ()), ([a0.2.1], ()))) else (bif decide (a0.1 = 3) then (some ((((), ()), ()), ([a0.2.1], ()))) else (some ((((), ()), ()), (([] : List Int), ()))))
abbrev S : ShapeParts := ⟨[⟨true, [.int .i64, .int .i64, .int .i64, .int .i64]⟩], [], false, [⟨false, [.own 100]⟩], [(100, .row true (.int .i64))], []⟩
def s (k : Nat) : FS := S.fs fun x => f k x.1.1
def E (k : Nat) : Ents := []
def L : List (LS R) := []
def c : Code := Tryz.f113.body.getD .skip
theorem eq (k : Nat) (x) : (s k).pf x = execF tab (E k) Tryz.f113 c (s k) L x := by kernel_rfl
theorem sound : ∀ k, Sound Tryz.prog 113 (s k) := snd S (fun k => (s k).pf) E (fun k => EntsOK.nil) (fun k => L) (fun k => trivial) eq
end U146
namespace U147
abbrev R := ((((List Int) × Unit) × Unit) × Unit)
def f (k : Nat) (a0 : tFuncD) (a1 : Int) : Option R := Option.bind (U111.f k a0 a1) fun r1 => bif decide (r1.1.1.1 < 0) then (some (((([] : List Int), ()), ()), ())) else (bif (decide (0 ≤ r1.1.1.1)) && (decide (r1.1.1.1 < ((List.length a0.2.2.1 : Nat) : Int))) then (bif decide (r1.1.2.1.1 < ((List.length ((List.getD a0.2.2.1 (Int.toNat r1.1.1.1) tBlockZ).1) : Nat) : Int)) then (bif (decide (0 ≤ r1.1.1.1)) && (decide (r1.1.1.1 < ((List.length a0.2.2.1 : Nat) : Int))) then (bif (decide (0 ≤ r1.1.2.1.1)) && (decide (r1.1.2.1.1 < ((List.length ((List.getD a0.2.2.1 (Int.toNat r1.1.1.1) tBlockZ).1) : Nat) : Int))) then (some ((((List.getD ((List.getD a0.2.2.1 (Int.toNat r1.1.1.1) tBlockZ).1) (Int.toNat r1.1.2.1.1) tPhiZ).2.1, ()), ()), ())) else none) else none) else (Option.bind (U112.f k a0 a1) fun r2 => Option.bind (U79.f k r2.1.1) fun r3 => some (((r3.2.1, ()), ()), ()))) else none)
abbrev S : ShapeParts := ⟨[⟨true, [.lst (.int .i64), .int .i64, .lst tBlock]⟩, ⟨false, [.int .i64]⟩], [], false, [⟨false, [.lst (.int .i64)]⟩], [], []⟩
def s (k : Nat) : FS := S.fs fun x => f k x.1.1 x.1.2.1.1
def E (k : Nat) : Ents := [(⟨137, []⟩, U111.s k), (⟨102, []⟩, U112.s k), (⟨164, []⟩, U79.s k)]
def L : List (LS R) := []
def c : Code := Tryz.f114.body.getD .skip
theorem eq (k : Nat) (x) : (s k).pf x = execF tab (E k) Tryz.f114 c (s k) L x := by kernel_rfl
theorem sound : ∀ k, Sound Tryz.prog 114 (s k) := snd S (fun k => (s k).pf) E (fun k => (EntsOK.cons (U111.sound k) (EntsOK.cons (U112.sound k) (EntsOK.cons (U79.sound k) EntsOK.nil)))) (fun k => L) (fun k => trivial) eq
end U147
namespace U148
abbrev R := (((Unit × Unit) × Unit) × ((List Bool) × Unit))
abbrev T0 : Type := Int → Int → tFuncD → (List Bool) → (List Int) → Option R
abbrev T1 : Type := (List tBlockD) → Int → Int → tFuncD → (List Bool) → (List Int) → Option R
abbrev T2 : Type := tFuncD → (List Bool) → (List Int) → Option R
def l0_ (k : Nat) (l0 : T0) (l1 : T1) (l2 : T2) (a0 : Int) (a1 : Int) (a2 : tFuncD) (a3 : List Bool) (a4 : List Int) : Option R := bif decide (a1 < a0) then (Option.bind (U112.f k a2 a1) fun r1 => bif r1.1.2.1.1 then (Option.bind (U145.f k a2 r1.1.1) fun r2 => bif r2.1.1.1 then (bif decide ((List.length a4 + List.length [a1]) * 8 ≤ 140737488355328) then (l0 a0 (IntKind.wrap .i64 (a1 + 1)) a2 a3 (a4 ++ [a1])) else none) else (l0 a0 (IntKind.wrap .i64 (a1 + 1)) a2 a3 a4)) else (l0 a0 (IntKind.wrap .i64 (a1 + 1)) a2 a3 a4)) else (l1 a2.2.2.1 ((List.length a2.2.2.1 : Nat) : Int) 0 a2 a3 a4)
def l1_ (k : Nat) (l0 : T0) (l1 : T1) (l2 : T2) (a0 : List tBlockD) (a1 : Int) (a2 : Int) (a3 : tFuncD) (a4 : List Bool) (a5 : List Int) : Option R := bif decide (a2 < a1) then (bif (decide (0 ≤ a2)) && (decide (a2 < ((List.length a0 : Nat) : Int))) then (Option.bind (U146.f k ((List.getD a0 (Int.toNat a2) tBlockZ).2.2)) fun r1 => bif decide ((List.length a5 + List.length r1.2.1) * 8 ≤ 140737488355328) then (l1 a0 a1 (IntKind.wrap .i64 (a2 + 1)) a3 a4 (a5 ++ r1.2.1)) else none) else none) else (l2 a3 a4 a5)
def l2_ (k : Nat) (l0 : T0) (l1 : T1) (l2 : T2) (a0 : tFuncD) (a1 : List Bool) (a2 : List Int) : Option R := bif decide (0 < ((List.length a2 : Nat) : Int)) then (bif (decide (0 ≤ 0)) && (decide (0 < ((List.length a2 : Nat) : Int))) then (bif (decide (0 ≤ 1)) && (decide (1 ≤ ((List.length a2 : Nat) : Int))) then (bif (decide (0 ≤ List.getD a2 0 0)) && (decide (List.getD a2 0 0 < ((List.length a1 : Nat) : Int))) then (bif !(List.getD a1 (Int.toNat (List.getD a2 0 0)) false) then (bif (decide (0 ≤ List.getD a2 0 0)) && (decide (List.getD a2 0 0 < ((List.length a1 : Nat) : Int))) then (Option.bind (U147.f k a0 (List.getD a2 0 0)) fun r1 => bif decide ((List.length (List.drop 1 a2) + List.length r1.1.1.1) * 8 ≤ 140737488355328) then (l2 a0 (List.set a1 (Int.toNat (List.getD a2 0 0)) true) ((List.drop 1 a2) ++ r1.1.1.1)) else none) else none) else (l2 a0 a1 (List.drop 1 a2))) else none) else none) else none) else (some ((((), ()), ()), (a1, ())))
def all : Nat → (T0) × (T1) × (T2) × Unit
 | 0 => (fun _ _ _ _ _ => none, fun _ _ _ _ _ _ => none, fun _ _ _ => none, ())
 | k + 1 => (l0_ k (all k).1 (all k).2.1 (all k).2.2.1, l1_ k (all k).1 (all k).2.1 (all k).2.2.1, l2_ k (all k).1 (all k).2.1 (all k).2.2.1, ())
def l0 (k : Nat) : T0 := (all k).1
def l1 (k : Nat) : T1 := (all k).2.1
def l2 (k : Nat) : T2 := (all k).2.2.1
def f (k : Nat) (a0 : tFuncD) : Option R := Option.bind (U70.f k a0) fun r1 => bif (decide (r1.1.1.1 = r1.1.1.1)) && (decide (0 ≤ r1.1.1.1)) && (decide (r1.1.1.1 * 1 ≤ 281474976710656)) then (Option.bind (U70.f k a0) fun r2 => l0 k r2.1.1.1 0 a0 (List.replicate (Int.toNat r1.1.1.1) false) ([] : List Int)) else none
abbrev S : ShapeParts := ⟨[⟨true, [.lst (.int .i64), .int .i64, .lst tBlock]⟩], [], false, [⟨false, [.own 100]⟩], [(100, .row true .bool)], []⟩
def s (k : Nat) : FS := S.fs fun x => f k x.1.1
def E (k : Nat) : Ents := [(⟨111, []⟩, U70.s k), (⟨102, []⟩, U112.s k), (⟨112, []⟩, U145.s k), (⟨113, []⟩, U146.s k), (⟨114, []⟩, U147.s k)]
def L0 (l : T0) : LS R := ⟨[], [(1, ⟨false, [.ptr 100000 0]⟩), (3, ⟨false, [.own 100001]⟩), (4, ⟨false, [.own 100002]⟩), (16, ⟨false, [.int .i64]⟩), (17, ⟨false, [.int .i64]⟩)], [(100000, .box [.lst (.int .i64), .int .i64, .lst tBlock]), (100001, .row true .bool), (100002, .row true (.int .i64))], fun x => l x.1.2.2.2.1.1 x.1.2.2.2.2.1.1 x.2.1 x.2.2.1 x.2.2.2.1⟩
def L1 (l : T1) : LS R := ⟨[], [(1, ⟨false, [.ptr 100000 0]⟩), (3, ⟨false, [.own 100001]⟩), (4, ⟨false, [.own 100002]⟩), (38, ⟨false, [.lst tBlock]⟩), (39, ⟨false, [.int .i64]⟩), (40, ⟨false, [.int .i64]⟩)], [(100000, .box [.lst (.int .i64), .int .i64, .lst tBlock]), (100001, .row true .bool), (100002, .row true (.int .i64))], fun x => l x.1.2.2.2.1.1 x.1.2.2.2.2.1.1 x.1.2.2.2.2.2.1.1 x.2.1 x.2.2.1 x.2.2.2.1⟩
def L2 (l : T2) : LS R := ⟨[], [(1, ⟨false, [.ptr 100000 0]⟩), (3, ⟨false, [.own 100001]⟩), (4, ⟨false, [.own 100002]⟩)], [(100000, .box [.lst (.int .i64), .int .i64, .lst tBlock]), (100001, .row true .bool), (100002, .row true (.int .i64))], fun x => l x.2.1 x.2.2.1 x.2.2.2.1⟩
def L (l0 : T0) (l1 : T1) (l2 : T2) : List (LS R) := [L0 l0, L1 l1, L2 l2]
def c : Code := Tryz.f60.body.getD .skip
theorem eq (k : Nat) (x) : (s k).pf x = execF tab (E k) Tryz.f60 c (s k) (L (l0 k) (l1 k) (l2 k)) x := by kernel_rfl
theorem r0 (l0 : T0) (l1 : T1) (l2 : T2) (k : Nat) (x) : (L0 (l0_ k l0 l1 l2)).l x = roundOf tab (E k) (L l0 l1 l2) c (fin tab Tryz.f60 (s k)) 0 (L0 l0) x := by kernel_rfl
theorem r1 (l0 : T0) (l1 : T1) (l2 : T2) (k : Nat) (x) : (L1 (l1_ k l0 l1 l2)).l x = roundOf tab (E k) (L l0 l1 l2) c (fin tab Tryz.f60 (s k)) 1 (L1 l1) x := by kernel_rfl
theorem r2 (l0 : T0) (l1 : T1) (l2 : T2) (k : Nat) (x) : (L2 (l2_ k l0 l1 l2)).l x = roundOf tab (E k) (L l0 l1 l2) c (fin tab Tryz.f60 (s k)) 2 (L2 l2) x := by kernel_rfl
theorem sound : ∀ k, Sound Tryz.prog 60 (s k) := snd S (fun k => (s k).pf) E (fun k => (EntsOK.cons (U70.sound k) (EntsOK.cons (U112.sound k) (EntsOK.cons (U145.sound k) (EntsOK.cons (U146.sound k) (EntsOK.cons (U147.sound k) EntsOK.nil)))))) (fun k => L (l0 k) (l1 k) (l2 k)) (fun k => ⟨⟨(L0 (l0 (k + 1))).l, rfl, fun x => r0 (l0 k) (l1 k) (l2 k) k x⟩, ⟨(L1 (l1 (k + 1))).l, rfl, fun x => r1 (l0 k) (l1 k) (l2 k) k x⟩, ⟨(L2 (l2 (k + 1))).l, rfl, fun x => r2 (l0 k) (l1 k) (l2 k) k x⟩, trivial⟩) eq
end U148
namespace U149
abbrev R := (((Bool × Unit) × Unit) × Unit)
def f (k : Nat) (a0 : Int) (a1 : tFuncD) (a2 : List Bool) : Option R := bif decide (((List.length a1.1 : Nat) : Int) ≤ a0) then (bif (decide (0 ≤ a0)) && (decide (a0 < ((List.length a2 : Nat) : Int))) then (some (((!(List.getD a2 (Int.toNat a0) false), ()), ()), ())) else none) else (some (((false, ()), ()), ()))
abbrev S : ShapeParts := ⟨[⟨false, [.int .i64]⟩, ⟨false, [.ptr 0 0]⟩, ⟨false, [.ptr 1 0]⟩], [(0, .cbox [.lst (.int .i64), .int .i64, .lst tBlock]), (1, .cbox [.lst .bool])], false, [⟨false, [.bool]⟩], [], []⟩
def s (k : Nat) : FS := S.fs fun x => f k x.1.1.1 x.2.1 x.2.2.1.1
def E (k : Nat) : Ents := []
def L : List (LS R) := []
def c : Code := Tryz.f62.body.getD .skip
theorem eq (k : Nat) (x) : (s k).pf x = execF tab (E k) Tryz.f62 c (s k) L x := by kernel_rfl
theorem sound : ∀ k, Sound Tryz.prog 62 (s k) := snd S (fun k => (s k).pf) E (fun k => EntsOK.nil) (fun k => L) (fun k => trivial) eq
end U149
namespace U150
abbrev R := (((Int × Unit) × Unit) × Unit)
def f (k : Nat) (a0 : Int) (a1 : List Int) : Option R := bif (decide (0 ≤ a0)) && (decide (a0 < ((List.length a1 : Nat) : Int))) then (some (((List.getD a1 (Int.toNat a0) 0, ()), ()), ())) else none
abbrev S : ShapeParts := ⟨[⟨false, [.int .i64]⟩, ⟨false, [.ptr 0 0]⟩], [(0, .cbox [.lst (.int .i64)])], false, [⟨false, [.int .i64]⟩], [], []⟩
def s (k : Nat) : FS := S.fs fun x => f k x.1.1.1 x.2.1.1
def E (k : Nat) : Ents := []
def L : List (LS R) := []
def c : Code := Tryz.f116.body.getD .skip
theorem eq (k : Nat) (x) : (s k).pf x = execF tab (E k) Tryz.f116 c (s k) L x := by kernel_rfl
theorem sound : ∀ k, Sound Tryz.prog 116 (s k) := snd S (fun k => (s k).pf) E (fun k => EntsOK.nil) (fun k => L) (fun k => trivial) eq
end U150
namespace U151
abbrev R := (((Int × Int × Int × Int × Unit) × Unit) × Unit)
def f (k : Nat) (a0 : tTermD) (a1 : List Int) : Option R := Option.bind (U146.f k a0) fun r1 => bif decide (0 < ((List.length r1.2.1 : Nat) : Int)) then (Option.bind (U150.f k a0.2.1 a1) fun r2 => some (((a0.1, r2.1.1.1, a0.2.2.1, a0.2.2.2.1, ()), ()), ())) else (some ((a0, ()), ()))
abbrev S : ShapeParts := ⟨[⟨true, [.int .i64, .int .i64, .int .i64, .int .i64]⟩, ⟨false, [.fn 116 [(0, 0)]]⟩], [(0, .cbox [.lst (.int .i64)])], false, [⟨true, [.int .i64, .int .i64, .int .i64, .int .i64]⟩], [], []⟩
def s (k : Nat) : FS := S.fs fun x => f k x.1.1 x.2.1.1
def E (k : Nat) : Ents := [(⟨113, []⟩, U146.s k), (⟨116, []⟩, U150.s k)]
def L : List (LS R) := []
def c : Code := Tryz.f101.body.getD .skip
theorem eq (k : Nat) (x) : (s k).pf x = execF tab (E k) Tryz.f101 c (s k) L x := by kernel_rfl
theorem sound : ∀ k, Sound Tryz.prog 101 (s k) := snd S (fun k => (s k).pf) E (fun k => (EntsOK.cons (U146.sound k) (EntsOK.cons (U150.sound k) EntsOK.nil))) (fun k => L) (fun k => trivial) eq
end U151
namespace U152
abbrev R := (((Int × Int × Int × Int × Int × Int × Unit × Unit) × Unit) × ((List Int) × Unit))
abbrev T0 : Type := (List Int) → Int → Int → (List Int) → Int → Int → Int → Int → Int → Int → (List Int) → Int → Int → Int → Int → Int → Int → (List Int) → Option R
abbrev T1 : Type := Int → Int → (List Int) → Int → Int → Int → Int → Int → Int → (List Int) → Int → Int → Int → Int → Int → Int → (List Int) → (List Int) → Option R
def l0_ (k : Nat) (l0 : T0) (l1 : T1) (a0 : List Int) (a1 : Int) (a2 : Int) (a3 : List Int) (a4 : Int) (a5 : Int) (a6 : Int) (a7 : Int) (a8 : Int) (a9 : Int) (a10 : List Int) (a11 : Int) (a12 : Int) (a13 : Int) (a14 : Int) (a15 : Int) (a16 : Int) (a17 : List Int) : Option R := bif decide (a2 < a1) then (bif (decide (0 ≤ a2)) && (decide (a2 < ((List.length a0 : Nat) : Int))) then (Option.bind (U150.f k (List.getD a0 (Int.toNat a2) 0) a3) fun r1 => bif (decide (0 ≤ a2)) && (decide (a2 < ((List.length a17 : Nat) : Int))) then (l0 a0 a1 (IntKind.wrap .i64 (a2 + 1)) a3 a4 a5 a6 a7 a8 a9 a10 a11 a12 a13 a14 a15 a16 (List.set a17 (Int.toNat a2) r1.1.1.1)) else none) else none) else (some (((a11, a12, a13, a14, a15, a16, (), ()), ()), (a17, ())))
def l1_ (k : Nat) (l0 : T0) (l1 : T1) (a0 : Int) (a1 : Int) (a2 : List Int) (a3 : Int) (a4 : Int) (a5 : Int) (a6 : Int) (a7 : Int) (a8 : Int) (a9 : List Int) (a10 : Int) (a11 : Int) (a12 : Int) (a13 : Int) (a14 : Int) (a15 : Int) (a16 : List Int) (a17 : List Int) : Option R := bif decide (a1 < a0) then (bif (decide (0 ≤ a1)) && (decide (a1 < ((List.length a17 : Nat) : Int))) then (bif (decide (0 ≤ a1)) && (decide (a1 < ((3 : Nat) : Int))) then (bif decide (Int.toNat a1 = 0) then (Option.bind (U150.f k (List.getD a17 (Int.toNat a1) 0) a2) fun r1 => l1 a0 (IntKind.wrap .i64 (a1 + 1)) a2 a3 a4 a5 a6 a7 a8 a9 a10 a11 r1.1.1.1 a13 a14 a15 a16 a17) else (bif decide (Int.toNat a1 = 1) then (Option.bind (U150.f k (List.getD a17 (Int.toNat a1) 0) a2) fun r2 => l1 a0 (IntKind.wrap .i64 (a1 + 1)) a2 a3 a4 a5 a6 a7 a8 a9 a10 a11 a12 r2.1.1.1 a14 a15 a16 a17) else (bif decide (Int.toNat a1 = 2) then (Option.bind (U150.f k (List.getD a17 (Int.toNat a1) 0) a2) fun r3 => l1 a0 (IntKind.wrap .i64 (a1 + 1)) a2 a3 a4 a5 a6 a7 a8 a9 a10 a11 a12 a13 r3.1.1.1 a15 a16 a17) else none))) else none) else none) else (some (((a10, a11, a12, a13, a14, a15, (), ()), ()), (a16, ())))
def all : Nat → (T0) × (T1) × Unit
 | 0 => (fun _ _ _ _ _ _ _ _ _ _ _ _ _ _ _ _ _ _ => none, fun _ _ _ _ _ _ _ _ _ _ _ _ _ _ _ _ _ _ => none, ())
 | k + 1 => (l0_ k (all k).1 (all k).2.1, l1_ k (all k).1 (all k).2.1, ())
def l0 (k : Nat) : T0 := (all k).1
def l1 (k : Nat) : T1 := (all k).2.1
def f (k : Nat) (a0 : tInstD) (a1 : List Int) : Option R := Option.bind (U140.f k a0) fun r1 => bif decide (a0.1 = 26) then (l0 k a0.2.2.2.2.2.2.1 ((List.length a0.2.2.2.2.2.2.1 : Nat) : Int) 0 a1 0 0 0 0 0 0 ([] : List Int) r1.1.1.1 r1.1.1.2.1 r1.1.1.2.2.1 r1.1.1.2.2.2.1 r1.1.1.2.2.2.2.1 r1.1.1.2.2.2.2.2.1 r1.2.1) else (Option.bind (U79.f k a0) fun r2 => l1 k ((List.length r2.2.1 : Nat) : Int) 0 a1 0 0 0 0 0 0 ([] : List Int) r1.1.1.1 r1.1.1.2.1 r1.1.1.2.2.1 r1.1.1.2.2.2.1 r1.1.1.2.2.2.2.1 r1.1.1.2.2.2.2.2.1 r1.2.1 r2.2.1)
abbrev S : ShapeParts := ⟨[⟨true, [.int .i64, .int .i64, .int .i64, .int .i64, .int .i64, .int .i64, .lst (.int .i64)]⟩, ⟨false, [.fn 116 [(0, 0)]]⟩], [(0, .cbox [.lst (.int .i64)])], false, [⟨true, [.int .i64, .int .i64, .int .i64, .int .i64, .int .i64, .int .i64, .own 100]⟩], [(100, .row true (.int .i64))], []⟩
def s (k : Nat) : FS := S.fs fun x => f k x.1.1 x.2.1.1
def E (k : Nat) : Ents := [(⟨168, []⟩, U140.s k), (⟨164, []⟩, U79.s k), (⟨116, []⟩, U150.s k)]
def L0 (l : T0) : LS R := ⟨[], [(1, ⟨false, [.fn 116 [(0, 0)]]⟩), (4, ⟨false, [.ptr 100001 0]⟩), (5, ⟨false, [.ptr 100003 0]⟩), (17, ⟨false, [.lst (.int .i64)]⟩), (18, ⟨false, [.int .i64]⟩), (19, ⟨false, [.int .i64]⟩)], [(0, .cbox [.lst (.int .i64)]), (100001, .box [.int .i64, .int .i64, .int .i64, .int .i64, .int .i64, .int .i64, .own 100002]), (100002, .row true (.int .i64)), (100003, .box [.int .i64, .int .i64, .int .i64, .int .i64, .int .i64, .int .i64, .own 100004]), (100004, .row true (.int .i64))], fun x => l x.1.2.2.2.1.1 x.1.2.2.2.2.1.1 x.1.2.2.2.2.2.1.1 x.2.1.1 x.2.2.1.1 x.2.2.1.2.1 x.2.2.1.2.2.1 x.2.2.1.2.2.2.1 x.2.2.1.2.2.2.2.1 x.2.2.1.2.2.2.2.2.1 x.2.2.2.1 x.2.2.2.2.1.1 x.2.2.2.2.1.2.1 x.2.2.2.2.1.2.2.1 x.2.2.2.2.1.2.2.2.1 x.2.2.2.2.1.2.2.2.2.1 x.2.2.2.2.1.2.2.2.2.2.1 x.2.2.2.2.2.1⟩
def L1 (l : T1) : LS R := ⟨[], [(1, ⟨false, [.fn 116 [(0, 0)]]⟩), (4, ⟨false, [.ptr 100001 0]⟩), (5, ⟨false, [.ptr 100003 0]⟩), (8, ⟨false, [.prs [(100003, 2), (100003, 3), (100003, 4)]]⟩), (38, ⟨false, [.own 100005]⟩), (39, ⟨false, [.int .i64]⟩), (40, ⟨false, [.int .i64]⟩)], [(0, .cbox [.lst (.int .i64)]), (100001, .box [.int .i64, .int .i64, .int .i64, .int .i64, .int .i64, .int .i64, .own 100002]), (100002, .row true (.int .i64)), (100003, .box [.int .i64, .int .i64, .int .i64, .int .i64, .int .i64, .int .i64, .own 100004]), (100004, .row true (.int .i64)), (100005, .row true (.int .i64))], fun x => l x.1.2.2.2.2.2.1.1 x.1.2.2.2.2.2.2.1.1 x.2.1.1 x.2.2.1.1 x.2.2.1.2.1 x.2.2.1.2.2.1 x.2.2.1.2.2.2.1 x.2.2.1.2.2.2.2.1 x.2.2.1.2.2.2.2.2.1 x.2.2.2.1 x.2.2.2.2.1.1 x.2.2.2.2.1.2.1 x.2.2.2.2.1.2.2.1 x.2.2.2.2.1.2.2.2.1 x.2.2.2.2.1.2.2.2.2.1 x.2.2.2.2.1.2.2.2.2.2.1 x.2.2.2.2.2.1 x.2.2.2.2.2.2.1⟩
def L (l0 : T0) (l1 : T1) : List (LS R) := [L0 l0, L1 l1]
def c : Code := Tryz.f100.body.getD .skip
theorem eq (k : Nat) (x) : (s k).pf x = execF tab (E k) Tryz.f100 c (s k) (L (l0 k) (l1 k)) x := by kernel_rfl
theorem r0 (l0 : T0) (l1 : T1) (k : Nat) (x) : (L0 (l0_ k l0 l1)).l x = roundOf tab (E k) (L l0 l1) c (fin tab Tryz.f100 (s k)) 0 (L0 l0) x := by kernel_rfl
theorem r1 (l0 : T0) (l1 : T1) (k : Nat) (x) : (L1 (l1_ k l0 l1)).l x = roundOf tab (E k) (L l0 l1) c (fin tab Tryz.f100 (s k)) 1 (L1 l1) x := by kernel_rfl
theorem sound : ∀ k, Sound Tryz.prog 100 (s k) := snd S (fun k => (s k).pf) E (fun k => (EntsOK.cons (U140.sound k) (EntsOK.cons (U79.sound k) (EntsOK.cons (U150.sound k) EntsOK.nil)))) (fun k => L (l0 k) (l1 k)) (fun k => ⟨⟨(L0 (l0 (k + 1))).l, rfl, fun x => r0 (l0 k) (l1 k) k x⟩, ⟨(L1 (l1 (k + 1))).l, rfl, fun x => r1 (l0 k) (l1 k) k x⟩, trivial⟩) eq
end U152
namespace U153
abbrev R := (((Unit × Int × Unit × Unit) × Unit) × ((List Int) × (List tBlockD) × Unit))
abbrev T0 : Type := Int → Int → (List Int) → Int → (List Int) → (List tBlockD) → Int → (List Int) → (List tBlockD) → Option R
abbrev T1 : Type := Int → Int → Int → Int → (List Int) → Int → (List Int) → (List tBlockD) → Int → (List Int) → (List tBlockD) → Nat → Int → Int → Int → Int → (List tPhiD) → (List tInstD) → Int → Int → Int → Int → Option R
abbrev T2 : Type := Int → Int → Int → Int → Int → Int → (List Int) → Int → (List Int) → (List tBlockD) → Int → (List Int) → (List tBlockD) → Nat → Int → Int → Int → Int → (List tPhiD) → Nat → Int → (List Int) → (List tInstD) → Int → Int → Int → Int → Int → Option R
def l0_ (k : Nat) (l0 : T0) (l1 : T1) (l2 : T2) (l3 : T1) (l4 : T0) (a0 : Int) (a1 : Int) (a2 : List Int) (a3 : Int) (a4 : List Int) (a5 : List tBlockD) (a6 : Int) (a7 : List Int) (a8 : List tBlockD) : Option R := bif decide (a1 < a0) then (bif (decide (0 ≤ a1)) && (decide (a1 < ((List.length a8 : Nat) : Int))) then (bif (decide (0 ≤ a1)) && (decide (a1 < ((List.length a8 : Nat) : Int))) then (bif decide (Int.toNat a1 = Int.toNat a1) then (l1 a0 a1 ((List.length ((List.getD a8 (Int.toNat a1) tBlockZ).1) : Nat) : Int) 0 a2 a3 a4 a5 a6 a7 a8 (Int.toNat a1) ((List.getD a8 (Int.toNat a1) tBlockZ).2.2.1) ((List.getD a8 (Int.toNat a1) tBlockZ).2.2.2.1) ((List.getD a8 (Int.toNat a1) tBlockZ).2.2.2.2.1) ((List.getD a8 (Int.toNat a1) tBlockZ).2.2.2.2.2.1) ((List.getD a8 (Int.toNat a1) tBlockZ).1) ((List.getD a8 (Int.toNat a1) tBlockZ).2.1) ((List.getD a8 (Int.toNat a1) tBlockZ).2.2.1) ((List.getD a8 (Int.toNat a1) tBlockZ).2.2.2.1) ((List.getD a8 (Int.toNat a1) tBlockZ).2.2.2.2.1) ((List.getD a8 (Int.toNat a1) tBlockZ).2.2.2.2.2.1)) else none) else none) else none) else (l4 ((List.length a8 : Nat) : Int) 0 a2 a3 a4 a5 a6 a7 a8)
def l1_ (k : Nat) (l0 : T0) (l1 : T1) (l2 : T2) (l3 : T1) (l4 : T0) (a0 : Int) (a1 : Int) (a2 : Int) (a3 : Int) (a4 : List Int) (a5 : Int) (a6 : List Int) (a7 : List tBlockD) (a8 : Int) (a9 : List Int) (a10 : List tBlockD) (a11 : Nat) (a12 : Int) (a13 : Int) (a14 : Int) (a15 : Int) (a16 : List tPhiD) (a17 : List tInstD) (a18 : Int) (a19 : Int) (a20 : Int) (a21 : Int) : Option R := bif decide (a3 < a2) then (bif (decide (0 ≤ a3)) && (decide (a3 < ((List.length a16 : Nat) : Int))) then (bif (decide (0 ≤ a3)) && (decide (a3 < ((List.length a16 : Nat) : Int))) then (bif decide (Int.toNat a3 = Int.toNat a3) then (l2 a0 a1 a2 a3 ((List.length ((List.getD a16 (Int.toNat a3) tPhiZ).2.1) : Nat) : Int) 0 a4 a5 a6 a7 a8 a9 a10 a11 a12 a13 a14 a15 a16 (Int.toNat a3) ((List.getD a16 (Int.toNat a3) tPhiZ).1) ((List.getD a16 (Int.toNat a3) tPhiZ).2.1) a17 a18 a19 a20 a21 ((List.getD a16 (Int.toNat a3) tPhiZ).1)) else none) else none) else none) else (l3 a0 a1 ((List.length a17 : Nat) : Int) 0 a4 a5 a6 a7 a8 a9 a10 a11 a12 a13 a14 a15 a16 a17 a18 a19 a20 a21)
def l2_ (k : Nat) (l0 : T0) (l1 : T1) (l2 : T2) (l3 : T1) (l4 : T0) (a0 : Int) (a1 : Int) (a2 : Int) (a3 : Int) (a4 : Int) (a5 : Int) (a6 : List Int) (a7 : Int) (a8 : List Int) (a9 : List tBlockD) (a10 : Int) (a11 : List Int) (a12 : List tBlockD) (a13 : Nat) (a14 : Int) (a15 : Int) (a16 : Int) (a17 : Int) (a18 : List tPhiD) (a19 : Nat) (a20 : Int) (a21 : List Int) (a22 : List tInstD) (a23 : Int) (a24 : Int) (a25 : Int) (a26 : Int) (a27 : Int) : Option R := bif decide (a5 < a4) then (bif (decide (0 ≤ a5)) && (decide (a5 < ((List.length a21 : Nat) : Int))) then (Option.bind (U150.f k (List.getD a21 (Int.toNat a5) 0) a6) fun r1 => bif (decide (0 ≤ a5)) && (decide (a5 < ((List.length a21 : Nat) : Int))) then (l2 a0 a1 a2 a3 a4 (IntKind.wrap .i64 (a5 + 1)) a6 a7 a8 a9 a10 a11 a12 a13 a14 a15 a16 a17 a18 a19 a20 (List.set a21 (Int.toNat a5) r1.1.1.1) a22 a23 a24 a25 a26 a27) else none) else none) else (l1 a0 a1 a2 (IntKind.wrap .i64 (a3 + 1)) a6 a7 a8 a9 a10 a11 a12 a13 a14 a15 a16 a17 (List.set a18 a19 (a20, a21, ())) a22 a23 a24 a25 a26)
def l3_ (k : Nat) (l0 : T0) (l1 : T1) (l2 : T2) (l3 : T1) (l4 : T0) (a0 : Int) (a1 : Int) (a2 : Int) (a3 : Int) (a4 : List Int) (a5 : Int) (a6 : List Int) (a7 : List tBlockD) (a8 : Int) (a9 : List Int) (a10 : List tBlockD) (a11 : Nat) (a12 : Int) (a13 : Int) (a14 : Int) (a15 : Int) (a16 : List tPhiD) (a17 : List tInstD) (a18 : Int) (a19 : Int) (a20 : Int) (a21 : Int) : Option R := bif decide (a3 < a2) then (bif (decide (0 ≤ a3)) && (decide (a3 < ((List.length a17 : Nat) : Int))) then (bif (decide (0 ≤ a3)) && (decide (a3 < ((List.length a17 : Nat) : Int))) then (bif decide (Int.toNat a3 = Int.toNat a3) then (Option.bind (U152.f k (List.getD a17 (Int.toNat a3) tInstZ) a4) fun r1 => bif (decide (0 ≤ a3)) && (decide (a3 < ((List.length a17 : Nat) : Int))) then (bif decide (Int.toNat a3 = Int.toNat a3) then (l3 a0 a1 a2 (IntKind.wrap .i64 (a3 + 1)) a4 a5 a6 a7 a8 a9 a10 a11 a12 a13 a14 a15 a16 (List.set a17 (Int.toNat a3) (r1.1.1.1, r1.1.1.2.1, r1.1.1.2.2.1, r1.1.1.2.2.2.1, r1.1.1.2.2.2.2.1, r1.1.1.2.2.2.2.2.1, r1.2.1, ())) a18 a19 a20 a21) else none) else none) else none) else none) else none) else (l0 a0 (IntKind.wrap .i64 (a1 + 1)) a4 a5 a6 a7 a8 a9 (List.set a10 a11 (a16, a17, a12, a13, a14, a15, ())))
def l4_ (k : Nat) (l0 : T0) (l1 : T1) (l2 : T2) (l3 : T1) (l4 : T0) (a0 : Int) (a1 : Int) (a2 : List Int) (a3 : Int) (a4 : List Int) (a5 : List tBlockD) (a6 : Int) (a7 : List Int) (a8 : List tBlockD) : Option R := bif decide (a1 < a0) then (bif (decide (0 ≤ a1)) && (decide (a1 < ((List.length a8 : Nat) : Int))) then (bif (decide (0 ≤ a1)) && (decide (a1 < ((List.length a8 : Nat) : Int))) then (bif decide (Int.toNat a1 = Int.toNat a1) then (Option.bind (U151.f k ((List.getD a8 (Int.toNat a1) tBlockZ).2.2) a2) fun r1 => bif (decide (0 ≤ a1)) && (decide (a1 < ((List.length a8 : Nat) : Int))) then (bif decide (Int.toNat a1 = Int.toNat a1) then (l4 a0 (IntKind.wrap .i64 (a1 + 1)) a2 a3 a4 a5 a6 a7 (List.set a8 (Int.toNat a1) ((List.getD a8 (Int.toNat a1) tBlockZ).1, (List.getD a8 (Int.toNat a1) tBlockZ).2.1, r1.1.1.1, r1.1.1.2.1, r1.1.1.2.2.1, r1.1.1.2.2.2.1, ()))) else none) else none) else none) else none) else none) else (some ((((), a6, (), ()), ()), (a7, a8, ())))
def all : Nat → (T0) × (T1) × (T2) × (T1) × (T0) × Unit
 | 0 => (fun _ _ _ _ _ _ _ _ _ => none, fun _ _ _ _ _ _ _ _ _ _ _ _ _ _ _ _ _ _ _ _ _ _ => none, fun _ _ _ _ _ _ _ _ _ _ _ _ _ _ _ _ _ _ _ _ _ _ _ _ _ _ _ _ => none, fun _ _ _ _ _ _ _ _ _ _ _ _ _ _ _ _ _ _ _ _ _ _ => none, fun _ _ _ _ _ _ _ _ _ => none, ())
 | k + 1 => (l0_ k (all k).1 (all k).2.1 (all k).2.2.1 (all k).2.2.2.1 (all k).2.2.2.2.1, l1_ k (all k).1 (all k).2.1 (all k).2.2.1 (all k).2.2.2.1 (all k).2.2.2.2.1, l2_ k (all k).1 (all k).2.1 (all k).2.2.1 (all k).2.2.2.1 (all k).2.2.2.2.1, l3_ k (all k).1 (all k).2.1 (all k).2.2.1 (all k).2.2.2.1 (all k).2.2.2.2.1, l4_ k (all k).1 (all k).2.1 (all k).2.2.1 (all k).2.2.2.1 (all k).2.2.2.2.1, ())
def l0 (k : Nat) : T0 := (all k).1
def l1 (k : Nat) : T1 := (all k).2.1
def l2 (k : Nat) : T2 := (all k).2.2.1
def l3 (k : Nat) : T1 := (all k).2.2.2.1
def l4 (k : Nat) : T0 := (all k).2.2.2.2.1
def f (k : Nat) (a0 : tFuncD) (a1 : List Int) : Option R := Option.bind (U142.f k a0) fun r1 => l0 k ((List.length r1.2.2.1 : Nat) : Int) 0 a1 0 ([] : List Int) ([] : List tBlockD) r1.1.1.2.1 r1.2.1 r1.2.2.1
abbrev S : ShapeParts := ⟨[⟨true, [.lst (.int .i64), .int .i64, .lst tBlock]⟩, ⟨false, [.fn 116 [(0, 0)]]⟩], [(0, .cbox [.lst (.int .i64)])], false, [⟨true, [.own 100, .int .i64, .own 101]⟩], [(100, .row true (.int .i64)), (101, .row true tBlock)], []⟩
def s (k : Nat) : FS := S.fs fun x => f k x.1.1 x.2.1.1
def E (k : Nat) : Ents := [(⟨99, []⟩, U142.s k), (⟨101, [116]⟩, U151.s k), (⟨116, []⟩, U150.s k), (⟨100, [116]⟩, U152.s k), (⟨99, [999998, 4, 1, 100006, 20, 2000000]⟩, U142.s k), (⟨99, [999998, 7, 1, 100007, 27, 2000100]⟩, U142.s k), (⟨99, [999998, 23, 1, 100006, 14, 2000300]⟩, U142.s k), (⟨99, [999998, 24, 2, 100006]⟩, U142.s k), (⟨99, [999998, 13, 2, 100007]⟩, U142.s k), (⟨99, [999998, 16, 1, 100008, 51, 2000200]⟩, U142.s k), (⟨99, [999998, 18, 2, 100008]⟩, U142.s k), (⟨99, [999998, 19, 2, 100006]⟩, U142.s k)]
def L0 (l : T0) : LS R := ⟨[], [(1, ⟨false, [.fn 116 [(0, 0)]]⟩), (4, ⟨false, [.ptr 100001 0]⟩), (5, ⟨false, [.ptr 100004 0]⟩), (18, ⟨false, [.own 100006]⟩), (19, ⟨false, [.int .i64]⟩), (20, ⟨false, [.int .i64]⟩)], [(0, .cbox [.lst (.int .i64)]), (100001, .box [.own 100002, .int .i64, .own 100003]), (100002, .row true (.int .i64)), (100003, .row true tBlock), (100004, .box [.own 100005, .int .i64, .own 100006]), (100005, .row true (.int .i64)), (100006, .row true tBlock)], fun x => l x.1.2.2.2.2.1.1 x.1.2.2.2.2.2.1.1 x.2.1.1 x.2.2.1.2.1 x.2.2.2.1 x.2.2.2.2.1 x.2.2.2.2.2.1.2.1 x.2.2.2.2.2.2.1 x.2.2.2.2.2.2.2.1⟩
def L1 (l : T1) : LS R := ⟨[], [(1, ⟨false, [.fn 116 [(0, 0)]]⟩), (4, ⟨false, [.ptr 100001 0]⟩), (5, ⟨false, [.ptr 100004 0]⟩), (7, ⟨false, [.ptr 100009 0]⟩), (18, ⟨false, [.own 100006]⟩), (19, ⟨false, [.int .i64]⟩), (20, ⟨false, [.int .i64]⟩), (25, ⟨false, [.own 100007]⟩), (26, ⟨false, [.int .i64]⟩), (27, ⟨false, [.int .i64]⟩)], [(0, .cbox [.lst (.int .i64)]), (100001, .box [.own 100002, .int .i64, .own 100003]), (100002, .row true (.int .i64)), (100003, .row true tBlock), (100004, .box [.own 100005, .int .i64, .own 100006]), (100005, .row true (.int .i64)), (100006, .orow tBlock [.own 100007, .own 100008, .int .i64, .int .i64, .int .i64, .int .i64]), (100007, .row true tPhi), (100008, .row true tInst), (100009, .box [.own 100007, .own 100008, .int .i64, .int .i64, .int .i64, .int .i64])], fun x => l x.1.2.2.2.2.2.1.1 x.1.2.2.2.2.2.2.1.1 x.1.2.2.2.2.2.2.2.2.1.1 x.1.2.2.2.2.2.2.2.2.2.1.1 x.2.1.1 x.2.2.1.2.1 x.2.2.2.1 x.2.2.2.2.1 x.2.2.2.2.2.1.2.1 x.2.2.2.2.2.2.1 x.2.2.2.2.2.2.2.1.1.1 x.2.2.2.2.2.2.2.1.1.2 x.2.2.2.2.2.2.2.1.2.2.2.1 x.2.2.2.2.2.2.2.1.2.2.2.2.1 x.2.2.2.2.2.2.2.1.2.2.2.2.2.1 x.2.2.2.2.2.2.2.1.2.2.2.2.2.2.1 x.2.2.2.2.2.2.2.2.1 x.2.2.2.2.2.2.2.2.2.1 x.2.2.2.2.2.2.2.2.2.2.1.2.2.1 x.2.2.2.2.2.2.2.2.2.2.1.2.2.2.1 x.2.2.2.2.2.2.2.2.2.2.1.2.2.2.2.1 x.2.2.2.2.2.2.2.2.2.2.1.2.2.2.2.2.1⟩
def L2 (l : T2) : LS R := ⟨[], [(1, ⟨false, [.fn 116 [(0, 0)]]⟩), (4, ⟨false, [.ptr 100001 0]⟩), (5, ⟨false, [.ptr 100004 0]⟩), (7, ⟨false, [.ptr 100010 0]⟩), (9, ⟨false, [.ptr 100011 0]⟩), (18, ⟨false, [.own 100006]⟩), (19, ⟨false, [.int .i64]⟩), (20, ⟨false, [.int .i64]⟩), (25, ⟨false, [.own 100007]⟩), (26, ⟨false, [.int .i64]⟩), (27, ⟨false, [.int .i64]⟩), (32, ⟨false, [.own 100008]⟩), (33, ⟨false, [.int .i64]⟩), (34, ⟨false, [.int .i64]⟩)], [(0, .cbox [.lst (.int .i64)]), (100001, .box [.own 100002, .int .i64, .own 100003]), (100002, .row true (.int .i64)), (100003, .row true tBlock), (100004, .box [.own 100005, .int .i64, .own 100006]), (100005, .row true (.int .i64)), (100006, .orow tBlock [.own 100007, .own 100009, .int .i64, .int .i64, .int .i64, .int .i64]), (100007, .orow tPhi [.int .i64, .own 100008]), (100008, .row true (.int .i64)), (100009, .row true tInst), (100010, .box [.own 100007, .own 100009, .int .i64, .int .i64, .int .i64, .int .i64]), (100011, .box [.int .i64, .own 100008])], fun x => l x.1.2.2.2.2.2.2.1.1 x.1.2.2.2.2.2.2.2.1.1 x.1.2.2.2.2.2.2.2.2.2.1.1 x.1.2.2.2.2.2.2.2.2.2.2.1.1 x.1.2.2.2.2.2.2.2.2.2.2.2.2.1.1 x.1.2.2.2.2.2.2.2.2.2.2.2.2.2.1.1 x.2.1.1 x.2.2.1.2.1 x.2.2.2.1 x.2.2.2.2.1 x.2.2.2.2.2.1.2.1 x.2.2.2.2.2.2.1 x.2.2.2.2.2.2.2.1.1.1 x.2.2.2.2.2.2.2.1.1.2 x.2.2.2.2.2.2.2.1.2.2.2.1 x.2.2.2.2.2.2.2.1.2.2.2.2.1 x.2.2.2.2.2.2.2.1.2.2.2.2.2.1 x.2.2.2.2.2.2.2.1.2.2.2.2.2.2.1 x.2.2.2.2.2.2.2.2.1.1.1 x.2.2.2.2.2.2.2.2.1.1.2 x.2.2.2.2.2.2.2.2.1.2.1 x.2.2.2.2.2.2.2.2.2.1 x.2.2.2.2.2.2.2.2.2.2.1 x.2.2.2.2.2.2.2.2.2.2.2.1.2.2.1 x.2.2.2.2.2.2.2.2.2.2.2.1.2.2.2.1 x.2.2.2.2.2.2.2.2.2.2.2.1.2.2.2.2.1 x.2.2.2.2.2.2.2.2.2.2.2.1.2.2.2.2.2.1 x.2.2.2.2.2.2.2.2.2.2.2.2.1.1⟩
def L3 (l : T1) : LS R := ⟨[], [(1, ⟨false, [.fn 116 [(0, 0)]]⟩), (4, ⟨false, [.ptr 100001 0]⟩), (5, ⟨false, [.ptr 100004 0]⟩), (7, ⟨false, [.ptr 100009 0]⟩), (18, ⟨false, [.own 100006]⟩), (19, ⟨false, [.int .i64]⟩), (20, ⟨false, [.int .i64]⟩), (49, ⟨false, [.own 100008]⟩), (50, ⟨false, [.int .i64]⟩), (51, ⟨false, [.int .i64]⟩)], [(0, .cbox [.lst (.int .i64)]), (100001, .box [.own 100002, .int .i64, .own 100003]), (100002, .row true (.int .i64)), (100003, .row true tBlock), (100004, .box [.own 100005, .int .i64, .own 100006]), (100005, .row true (.int .i64)), (100006, .orow tBlock [.own 100007, .own 100008, .int .i64, .int .i64, .int .i64, .int .i64]), (100007, .row true tPhi), (100008, .row true tInst), (100009, .box [.own 100007, .own 100008, .int .i64, .int .i64, .int .i64, .int .i64])], fun x => l x.1.2.2.2.2.2.1.1 x.1.2.2.2.2.2.2.1.1 x.1.2.2.2.2.2.2.2.2.1.1 x.1.2.2.2.2.2.2.2.2.2.1.1 x.2.1.1 x.2.2.1.2.1 x.2.2.2.1 x.2.2.2.2.1 x.2.2.2.2.2.1.2.1 x.2.2.2.2.2.2.1 x.2.2.2.2.2.2.2.1.1.1 x.2.2.2.2.2.2.2.1.1.2 x.2.2.2.2.2.2.2.1.2.2.2.1 x.2.2.2.2.2.2.2.1.2.2.2.2.1 x.2.2.2.2.2.2.2.1.2.2.2.2.2.1 x.2.2.2.2.2.2.2.1.2.2.2.2.2.2.1 x.2.2.2.2.2.2.2.2.1 x.2.2.2.2.2.2.2.2.2.1 x.2.2.2.2.2.2.2.2.2.2.1.2.2.1 x.2.2.2.2.2.2.2.2.2.2.1.2.2.2.1 x.2.2.2.2.2.2.2.2.2.2.1.2.2.2.2.1 x.2.2.2.2.2.2.2.2.2.2.1.2.2.2.2.2.1⟩
def L4 (l : T0) : LS R := ⟨[], [(1, ⟨false, [.fn 116 [(0, 0)]]⟩), (4, ⟨false, [.ptr 100001 0]⟩), (5, ⟨false, [.ptr 100004 0]⟩), (67, ⟨false, [.int .i64]⟩), (68, ⟨false, [.int .i64]⟩)], [(0, .cbox [.lst (.int .i64)]), (100001, .box [.own 100002, .int .i64, .own 100003]), (100002, .row true (.int .i64)), (100003, .row true tBlock), (100004, .box [.own 100005, .int .i64, .own 100006]), (100005, .row true (.int .i64)), (100006, .row true tBlock)], fun x => l x.1.2.2.2.1.1 x.1.2.2.2.2.1.1 x.2.1.1 x.2.2.1.2.1 x.2.2.2.1 x.2.2.2.2.1 x.2.2.2.2.2.1.2.1 x.2.2.2.2.2.2.1 x.2.2.2.2.2.2.2.1⟩
def L (l0 : T0) (l1 : T1) (l2 : T2) (l3 : T1) (l4 : T0) : List (LS R) := [L0 l0, L1 l1, L2 l2, L3 l3, L4 l4]
def c : Code := Tryz.f46.body.getD .skip
theorem eq (k : Nat) (x) : (s k).pf x = execF tab (E k) Tryz.f46 c (s k) (L (l0 k) (l1 k) (l2 k) (l3 k) (l4 k)) x := by kernel_rfl
theorem r0 (l0 : T0) (l1 : T1) (l2 : T2) (l3 : T1) (l4 : T0) (k : Nat) (x) : (L0 (l0_ k l0 l1 l2 l3 l4)).l x = roundOf tab (E k) (L l0 l1 l2 l3 l4) c (fin tab Tryz.f46 (s k)) 0 (L0 l0) x := by kernel_rfl
theorem r1 (l0 : T0) (l1 : T1) (l2 : T2) (l3 : T1) (l4 : T0) (k : Nat) (x) : (L1 (l1_ k l0 l1 l2 l3 l4)).l x = roundOf tab (E k) (L l0 l1 l2 l3 l4) c (fin tab Tryz.f46 (s k)) 1 (L1 l1) x := by kernel_rfl
theorem r2 (l0 : T0) (l1 : T1) (l2 : T2) (l3 : T1) (l4 : T0) (k : Nat) (x) : (L2 (l2_ k l0 l1 l2 l3 l4)).l x = roundOf tab (E k) (L l0 l1 l2 l3 l4) c (fin tab Tryz.f46 (s k)) 2 (L2 l2) x := by kernel_rfl
theorem r3 (l0 : T0) (l1 : T1) (l2 : T2) (l3 : T1) (l4 : T0) (k : Nat) (x) : (L3 (l3_ k l0 l1 l2 l3 l4)).l x = roundOf tab (E k) (L l0 l1 l2 l3 l4) c (fin tab Tryz.f46 (s k)) 3 (L3 l3) x := by kernel_rfl
theorem r4 (l0 : T0) (l1 : T1) (l2 : T2) (l3 : T1) (l4 : T0) (k : Nat) (x) : (L4 (l4_ k l0 l1 l2 l3 l4)).l x = roundOf tab (E k) (L l0 l1 l2 l3 l4) c (fin tab Tryz.f46 (s k)) 4 (L4 l4) x := by kernel_rfl
theorem sound : ∀ k, Sound Tryz.prog 46 (s k) := snd S (fun k => (s k).pf) E (fun k => (EntsOK.cons (U142.sound k) (EntsOK.cons (U151.sound k) (EntsOK.cons (U150.sound k) (EntsOK.cons (U152.sound k) (EntsOK.cons (U142.sound k) (EntsOK.cons (U142.sound k) (EntsOK.cons (U142.sound k) (EntsOK.cons (U142.sound k) (EntsOK.cons (U142.sound k) (EntsOK.cons (U142.sound k) (EntsOK.cons (U142.sound k) (EntsOK.cons (U142.sound k) EntsOK.nil))))))))))))) (fun k => L (l0 k) (l1 k) (l2 k) (l3 k) (l4 k)) (fun k => ⟨⟨(L0 (l0 (k + 1))).l, rfl, fun x => r0 (l0 k) (l1 k) (l2 k) (l3 k) (l4 k) k x⟩, ⟨(L1 (l1 (k + 1))).l, rfl, fun x => r1 (l0 k) (l1 k) (l2 k) (l3 k) (l4 k) k x⟩, ⟨(L2 (l2 (k + 1))).l, rfl, fun x => r2 (l0 k) (l1 k) (l2 k) (l3 k) (l4 k) k x⟩, ⟨(L3 (l3 (k + 1))).l, rfl, fun x => r3 (l0 k) (l1 k) (l2 k) (l3 k) (l4 k) k x⟩, ⟨(L4 (l4 (k + 1))).l, rfl, fun x => r4 (l0 k) (l1 k) (l2 k) (l3 k) (l4 k) k x⟩, trivial⟩) eq
end U153
namespace U154
abbrev R := (((Unit × Int × Unit × Unit) × Unit) × ((List Int) × (List tBlockD) × Unit))
abbrev T0 : Type := Int → Int → Int → tFuncD → (List Bool) → tFuncD → Int → (List Int) → (List tBlockD) → (List Int) → Option R
abbrev T1 : Type := (List tBlockD) → Int → Int → tFuncD → (List Bool) → tFuncD → Int → (List Int) → (List tBlockD) → (List Int) → (List Int) → Int → (List tBlockD) → Option R
abbrev T2 : Type := Int → (List tBlockD) → Int → Int → (List tPhiD) → Int → Int → tFuncD → (List Bool) → tFuncD → Int → (List Int) → (List tBlockD) → (List Int) → (List Int) → Int → (List tBlockD) → tBlockD → Int → Int → Int → Int → (List tPhiD) → (List tInstD) → Option R
abbrev T3 : Type := Int → (List tBlockD) → Int → Int → (List tInstD) → Int → Int → tFuncD → (List Bool) → tFuncD → Int → (List Int) → (List tBlockD) → (List Int) → (List Int) → Int → (List tBlockD) → Int → Int → Int → Int → (List tPhiD) → (List tInstD) → Option R
def l0_ (k : Nat) (l0 : T0) (l1 : T1) (l2 : T2) (l3 : T3) (a0 : Int) (a1 : Int) (a2 : Int) (a3 : tFuncD) (a4 : List Bool) (a5 : tFuncD) (a6 : Int) (a7 : List Int) (a8 : List tBlockD) (a9 : List Int) : Option R := bif decide (a2 < a1) then (bif decide ((List.length a9 + List.length [a0]) * 8 ≤ 140737488355328) then (Option.bind (U149.f k a2 a3 a4) fun r1 => bif !r1.1.1.1 then (l0 (IntKind.wrap .i64 (a0 + 1)) a1 (IntKind.wrap .i64 (a2 + 1)) a3 a4 a5 a6 a7 a8 (a9 ++ [a0])) else (l0 a0 a1 (IntKind.wrap .i64 (a2 + 1)) a3 a4 a5 a6 a7 a8 (a9 ++ [a0]))) else none) else (l1 a5.2.2.1 ((List.length a5.2.2.1 : Nat) : Int) 0 a3 a4 a5 a6 a7 a8 a9 a5.1 a5.2.1 ([] : List tBlockD))
def l1_ (k : Nat) (l0 : T0) (l1 : T1) (l2 : T2) (l3 : T3) (a0 : List tBlockD) (a1 : Int) (a2 : Int) (a3 : tFuncD) (a4 : List Bool) (a5 : tFuncD) (a6 : Int) (a7 : List Int) (a8 : List tBlockD) (a9 : List Int) (a10 : List Int) (a11 : Int) (a12 : List tBlockD) : Option R := bif decide (a2 < a1) then (bif (decide (0 ≤ a2)) && (decide (a2 < ((List.length a0 : Nat) : Int))) then (Option.bind (U130.f k a5 a2) fun r1 => l2 r1.1.1.1 a0 a1 a2 ((List.getD a0 (Int.toNat a2) tBlockZ).1) ((List.length ((List.getD a0 (Int.toNat a2) tBlockZ).1) : Nat) : Int) 0 a3 a4 a5 a6 a7 a8 a9 a10 a11 a12 (List.getD a0 (Int.toNat a2) tBlockZ) ((List.getD a0 (Int.toNat a2) tBlockZ).2.2.1) ((List.getD a0 (Int.toNat a2) tBlockZ).2.2.2.1) ((List.getD a0 (Int.toNat a2) tBlockZ).2.2.2.2.1) ((List.getD a0 (Int.toNat a2) tBlockZ).2.2.2.2.2.1) ([] : List tPhiD) ([] : List tInstD)) else none) else (Option.bind (U153.f k (a10, a11, a12, ()) a9) fun r2 => some ((((), r2.1.1.2.1, (), ()), ()), (r2.2.1, r2.2.2.1, ())))
def l2_ (k : Nat) (l0 : T0) (l1 : T1) (l2 : T2) (l3 : T3) (a0 : Int) (a1 : List tBlockD) (a2 : Int) (a3 : Int) (a4 : List tPhiD) (a5 : Int) (a6 : Int) (a7 : tFuncD) (a8 : List Bool) (a9 : tFuncD) (a10 : Int) (a11 : List Int) (a12 : List tBlockD) (a13 : List Int) (a14 : List Int) (a15 : Int) (a16 : List tBlockD) (a17 : tBlockD) (a18 : Int) (a19 : Int) (a20 : Int) (a21 : Int) (a22 : List tPhiD) (a23 : List tInstD) : Option R := bif decide (a6 < a5) then (bif (decide (0 ≤ a6)) && (decide (a6 < ((List.length a4 : Nat) : Int))) then (Option.bind (U149.f k a0 a7 a8) fun r1 => bif !r1.1.1.1 then (bif decide ((List.length a22 + List.length [((List.getD a4 (Int.toNat a6) tPhiZ) : tPhiD)]) * 32 ≤ 140737488355328) then (l2 (IntKind.wrap .i64 (a0 + 1)) a1 a2 a3 a4 a5 (IntKind.wrap .i64 (a6 + 1)) a7 a8 a9 a10 a11 a12 a13 a14 a15 a16 a17 a18 a19 a20 a21 (a22 ++ [((List.getD a4 (Int.toNat a6) tPhiZ) : tPhiD)]) a23) else none) else (l2 (IntKind.wrap .i64 (a0 + 1)) a1 a2 a3 a4 a5 (IntKind.wrap .i64 (a6 + 1)) a7 a8 a9 a10 a11 a12 a13 a14 a15 a16 a17 a18 a19 a20 a21 a22 a23)) else none) else (l3 a0 a1 a2 a3 a17.2.1 ((List.length a17.2.1 : Nat) : Int) 0 a7 a8 a9 a10 a11 a12 a13 a14 a15 a16 a18 a19 a20 a21 a22 a23)
def l3_ (k : Nat) (l0 : T0) (l1 : T1) (l2 : T2) (l3 : T3) (a0 : Int) (a1 : List tBlockD) (a2 : Int) (a3 : Int) (a4 : List tInstD) (a5 : Int) (a6 : Int) (a7 : tFuncD) (a8 : List Bool) (a9 : tFuncD) (a10 : Int) (a11 : List Int) (a12 : List tBlockD) (a13 : List Int) (a14 : List Int) (a15 : Int) (a16 : List tBlockD) (a17 : Int) (a18 : Int) (a19 : Int) (a20 : Int) (a21 : List tPhiD) (a22 : List tInstD) : Option R := bif decide (a6 < a5) then (bif (decide (0 ≤ a6)) && (decide (a6 < ((List.length a4 : Nat) : Int))) then (Option.bind (U149.f k a0 a7 a8) fun r1 => bif !r1.1.1.1 then (bif decide ((List.length a22 + List.length [((List.getD a4 (Int.toNat a6) tInstZ) : tInstD)]) * 72 ≤ 140737488355328) then (l3 (IntKind.wrap .i64 (a0 + 1)) a1 a2 a3 a4 a5 (IntKind.wrap .i64 (a6 + 1)) a7 a8 a9 a10 a11 a12 a13 a14 a15 a16 a17 a18 a19 a20 a21 (a22 ++ [((List.getD a4 (Int.toNat a6) tInstZ) : tInstD)])) else none) else (l3 (IntKind.wrap .i64 (a0 + 1)) a1 a2 a3 a4 a5 (IntKind.wrap .i64 (a6 + 1)) a7 a8 a9 a10 a11 a12 a13 a14 a15 a16 a17 a18 a19 a20 a21 a22)) else none) else (bif decide ((List.length a16 + List.length [((a21, a22, a17, a18, a19, a20, ()) : tBlockD)]) * 80 ≤ 140737488355328) then (l1 a1 a2 (IntKind.wrap .i64 (a3 + 1)) a7 a8 a9 a10 a11 a12 a13 a14 a15 (a16 ++ [((a21, a22, a17, a18, a19, a20, ()) : tBlockD)])) else none)
def all : Nat → (T0) × (T1) × (T2) × (T3) × Unit
 | 0 => (fun _ _ _ _ _ _ _ _ _ _ => none, fun _ _ _ _ _ _ _ _ _ _ _ _ _ => none, fun _ _ _ _ _ _ _ _ _ _ _ _ _ _ _ _ _ _ _ _ _ _ _ _ => none, fun _ _ _ _ _ _ _ _ _ _ _ _ _ _ _ _ _ _ _ _ _ _ _ => none, ())
 | k + 1 => (l0_ k (all k).1 (all k).2.1 (all k).2.2.1 (all k).2.2.2.1, l1_ k (all k).1 (all k).2.1 (all k).2.2.1 (all k).2.2.2.1, l2_ k (all k).1 (all k).2.1 (all k).2.2.1 (all k).2.2.2.1, l3_ k (all k).1 (all k).2.1 (all k).2.2.1 (all k).2.2.2.1, ())
def l0 (k : Nat) : T0 := (all k).1
def l1 (k : Nat) : T1 := (all k).2.1
def l2 (k : Nat) : T2 := (all k).2.2.1
def l3 (k : Nat) : T3 := (all k).2.2.2.1
def f (k : Nat) (a0 : tFuncD) (a1 : tFuncD) (a2 : List Bool) : Option R := Option.bind (U70.f k a0) fun r1 => l0 k 0 r1.1.1.1 0 a1 a2 a0 0 ([] : List Int) ([] : List tBlockD) ([] : List Int)
abbrev S : ShapeParts := ⟨[⟨true, [.lst (.int .i64), .int .i64, .lst tBlock]⟩, ⟨false, [.fn 62 [(0, 0), (1, 0)]]⟩], [(0, .cbox [.lst (.int .i64), .int .i64, .lst tBlock]), (1, .cbox [.lst .bool])], false, [⟨true, [.own 100, .int .i64, .own 101]⟩], [(100, .row true (.int .i64)), (101, .row true tBlock)], []⟩
def s (k : Nat) : FS := S.fs fun x => f k x.1.1 x.2.1 x.2.2.1.1
def E (k : Nat) : Ents := [(⟨111, []⟩, U70.s k), (⟨62, []⟩, U149.s k), (⟨115, []⟩, U130.s k), (⟨46, [116]⟩, U153.s k)]
def L0 (l : T0) : LS R := ⟨[], [(1, ⟨false, [.fn 62 [(0, 0), (1, 0)]]⟩), (2, ⟨false, [.ptr 100002 0]⟩), (4, ⟨false, [.ptr 100003 0]⟩), (5, ⟨false, [.ptr 100006 0]⟩), (6, ⟨false, [.int .i64]⟩), (19, ⟨false, [.int .i64]⟩), (20, ⟨false, [.int .i64]⟩)], [(0, .cbox [.lst (.int .i64), .int .i64, .lst tBlock]), (1, .cbox [.lst .bool]), (100002, .box [.lst (.int .i64), .int .i64, .lst tBlock]), (100003, .box [.own 100004, .int .i64, .own 100005]), (100004, .row true (.int .i64)), (100005, .row true tBlock), (100006, .box [.own 100007]), (100007, .row true (.int .i64))], fun x => l x.1.2.2.2.2.1.1 x.1.2.2.2.2.2.1.1 x.1.2.2.2.2.2.2.1.1 x.2.1 x.2.2.1.1 x.2.2.2.1 x.2.2.2.2.1.2.1 x.2.2.2.2.2.1 x.2.2.2.2.2.2.1 x.2.2.2.2.2.2.2.2.1⟩
def L1 (l : T1) : LS R := ⟨[], [(1, ⟨false, [.fn 62 [(0, 0), (1, 0)]]⟩), (2, ⟨false, [.ptr 100002 0]⟩), (4, ⟨false, [.ptr 100003 0]⟩), (5, ⟨false, [.ptr 100006 0]⟩), (8, ⟨false, [.ptr 100008 0]⟩), (40, ⟨false, [.lst tBlock]⟩), (41, ⟨false, [.int .i64]⟩), (42, ⟨false, [.int .i64]⟩)], [(0, .cbox [.lst (.int .i64), .int .i64, .lst tBlock]), (1, .cbox [.lst .bool]), (100002, .box [.lst (.int .i64), .int .i64, .lst tBlock]), (100003, .box [.own 100004, .int .i64, .own 100005]), (100004, .row true (.int .i64)), (100005, .row true tBlock), (100006, .box [.own 100007]), (100007, .row true (.int .i64)), (100008, .box [.lst (.int .i64), .int .i64, .own 100009]), (100009, .row false tBlock)], fun x => l x.1.2.2.2.2.2.1.1 x.1.2.2.2.2.2.2.1.1 x.1.2.2.2.2.2.2.2.1.1 x.2.1 x.2.2.1.1 x.2.2.2.1 x.2.2.2.2.1.2.1 x.2.2.2.2.2.1 x.2.2.2.2.2.2.1 x.2.2.2.2.2.2.2.2.1 x.2.2.2.2.2.2.2.2.2.1.1 x.2.2.2.2.2.2.2.2.2.1.2.1 x.2.2.2.2.2.2.2.2.2.2.1⟩
def L2 (l : T2) : LS R := ⟨[], [(1, ⟨false, [.fn 62 [(0, 0), (1, 0)]]⟩), (2, ⟨false, [.ptr 100002 0]⟩), (4, ⟨false, [.ptr 100003 0]⟩), (5, ⟨false, [.ptr 100006 0]⟩), (8, ⟨false, [.ptr 100008 0]⟩), (10, ⟨false, [.ptr 100010 0]⟩), (11, ⟨false, [.int .i64]⟩), (12, ⟨false, [.ptr 100011 0]⟩), (40, ⟨false, [.lst tBlock]⟩), (41, ⟨false, [.int .i64]⟩), (42, ⟨false, [.int .i64]⟩), (54, ⟨false, [.lst tPhi]⟩), (55, ⟨false, [.int .i64]⟩), (56, ⟨false, [.int .i64]⟩)], [(0, .cbox [.lst (.int .i64), .int .i64, .lst tBlock]), (1, .cbox [.lst .bool]), (100002, .box [.lst (.int .i64), .int .i64, .lst tBlock]), (100003, .box [.own 100004, .int .i64, .own 100005]), (100004, .row true (.int .i64)), (100005, .row true tBlock), (100006, .box [.own 100007]), (100007, .row true (.int .i64)), (100008, .box [.lst (.int .i64), .int .i64, .own 100009]), (100009, .row false tBlock), (100010, .box [.lst tPhi, .lst tInst, .int .i64, .int .i64, .int .i64, .int .i64]), (100011, .box [.own 100012, .own 100013, .int .i64, .int .i64, .int .i64, .int .i64]), (100012, .row false tPhi), (100013, .row false tInst)], fun x => l x.1.2.2.2.2.2.2.1.1 x.1.2.2.2.2.2.2.2.2.1.1 x.1.2.2.2.2.2.2.2.2.2.1.1 x.1.2.2.2.2.2.2.2.2.2.2.1.1 x.1.2.2.2.2.2.2.2.2.2.2.2.1.1 x.1.2.2.2.2.2.2.2.2.2.2.2.2.1.1 x.1.2.2.2.2.2.2.2.2.2.2.2.2.2.1.1 x.2.1 x.2.2.1.1 x.2.2.2.1 x.2.2.2.2.1.2.1 x.2.2.2.2.2.1 x.2.2.2.2.2.2.1 x.2.2.2.2.2.2.2.2.1 x.2.2.2.2.2.2.2.2.2.1.1 x.2.2.2.2.2.2.2.2.2.1.2.1 x.2.2.2.2.2.2.2.2.2.2.1 x.2.2.2.2.2.2.2.2.2.2.2.1 x.2.2.2.2.2.2.2.2.2.2.2.2.1.2.2.1 x.2.2.2.2.2.2.2.2.2.2.2.2.1.2.2.2.1 x.2.2.2.2.2.2.2.2.2.2.2.2.1.2.2.2.2.1 x.2.2.2.2.2.2.2.2.2.2.2.2.1.2.2.2.2.2.1 x.2.2.2.2.2.2.2.2.2.2.2.2.2.1 x.2.2.2.2.2.2.2.2.2.2.2.2.2.2.1⟩
def L3 (l : T3) : LS R := ⟨[], [(1, ⟨false, [.fn 62 [(0, 0), (1, 0)]]⟩), (2, ⟨false, [.ptr 100002 0]⟩), (4, ⟨false, [.ptr 100003 0]⟩), (5, ⟨false, [.ptr 100006 0]⟩), (8, ⟨false, [.ptr 100008 0]⟩), (11, ⟨false, [.int .i64]⟩), (12, ⟨false, [.ptr 100010 0]⟩), (40, ⟨false, [.lst tBlock]⟩), (41, ⟨false, [.int .i64]⟩), (42, ⟨false, [.int .i64]⟩), (74, ⟨false, [.lst tInst]⟩), (75, ⟨false, [.int .i64]⟩), (76, ⟨false, [.int .i64]⟩)], [(0, .cbox [.lst (.int .i64), .int .i64, .lst tBlock]), (1, .cbox [.lst .bool]), (100002, .box [.lst (.int .i64), .int .i64, .lst tBlock]), (100003, .box [.own 100004, .int .i64, .own 100005]), (100004, .row true (.int .i64)), (100005, .row true tBlock), (100006, .box [.own 100007]), (100007, .row true (.int .i64)), (100008, .box [.lst (.int .i64), .int .i64, .own 100009]), (100009, .row false tBlock), (100010, .box [.own 100011, .own 100012, .int .i64, .int .i64, .int .i64, .int .i64]), (100011, .row false tPhi), (100012, .row false tInst)], fun x => l x.1.2.2.2.2.2.1.1 x.1.2.2.2.2.2.2.2.1.1 x.1.2.2.2.2.2.2.2.2.1.1 x.1.2.2.2.2.2.2.2.2.2.1.1 x.1.2.2.2.2.2.2.2.2.2.2.1.1 x.1.2.2.2.2.2.2.2.2.2.2.2.1.1 x.1.2.2.2.2.2.2.2.2.2.2.2.2.1.1 x.2.1 x.2.2.1.1 x.2.2.2.1 x.2.2.2.2.1.2.1 x.2.2.2.2.2.1 x.2.2.2.2.2.2.1 x.2.2.2.2.2.2.2.2.1 x.2.2.2.2.2.2.2.2.2.1.1 x.2.2.2.2.2.2.2.2.2.1.2.1 x.2.2.2.2.2.2.2.2.2.2.1 x.2.2.2.2.2.2.2.2.2.2.2.1.2.2.1 x.2.2.2.2.2.2.2.2.2.2.2.1.2.2.2.1 x.2.2.2.2.2.2.2.2.2.2.2.1.2.2.2.2.1 x.2.2.2.2.2.2.2.2.2.2.2.1.2.2.2.2.2.1 x.2.2.2.2.2.2.2.2.2.2.2.2.1 x.2.2.2.2.2.2.2.2.2.2.2.2.2.1⟩
def L (l0 : T0) (l1 : T1) (l2 : T2) (l3 : T3) : List (LS R) := [L0 l0, L1 l1, L2 l2, L3 l3]
def c : Code := Tryz.f61.body.getD .skip
theorem eq (k : Nat) (x) : (s k).pf x = execF tab (E k) Tryz.f61 c (s k) (L (l0 k) (l1 k) (l2 k) (l3 k)) x := by kernel_rfl
theorem r0 (l0 : T0) (l1 : T1) (l2 : T2) (l3 : T3) (k : Nat) (x) : (L0 (l0_ k l0 l1 l2 l3)).l x = roundOf tab (E k) (L l0 l1 l2 l3) c (fin tab Tryz.f61 (s k)) 0 (L0 l0) x := by kernel_rfl
theorem r1 (l0 : T0) (l1 : T1) (l2 : T2) (l3 : T3) (k : Nat) (x) : (L1 (l1_ k l0 l1 l2 l3)).l x = roundOf tab (E k) (L l0 l1 l2 l3) c (fin tab Tryz.f61 (s k)) 1 (L1 l1) x := by kernel_rfl
theorem r2 (l0 : T0) (l1 : T1) (l2 : T2) (l3 : T3) (k : Nat) (x) : (L2 (l2_ k l0 l1 l2 l3)).l x = roundOf tab (E k) (L l0 l1 l2 l3) c (fin tab Tryz.f61 (s k)) 2 (L2 l2) x := by kernel_rfl
theorem r3 (l0 : T0) (l1 : T1) (l2 : T2) (l3 : T3) (k : Nat) (x) : (L3 (l3_ k l0 l1 l2 l3)).l x = roundOf tab (E k) (L l0 l1 l2 l3) c (fin tab Tryz.f61 (s k)) 3 (L3 l3) x := by kernel_rfl
theorem sound : ∀ k, Sound Tryz.prog 61 (s k) := snd S (fun k => (s k).pf) E (fun k => (EntsOK.cons (U70.sound k) (EntsOK.cons (U149.sound k) (EntsOK.cons (U130.sound k) (EntsOK.cons (U153.sound k) EntsOK.nil))))) (fun k => L (l0 k) (l1 k) (l2 k) (l3 k)) (fun k => ⟨⟨(L0 (l0 (k + 1))).l, rfl, fun x => r0 (l0 k) (l1 k) (l2 k) (l3 k) k x⟩, ⟨(L1 (l1 (k + 1))).l, rfl, fun x => r1 (l0 k) (l1 k) (l2 k) (l3 k) k x⟩, ⟨(L2 (l2 (k + 1))).l, rfl, fun x => r2 (l0 k) (l1 k) (l2 k) (l3 k) k x⟩, ⟨(L3 (l3 (k + 1))).l, rfl, fun x => r3 (l0 k) (l1 k) (l2 k) (l3 k) k x⟩, trivial⟩) eq
end U154
namespace U155
abbrev R := (((Unit × Int × Unit × Unit) × Unit) × ((List Int) × (List tBlockD) × Unit))
def f (k : Nat) (a0 : tFuncD) : Option R := Option.bind (U148.f k a0) fun r1 => Option.bind (U154.f k a0 a0 r1.2.1) fun r2 => some ((((), r2.1.1.2.1, (), ()), ()), (r2.2.1, r2.2.2.1, ()))
abbrev S : ShapeParts := ⟨[⟨true, [.lst (.int .i64), .int .i64, .lst tBlock]⟩], [], false, [⟨true, [.own 100, .int .i64, .own 101]⟩], [(100, .row true (.int .i64)), (101, .row true tBlock)], []⟩
def s (k : Nat) : FS := S.fs fun x => f k x.1.1
def E (k : Nat) : Ents := [(⟨60, []⟩, U148.s k), (⟨61, [62]⟩, U154.s k)]
def L : List (LS R) := []
def c : Code := Tryz.f30.body.getD .skip
theorem eq (k : Nat) (x) : (s k).pf x = execF tab (E k) Tryz.f30 c (s k) L x := by kernel_rfl
theorem sound : ∀ k, Sound Tryz.prog 30 (s k) := snd S (fun k => (s k).pf) E (fun k => (EntsOK.cons (U148.sound k) (EntsOK.cons (U154.sound k) EntsOK.nil))) (fun k => L) (fun k => trivial) eq
end U155
namespace U156
abbrev R := (((Unit × Int × Unit × Unit) × (Bool × Unit) × Unit) × ((List Int) × (List tBlockD) × Unit))
def f (k : Nat) (a0 : tFuncD) : Option R := Option.bind (U155.f k a0) fun r1 => some ((((), r1.1.1.2.1, (), ()), (true, ()), ()), (r1.2.1, r1.2.2.1, ()))
abbrev S : ShapeParts := ⟨[⟨true, [.lst (.int .i64), .int .i64, .lst tBlock]⟩, ⟨false, [.ptr 0 0]⟩], [(0, .cbox [.fn 30 []])], true, [⟨true, [.own 100, .int .i64, .own 101]⟩, ⟨false, [.bool]⟩], [(100, .row true (.int .i64)), (101, .row true tBlock)], []⟩
def s (k : Nat) : FS := S.fs fun x => f k x.1.1
def E (k : Nat) : Ents := [(⟨30, []⟩, U155.s k)]
def L : List (LS R) := []
def c : Code := Tryz.f59.body.getD .skip
theorem eq (k : Nat) (x) : (s k).pf x = execF tab (E k) Tryz.f59 c (s k) L x := by kernel_rfl
theorem sound : ∀ k, Sound Tryz.prog 59 (s k) := snd S (fun k => (s k).pf) E (fun k => (EntsOK.cons (U155.sound k) EntsOK.nil)) (fun k => L) (fun k => trivial) eq
end U156
namespace U157
abbrev R := (((Unit × Unit) × (Bool × Unit) × Unit) × ((List tFuncD) × Unit))
abbrev T0 : Type := (List tFuncD) → Int → Int → (List tFuncD) → (List tFuncD) → Option R
def l0_ (k : Nat) (l0 : T0) (a0 : List tFuncD) (a1 : Int) (a2 : Int) (a3 : List tFuncD) (a4 : List tFuncD) : Option R := bif decide (a2 < a1) then (bif (decide (0 ≤ a2)) && (decide (a2 < ((List.length a0 : Nat) : Int))) then (Option.bind (U142.f k (List.getD a0 (Int.toNat a2) tFuncZ)) fun r1 => Option.bind (U156.f k (r1.2.1, r1.1.1.2.1, r1.2.2.1, ())) fun r2 => bif !r2.1.2.1.1 then (some ((((), ()), (false, ()), ()), (([] : List tFuncD), ()))) else (bif decide ((List.length a4 + List.length [((r2.2.1, r2.1.1.2.1, r2.2.2.1, ()) : tFuncD)]) * 56 ≤ 140737488355328) then (l0 a0 a1 (IntKind.wrap .i64 (a2 + 1)) a3 (a4 ++ [((r2.2.1, r2.1.1.2.1, r2.2.2.1, ()) : tFuncD)])) else none)) else none) else (some ((((), ()), (true, ()), ()), (a4, ())))
def all : Nat → (T0) × Unit
 | 0 => (fun _ _ _ _ _ => none, ())
 | k + 1 => (l0_ k (all k).1, ())
def l0 (k : Nat) : T0 := (all k).1
def f (k : Nat) (a0 : tModuleD) : Option R := Option.bind (U139.f k (a0.1, ())) fun r1 => bif !r1.1.1.1 then (some ((((), ()), (false, ()), ()), (([] : List tFuncD), ()))) else (l0 k a0.1 ((List.length a0.1 : Nat) : Int) 0 ([] : List tFuncD) ([] : List tFuncD))
abbrev S : ShapeParts := ⟨[⟨true, [.lst tFunc]⟩, ⟨false, [.fn 59 [(0, 0)]]⟩], [(0, .cbox [.fn 30 []])], true, [⟨true, [.own 100]⟩, ⟨false, [.bool]⟩], [(100, .row true tFunc)], []⟩
def s (k : Nat) : FS := S.fs fun x => f k x.1.1
def E (k : Nat) : Ents := [(⟨110, []⟩, U139.s k), (⟨99, []⟩, U142.s k), (⟨59, []⟩, U156.s k)]
def L0 (l : T0) : LS R := ⟨[], [(1, ⟨false, [.fn 59 [(0, 0)]]⟩), (4, ⟨false, [.ptr 100001 0]⟩), (6, ⟨false, [.ptr 100003 0]⟩), (17, ⟨false, [.lst tFunc]⟩), (18, ⟨false, [.int .i64]⟩), (19, ⟨false, [.int .i64]⟩)], [(0, .cbox [.fn 30 []]), (100001, .box [.own 100002]), (100002, .row true tFunc), (100003, .box [.own 100004]), (100004, .row true tFunc)], fun x => l x.1.2.2.2.1.1 x.1.2.2.2.2.1.1 x.1.2.2.2.2.2.1.1 x.2.2.2.1 x.2.2.2.2.2.1⟩
def L (l0 : T0) : List (LS R) := [L0 l0]
def c : Code := Tryz.f58.body.getD .skip
theorem eq (k : Nat) (x) : (s k).pf x = execF tab (E k) Tryz.f58 c (s k) (L (l0 k)) x := by kernel_rfl
theorem r0 (l0 : T0) (k : Nat) (x) : (L0 (l0_ k l0)).l x = roundOf tab (E k) (L l0) c (fin tab Tryz.f58 (s k)) 0 (L0 l0) x := by kernel_rfl
theorem sound : ∀ k, Sound Tryz.prog 58 (s k) := snd S (fun k => (s k).pf) E (fun k => (EntsOK.cons (U139.sound k) (EntsOK.cons (U142.sound k) (EntsOK.cons (U156.sound k) EntsOK.nil)))) (fun k => L (l0 k)) (fun k => ⟨⟨(L0 (l0 (k + 1))).l, rfl, fun x => r0 (l0 k) k x⟩, trivial⟩) eq
end U157
namespace U158
abbrev R := (((Unit × Unit) × (Bool × Unit) × Unit) × ((List tFuncD) × Unit))
def f (k : Nat) (a0 : tModuleD) : Option R := Option.bind (U157.f k (a0.1, ())) fun r1 => some ((((), ()), (r1.1.2.1.1, ()), ()), (r1.2.1, ()))
abbrev S : ShapeParts := ⟨[⟨true, [.lst tFunc]⟩, ⟨false, [.fn 30 []]⟩], [], true, [⟨true, [.own 100]⟩, ⟨false, [.bool]⟩], [(100, .row true tFunc)], []⟩
def s (k : Nat) : FS := S.fs fun x => f k x.1.1
def E (k : Nat) : Ents := [(⟨58, [59]⟩, U157.s k)]
def L : List (LS R) := []
def c : Code := Tryz.f29.body.getD .skip
theorem eq (k : Nat) (x) : (s k).pf x = execF tab (E k) Tryz.f29 c (s k) L x := by kernel_rfl
theorem sound : ∀ k, Sound Tryz.prog 29 (s k) := snd S (fun k => (s k).pf) E (fun k => (EntsOK.cons (U157.sound k) EntsOK.nil)) (fun k => L) (fun k => trivial) eq
end U158
namespace U159
abbrev R := (((Unit × Unit) × (Bool × Unit) × Unit) × ((List tFuncD) × Unit))
def f (k : Nat) (a0 : tModuleD) : Option R := Option.bind (U158.f k (a0.1, ())) fun r1 => some ((((), ()), (r1.1.2.1.1, ()), ()), (r1.2.1, ()))
abbrev S : ShapeParts := ⟨[⟨true, [.lst tFunc]⟩], [], true, [⟨true, [.own 100]⟩, ⟨false, [.bool]⟩], [(100, .row true tFunc)], []⟩
def s (k : Nat) : FS := S.fs fun x => f k x.1.1
def E (k : Nat) : Ents := [(⟨29, [30]⟩, U158.s k)]
def L : List (LS R) := []
def c : Code := Tryz.f11.body.getD .skip
theorem eq (k : Nat) (x) : (s k).pf x = execF tab (E k) Tryz.f11 c (s k) L x := by kernel_rfl
theorem sound : ∀ k, Sound Tryz.prog 11 (s k) := snd S (fun k => (s k).pf) E (fun k => (EntsOK.cons (U158.sound k) EntsOK.nil)) (fun k => L) (fun k => trivial) eq
end U159
namespace U160
abbrev R := (((Bool × Unit) × Unit) × Unit)
abbrev T0 : Type := (List Int) → (List Int) → Int → Option R
def l0_ (k : Nat) (l0 : T0) (a0 : List Int) (a1 : List Int) (a2 : Int) : Option R := bif decide (a2 < ((List.length a0 : Nat) : Int)) then (bif (decide (0 ≤ a2)) && (decide (a2 < ((List.length a0 : Nat) : Int))) then (bif (decide (0 ≤ a2)) && (decide (a2 < ((List.length a1 : Nat) : Int))) then (bif !decide (List.getD a0 (Int.toNat a2) 0 = List.getD a1 (Int.toNat a2) 0) then (some (((false, ()), ()), ())) else (l0 a0 a1 (IntKind.wrap .i64 (a2 + 1)))) else none) else none) else (some (((true, ()), ()), ()))
def all : Nat → (T0) × Unit
 | 0 => (fun _ _ _ => none, ())
 | k + 1 => (l0_ k (all k).1, ())
def l0 (k : Nat) : T0 := (all k).1
def f (k : Nat) (a0 : List Int) (a1 : List Int) : Option R := bif !decide (((List.length a0 : Nat) : Int) = ((List.length a1 : Nat) : Int)) then (some (((false, ()), ()), ())) else (l0 k a0 a1 0)
abbrev S : ShapeParts := ⟨[⟨false, [.lst (.int .i64)]⟩, ⟨false, [.lst (.int .i64)]⟩], [], false, [⟨false, [.bool]⟩], [], []⟩
def s (k : Nat) : FS := S.fs fun x => f k x.1.1.1 x.1.2.1.1
def E (k : Nat) : Ents := []
def L0 (l : T0) : LS R := ⟨[], [(0, ⟨false, [.lst (.int .i64)]⟩), (1, ⟨false, [.lst (.int .i64)]⟩), (5, ⟨false, [.int .i64]⟩)], [], fun x => l x.1.1.1 x.1.2.1.1 x.1.2.2.1.1⟩
def L (l0 : T0) : List (LS R) := [L0 l0]
def c : Code := Tryz.f117.body.getD .skip
theorem eq (k : Nat) (x) : (s k).pf x = execF tab (E k) Tryz.f117 c (s k) (L (l0 k)) x := by kernel_rfl
theorem r0 (l0 : T0) (k : Nat) (x) : (L0 (l0_ k l0)).l x = roundOf tab (E k) (L l0) c (fin tab Tryz.f117 (s k)) 0 (L0 l0) x := by kernel_rfl
theorem sound : ∀ k, Sound Tryz.prog 117 (s k) := snd S (fun k => (s k).pf) E (fun k => EntsOK.nil) (fun k => L (l0 k)) (fun k => ⟨⟨(L0 (l0 (k + 1))).l, rfl, fun x => r0 (l0 k) k x⟩, trivial⟩) eq
end U160
namespace U161
abbrev R := (((Bool × Unit) × Unit) × Unit)
def f (k : Nat) (a0 : tPhiD) (a1 : tPhiD) : Option R := bif !decide (a0.1 = a1.1) then (some (((false, ()), ()), ())) else (Option.bind (U160.f k a0.2.1 a1.2.1) fun r1 => bif !r1.1.1.1 then (some (((false, ()), ()), ())) else (some (((true, ()), ()), ())))
abbrev S : ShapeParts := ⟨[⟨true, [.int .i64, .lst (.int .i64)]⟩, ⟨true, [.int .i64, .lst (.int .i64)]⟩], [], false, [⟨false, [.bool]⟩], [], []⟩
def s (k : Nat) : FS := S.fs fun x => f k x.1.1 x.1.2.1
def E (k : Nat) : Ents := [(⟨117, []⟩, U160.s k)]
def L : List (LS R) := []
def c : Code := Tryz.f209.body.getD .skip
theorem eq (k : Nat) (x) : (s k).pf x = execF tab (E k) Tryz.f209 c (s k) L x := by kernel_rfl
theorem sound : ∀ k, Sound Tryz.prog 209 (s k) := snd S (fun k => (s k).pf) E (fun k => (EntsOK.cons (U160.sound k) EntsOK.nil)) (fun k => L) (fun k => trivial) eq
end U161
end
end Go.Proofs.YtebgkcjpocfmmaaGreat.V
