/- PROVED HERE: what the functions that the law FnExactFolded reaches do in memory, each as a plain Lean function, and what these tell: part 4 of 7 of the proof of that law; no condition beyond those written out at each theorem. -/
import Derived.Test.YtbkpngmpdnnloaaGreatZFnExactFolded2
namespace Go.Proofs.YtbkpngmpdnnloaaGreat.V
open Go
set_option linter.unusedVariables false
set_option linter.unusedSimpArgs false
noncomputable section
namespace U51
abbrev R := (((Unit × Unit × Int × Int × Int × Int × Unit) × Unit) × ((List tPhiD) × (List tInstD) × Unit))
abbrev T0 : Type := Int → tBlockD → Int → Int → Int → Int → (List tPhiD) → (List tInstD) → Int → Int → Int → Int → (List tPhiD) → (List tInstD) → Option R
def l0_ (k : Nat) (l0 : T0) (l1 : T0) (a0 : Int) (a1 : tBlockD) (a2 : Int) (a3 : Int) (a4 : Int) (a5 : Int) (a6 : List tPhiD) (a7 : List tInstD) (a8 : Int) (a9 : Int) (a10 : Int) (a11 : Int) (a12 : List tPhiD) (a13 : List tInstD) : Option R := bif decide (a0 < ((List.length a1.1 : Nat) : Int)) then (bif (decide (0 ≤ a0)) && (decide (a0 < ((List.length a1.1 : Nat) : Int))) then (bif (decide (0 ≤ a0)) && (decide (a0 < ((List.length a1.1 : Nat) : Int))) then (Option.bind (U24.f k ((List.getD a1.1 (Int.toNat a0) tPhiZ).2.1)) fun r1 => bif decide ((List.length a12 + List.length [(((List.getD a1.1 (Int.toNat a0) tPhiZ).1, r1.2.1, ()) : tPhiD)]) * 32 ≤ 140737488355328) then (l0 (IntKind.wrap .i64 (a0 + 1)) a1 a2 a3 a4 a5 a6 a7 a8 a9 a10 a11 (a12 ++ [(((List.getD a1.1 (Int.toNat a0) tPhiZ).1, r1.2.1, ()) : tPhiD)]) a13) else none) else none) else none) else (l1 0 a1 a2 a3 a4 a5 a6 a7 a8 a9 a10 a11 a12 a13)
def l1_ (k : Nat) (l0 : T0) (l1 : T0) (a0 : Int) (a1 : tBlockD) (a2 : Int) (a3 : Int) (a4 : Int) (a5 : Int) (a6 : List tPhiD) (a7 : List tInstD) (a8 : Int) (a9 : Int) (a10 : Int) (a11 : Int) (a12 : List tPhiD) (a13 : List tInstD) : Option R := bif decide (a0 < ((List.length a1.2.1 : Nat) : Int)) then (bif (decide (0 ≤ a0)) && (decide (a0 < ((List.length a1.2.1 : Nat) : Int))) then (Option.bind (U50.f k (List.getD a1.2.1 (Int.toNat a0) tInstZ)) fun r1 => bif decide ((List.length a13 + List.length [((r1.1.1.1, r1.1.1.2.1, r1.1.1.2.2.1, r1.1.1.2.2.2.1, r1.1.1.2.2.2.2.1, r1.1.1.2.2.2.2.2.1, r1.2.1, ()) : tInstD)]) * 72 ≤ 140737488355328) then (l1 (IntKind.wrap .i64 (a0 + 1)) a1 a2 a3 a4 a5 a6 a7 a8 a9 a10 a11 a12 (a13 ++ [((r1.1.1.1, r1.1.1.2.1, r1.1.1.2.2.1, r1.1.1.2.2.2.1, r1.1.1.2.2.2.2.1, r1.1.1.2.2.2.2.2.1, r1.2.1, ()) : tInstD)])) else none) else none) else (some ((((), (), a8, a9, a10, a11, ()), ()), (a12, a13, ())))
def all : Nat → (T0) × (T0) × Unit
 | 0 => (fun _ _ _ _ _ _ _ _ _ _ _ _ _ _ => none, fun _ _ _ _ _ _ _ _ _ _ _ _ _ _ => none, ())
 | k + 1 => (l0_ k (all k).1 (all k).2.1, l1_ k (all k).1 (all k).2.1, ())
def l0 (k : Nat) : T0 := (all k).1
def l1 (k : Nat) : T0 := (all k).2.1
def f (k : Nat) (a0 : tBlockD) : Option R := l0 k 0 a0 0 0 0 0 ([] : List tPhiD) ([] : List tInstD) a0.2.2.1 a0.2.2.2.1 a0.2.2.2.2.1 a0.2.2.2.2.2.1 ([] : List tPhiD) ([] : List tInstD)
abbrev S : ShapeParts := ⟨[⟨true, [.lst tPhi, .lst tInst, .int .i64, .int .i64, .int .i64, .int .i64]⟩], [], false, [⟨true, [.own 100, .own 101, .int .i64, .int .i64, .int .i64, .int .i64]⟩], [(100, .row true tPhi), (101, .row true tInst)], []⟩
def s (k : Nat) : FS := S.fs fun x => f k x.1.1
def E (k : Nat) : Ents := [(⟨52, []⟩, U24.s k), (⟨58, []⟩, U50.s k)]
def L0 (l : T0) : LS R := ⟨[], [(1, ⟨false, [.ptr 100000 0]⟩), (2, ⟨false, [.ptr 100001 0]⟩), (3, ⟨false, [.ptr 100004 0]⟩), (4, ⟨false, [.int .i64]⟩)], [(100000, .box [.lst tPhi, .lst tInst, .int .i64, .int .i64, .int .i64, .int .i64]), (100001, .box [.own 100002, .own 100003, .int .i64, .int .i64, .int .i64, .int .i64]), (100002, .row true tPhi), (100003, .row true tInst), (100004, .box [.own 100005, .own 100006, .int .i64, .int .i64, .int .i64, .int .i64]), (100005, .row true tPhi), (100006, .row true tInst)], fun x => l x.1.2.2.2.1.1 x.2.1 x.2.2.1.2.2.1 x.2.2.1.2.2.2.1 x.2.2.1.2.2.2.2.1 x.2.2.1.2.2.2.2.2.1 x.2.2.2.1 x.2.2.2.2.1 x.2.2.2.2.2.1.2.2.1 x.2.2.2.2.2.1.2.2.2.1 x.2.2.2.2.2.1.2.2.2.2.1 x.2.2.2.2.2.1.2.2.2.2.2.1 x.2.2.2.2.2.2.1 x.2.2.2.2.2.2.2.1⟩
def L1 (l : T0) : LS R := ⟨[], [(1, ⟨false, [.ptr 100000 0]⟩), (2, ⟨false, [.ptr 100001 0]⟩), (3, ⟨false, [.ptr 100004 0]⟩), (5, ⟨false, [.int .i64]⟩)], [(100000, .box [.lst tPhi, .lst tInst, .int .i64, .int .i64, .int .i64, .int .i64]), (100001, .box [.own 100002, .own 100003, .int .i64, .int .i64, .int .i64, .int .i64]), (100002, .row true tPhi), (100003, .row true tInst), (100004, .box [.own 100005, .own 100006, .int .i64, .int .i64, .int .i64, .int .i64]), (100005, .row true tPhi), (100006, .row true tInst)], fun x => l x.1.2.2.2.1.1 x.2.1 x.2.2.1.2.2.1 x.2.2.1.2.2.2.1 x.2.2.1.2.2.2.2.1 x.2.2.1.2.2.2.2.2.1 x.2.2.2.1 x.2.2.2.2.1 x.2.2.2.2.2.1.2.2.1 x.2.2.2.2.2.1.2.2.2.1 x.2.2.2.2.2.1.2.2.2.2.1 x.2.2.2.2.2.1.2.2.2.2.2.1 x.2.2.2.2.2.2.1 x.2.2.2.2.2.2.2.1⟩
def L (l0 : T0) (l1 : T0) : List (LS R) := [L0 l0, L1 l1]
def c : Code := Tryz.f53.body.getD .skip
theorem eq (k : Nat) (x) : (s k).pf x = execF tab (E k) Tryz.f53 c (s k) (L (l0 k) (l1 k)) x := by kernel_rfl
theorem r0 (l0 : T0) (l1 : T0) (k : Nat) (x) : (L0 (l0_ k l0 l1)).l x = roundOf tab (E k) (L l0 l1) c (fin tab Tryz.f53 (s k)) 0 (L0 l0) x := by kernel_rfl
theorem r1 (l0 : T0) (l1 : T0) (k : Nat) (x) : (L1 (l1_ k l0 l1)).l x = roundOf tab (E k) (L l0 l1) c (fin tab Tryz.f53 (s k)) 1 (L1 l1) x := by kernel_rfl
theorem sound : ∀ k, Sound Tryz.prog 53 (s k) := snd S (fun k => (s k).pf) E (fun k => (EntsOK.cons (U24.sound k) (EntsOK.cons (U50.sound k) EntsOK.nil))) (fun k => L (l0 k) (l1 k)) (fun k => ⟨⟨(L0 (l0 (k + 1))).l, rfl, fun x => r0 (l0 k) (l1 k) k x⟩, ⟨(L1 (l1 (k + 1))).l, rfl, fun x => r1 (l0 k) (l1 k) k x⟩, trivial⟩) eq
end U51
namespace U52
abbrev R := (((Unit × Int × Unit × Unit) × Unit) × ((List Int) × (List tBlockD) × Unit))
abbrev T0 : Type := Int → tFuncD → Int → (List Int) → (List tBlockD) → Int → (List Int) → (List tBlockD) → Option R
def l0_ (k : Nat) (l0 : T0) (a0 : Int) (a1 : tFuncD) (a2 : Int) (a3 : List Int) (a4 : List tBlockD) (a5 : Int) (a6 : List Int) (a7 : List tBlockD) : Option R := bif decide (a0 < ((List.length a1.2.2.1 : Nat) : Int)) then (bif (decide (0 ≤ a0)) && (decide (a0 < ((List.length a1.2.2.1 : Nat) : Int))) then (Option.bind (U51.f k (List.getD a1.2.2.1 (Int.toNat a0) tBlockZ)) fun r1 => bif decide ((List.length a7 + List.length [((r1.2.1, r1.2.2.1, r1.1.1.2.2.1, r1.1.1.2.2.2.1, r1.1.1.2.2.2.2.1, r1.1.1.2.2.2.2.2.1, ()) : tBlockD)]) * 80 ≤ 140737488355328) then (l0 (IntKind.wrap .i64 (a0 + 1)) a1 a2 a3 a4 a5 a6 (a7 ++ [((r1.2.1, r1.2.2.1, r1.1.1.2.2.1, r1.1.1.2.2.2.1, r1.1.1.2.2.2.2.1, r1.1.1.2.2.2.2.2.1, ()) : tBlockD)])) else none) else none) else (some ((((), a5, (), ()), ()), (a6, a7, ())))
def all : Nat → (T0) × Unit
 | 0 => (fun _ _ _ _ _ _ _ _ => none, ())
 | k + 1 => (l0_ k (all k).1, ())
def l0 (k : Nat) : T0 := (all k).1
def f (k : Nat) (a0 : tFuncD) : Option R := Option.bind (U24.f k a0.1) fun r1 => l0 k 0 a0 0 ([] : List Int) ([] : List tBlockD) a0.2.1 r1.2.1 ([] : List tBlockD)
abbrev S : ShapeParts := ⟨[⟨true, [.lst (.int .i64), .int .i64, .lst tBlock]⟩], [], false, [⟨true, [.own 100, .int .i64, .own 101]⟩], [(100, .row true (.int .i64)), (101, .row true tBlock)], []⟩
def s (k : Nat) : FS := S.fs fun x => f k x.1.1
def E (k : Nat) : Ents := [(⟨52, []⟩, U24.s k), (⟨53, []⟩, U51.s k)]
def L0 (l : T0) : LS R := ⟨[], [(1, ⟨false, [.ptr 100000 0]⟩), (2, ⟨false, [.ptr 100001 0]⟩), (3, ⟨false, [.ptr 100004 0]⟩), (4, ⟨false, [.int .i64]⟩)], [(100000, .box [.lst (.int .i64), .int .i64, .lst tBlock]), (100001, .box [.own 100002, .int .i64, .own 100003]), (100002, .row true (.int .i64)), (100003, .row true tBlock), (100004, .box [.own 100005, .int .i64, .own 100006]), (100005, .row true (.int .i64)), (100006, .row true tBlock)], fun x => l x.1.2.2.2.1.1 x.2.1 x.2.2.1.2.1 x.2.2.2.1 x.2.2.2.2.1 x.2.2.2.2.2.1.2.1 x.2.2.2.2.2.2.1 x.2.2.2.2.2.2.2.1⟩
def L (l0 : T0) : List (LS R) := [L0 l0]
def c : Code := Tryz.f24.body.getD .skip
theorem eq (k : Nat) (x) : (s k).pf x = execF tab (E k) Tryz.f24 c (s k) (L (l0 k)) x := by kernel_rfl
theorem r0 (l0 : T0) (k : Nat) (x) : (L0 (l0_ k l0)).l x = roundOf tab (E k) (L l0) c (fin tab Tryz.f24 (s k)) 0 (L0 l0) x := by kernel_rfl
theorem sound : ∀ k, Sound Tryz.prog 24 (s k) := snd S (fun k => (s k).pf) E (fun k => (EntsOK.cons (U24.sound k) (EntsOK.cons (U51.sound k) EntsOK.nil))) (fun k => L (l0 k)) (fun k => ⟨⟨(L0 (l0 (k + 1))).l, rfl, fun x => r0 (l0 k) k x⟩, trivial⟩) eq
end U52
namespace U53
abbrev R := (((Int × Int × Int × Int × Int × Int × (List Int) × Unit) × (Bool × Unit) × Unit) × Unit)
def f (k : Nat) (a0 : tFuncD) (a1 : Int) : Option R := Option.bind (U36.f k a0 a1) fun r1 => bif decide (r1.1.1.1 < 0) then (some (((0, 0, 0, 0, 0, 0, ([] : List Int), ()), (false, ()), ()), ())) else (bif (decide (0 ≤ r1.1.1.1)) && (decide (r1.1.1.1 < ((List.length a0.2.2.1 : Nat) : Int))) then (bif decide (r1.1.2.1.1 < ((List.length ((List.getD a0.2.2.1 (Int.toNat r1.1.1.1) tBlockZ).1) : Nat) : Int)) then (some (((0, 0, 0, 0, 0, 0, ([] : List Int), ()), (false, ()), ()), ())) else (bif (decide (0 ≤ r1.1.1.1)) && (decide (r1.1.1.1 < ((List.length a0.2.2.1 : Nat) : Int))) then (bif (decide (0 ≤ IntKind.wrap .i64 (r1.1.2.1.1 - ((List.length ((List.getD a0.2.2.1 (Int.toNat r1.1.1.1) tBlockZ).1) : Nat) : Int)))) && (decide (IntKind.wrap .i64 (r1.1.2.1.1 - ((List.length ((List.getD a0.2.2.1 (Int.toNat r1.1.1.1) tBlockZ).1) : Nat) : Int)) < ((List.length ((List.getD a0.2.2.1 (Int.toNat r1.1.1.1) tBlockZ).2.1) : Nat) : Int))) then (some (((List.getD ((List.getD a0.2.2.1 (Int.toNat r1.1.1.1) tBlockZ).2.1) (Int.toNat (IntKind.wrap .i64 (r1.1.2.1.1 - ((List.length ((List.getD a0.2.2.1 (Int.toNat r1.1.1.1) tBlockZ).1) : Nat) : Int)))) tInstZ), (true, ()), ()), ())) else none) else none)) else none)
abbrev S : ShapeParts := ⟨[⟨true, [.lst (.int .i64), .int .i64, .lst tBlock]⟩, ⟨false, [.int .i64]⟩], [], true, [⟨true, [.int .i64, .int .i64, .int .i64, .int .i64, .int .i64, .int .i64, .lst (.int .i64)]⟩, ⟨false, [.bool]⟩], [], []⟩
def s (k : Nat) : FS := S.fs fun x => f k x.1.1 x.1.2.1.1
def E (k : Nat) : Ents := [(⟨101, []⟩, U36.s k)]
def L : List (LS R) := []
def c : Code := Tryz.f95.body.getD .skip
theorem eq (k : Nat) (x) : (s k).pf x = execF tab (E k) Tryz.f95 c (s k) L x := by kernel_rfl
theorem sound : ∀ k, Sound Tryz.prog 95 (s k) := snd S (fun k => (s k).pf) E (fun k => (EntsOK.cons (U36.sound k) EntsOK.nil)) (fun k => L) (fun k => trivial) eq
end U53
namespace U54
abbrev R := (((Int × Unit) × (Bool × Unit) × Unit) × Unit)
def f (k : Nat) (a0 : tFuncD) (a1 : Int) : Option R := Option.bind (U53.f k a0 a1) fun r1 => bif !r1.1.2.1.1 then (some (((0, ()), (false, ()), ()), ())) else (bif !decide (r1.1.1.1 = 21) then (some (((0, ()), (false, ()), ()), ())) else (some (((r1.1.1.2.2.2.2.2.1, ()), (true, ()), ()), ())))
abbrev S : ShapeParts := ⟨[⟨true, [.lst (.int .i64), .int .i64, .lst tBlock]⟩, ⟨false, [.int .i64]⟩], [], true, [⟨false, [.int .i64]⟩, ⟨false, [.bool]⟩], [], []⟩
def s (k : Nat) : FS := S.fs fun x => f k x.1.1 x.1.2.1.1
def E (k : Nat) : Ents := [(⟨95, []⟩, U53.s k)]
def L : List (LS R) := []
def c : Code := Tryz.f54.body.getD .skip
theorem eq (k : Nat) (x) : (s k).pf x = execF tab (E k) Tryz.f54 c (s k) L x := by kernel_rfl
theorem sound : ∀ k, Sound Tryz.prog 54 (s k) := snd S (fun k => (s k).pf) E (fun k => (EntsOK.cons (U53.sound k) EntsOK.nil)) (fun k => L) (fun k => trivial) eq
end U54
namespace U55
abbrev R := (((Bool × Unit) × Unit) × Unit)
def f (k : Nat) (a0 : Int) : Option R := Option.bind (U21.f k a0 4 7) fun r1 => some (((r1.1.1.1, ()), ()), ())
abbrev S : ShapeParts := ⟨[⟨false, [.int .i64]⟩], [], false, [⟨false, [.bool]⟩], [], []⟩
def s (k : Nat) : FS := S.fs fun x => f k x.1.1.1
def E (k : Nat) : Ents := [(⟨45, []⟩, U21.s k)]
def L : List (LS R) := []
def c : Code := Tryz.f96.body.getD .skip
theorem eq (k : Nat) (x) : (s k).pf x = execF tab (E k) Tryz.f96 c (s k) L x := by kernel_rfl
theorem sound : ∀ k, Sound Tryz.prog 96 (s k) := snd S (fun k => (s k).pf) E (fun k => (EntsOK.cons (U21.sound k) EntsOK.nil)) (fun k => L) (fun k => trivial) eq
end U55
namespace U56
abbrev R := (((Int × Unit) × Unit) × Unit)
def f (k : Nat) (a0 : Int) (a1 : Int) : Option R := Option.bind (U26.f k a0) fun r1 => bif !decide (2 = 0) then (bif decide (IntKind.wrap .i64 (Int.tdiv r1.1.1.1 2) ≤ a1) then (Option.bind (U26.f k a0) fun r2 => some (((IntKind.wrap .i64 (a1 - r2.1.1.1), ()), ()), ())) else (some (((a1, ()), ()), ()))) else none
abbrev S : ShapeParts := ⟨[⟨false, [.int .i64]⟩, ⟨false, [.int .i64]⟩], [], false, [⟨false, [.int .i64]⟩], [], []⟩
def s (k : Nat) : FS := S.fs fun x => f k x.1.1.1 x.1.2.1.1
def E (k : Nat) : Ents := [(⟨102, []⟩, U26.s k)]
def L : List (LS R) := []
def c : Code := Tryz.f100.body.getD .skip
theorem eq (k : Nat) (x) : (s k).pf x = execF tab (E k) Tryz.f100 c (s k) L x := by kernel_rfl
theorem sound : ∀ k, Sound Tryz.prog 100 (s k) := snd S (fun k => (s k).pf) E (fun k => (EntsOK.cons (U26.sound k) EntsOK.nil)) (fun k => L) (fun k => trivial) eq
end U56
namespace U57
abbrev R := (((Int × Unit) × Unit) × Unit)
def f (k : Nat) (a0 : Bool) : Option R := bif a0 then (some (((1, ()), ()), ())) else (some (((0, ()), ()), ()))
abbrev S : ShapeParts := ⟨[⟨false, [.bool]⟩], [], false, [⟨false, [.int .i64]⟩], [], []⟩
def s (k : Nat) : FS := S.fs fun x => f k x.1.1.1
def E (k : Nat) : Ents := []
def L : List (LS R) := []
def c : Code := Tryz.f117.body.getD .skip
theorem eq (k : Nat) (x) : (s k).pf x = execF tab (E k) Tryz.f117 c (s k) L x := by kernel_rfl
theorem sound : ∀ k, Sound Tryz.prog 117 (s k) := snd S (fun k => (s k).pf) E (fun k => EntsOK.nil) (fun k => L) (fun k => trivial) eq
end U57
namespace U58
abbrev R := (((Int × Unit) × Unit) × Unit)
def f (k : Nat) (a0 : Int) (a1 : Int) (a2 : Int) (a3 : Int) : Option R := bif decide (a0 = 13) then (bif decide (a1 ≤ a3) then (Option.bind (U56.f k a1 a2) fun r1 => bif decide (0 ≤ IntKind.wrap .u64 (IntKind.wrap .i64 (a1 - 1))) then (some (((V.shr .i64 r1.1.1.1 (IntKind.wrap .u64 (IntKind.wrap .i64 (a1 - 1))), ()), ()), ())) else none) else (bif decide (a1 ≤ a3) then (some (((0, ()), ()), ())) else (bif decide (a0 = 11) then (bif decide (0 ≤ IntKind.wrap .u64 a3) then (some (((V.shl .i64 a2 (IntKind.wrap .u64 a3), ()), ()), ())) else none) else (bif decide (a0 = 12) then (bif decide (0 ≤ IntKind.wrap .u64 a3) then (some (((V.shr .i64 a2 (IntKind.wrap .u64 a3), ()), ()), ())) else none) else (Option.bind (U56.f k a1 a2) fun r2 => bif decide (0 ≤ IntKind.wrap .u64 a3) then (some (((V.shr .i64 r2.1.1.1 (IntKind.wrap .u64 a3), ()), ()), ())) else none))))) else (bif decide (a1 ≤ a3) then (some (((0, ()), ()), ())) else (bif decide (a0 = 11) then (bif decide (0 ≤ IntKind.wrap .u64 a3) then (some (((V.shl .i64 a2 (IntKind.wrap .u64 a3), ()), ()), ())) else none) else (bif decide (a0 = 12) then (bif decide (0 ≤ IntKind.wrap .u64 a3) then (some (((V.shr .i64 a2 (IntKind.wrap .u64 a3), ()), ()), ())) else none) else (Option.bind (U56.f k a1 a2) fun r3 => bif decide (0 ≤ IntKind.wrap .u64 a3) then (some (((V.shr .i64 r3.1.1.1 (IntKind.wrap .u64 a3), ()), ()), ())) else none))))
abbrev S : ShapeParts := ⟨[⟨false, [.int .i64]⟩, ⟨false, [.int .i64]⟩, ⟨false, [.int .i64]⟩, ⟨false, [.int .i64]⟩], [], false, [⟨false, [.int .i64]⟩], [], []⟩
def s (k : Nat) : FS := S.fs fun x => f k x.1.1.1 x.1.2.1.1 x.1.2.2.1.1 x.1.2.2.2.1.1
def E (k : Nat) : Ents := [(⟨100, []⟩, U56.s k)]
def L : List (LS R) := []
def c : Code := Tryz.f118.body.getD .skip
theorem eq (k : Nat) (x) : (s k).pf x = execF tab (E k) Tryz.f118 c (s k) L x := by kernel_rfl
theorem sound : ∀ k, Sound Tryz.prog 118 (s k) := snd S (fun k => (s k).pf) E (fun k => (EntsOK.cons (U56.sound k) EntsOK.nil)) (fun k => L) (fun k => trivial) eq
end U58
namespace U59
abbrev R := (((Int × Unit) × Unit) × Unit)
def f (k : Nat) (a0 : Int) (a1 : Int) (a2 : Int) (a3 : Int) : Option R := bif decide (a0 = 1) then (some (((IntKind.wrap .i64 (a2 + a3), ()), ()), ())) else (bif decide (a0 = 2) then (some (((IntKind.wrap .i64 (a2 - a3), ()), ()), ())) else (bif decide (a0 = 3) then (Option.bind (U56.f k a1 a2) fun r1 => Option.bind (U56.f k a1 a3) fun r2 => some (((IntKind.wrap .i64 (r1.1.1.1 * r2.1.1.1), ()), ()), ())) else (bif decide (a0 = 4) then (bif !decide (a3 = 0) then (some (((IntKind.wrap .i64 (Int.tdiv a2 a3), ()), ()), ())) else none) else (bif decide (a0 = 5) then (Option.bind (U56.f k a1 a2) fun r3 => Option.bind (U56.f k a1 a3) fun r4 => bif !decide (r4.1.1.1 = 0) then (some (((IntKind.wrap .i64 (Int.tdiv r3.1.1.1 r4.1.1.1), ()), ()), ())) else none) else (bif decide (a0 = 6) then (bif !decide (a3 = 0) then (some (((Int.tmod a2 a3, ()), ()), ())) else none) else (bif decide (a0 = 7) then (Option.bind (U56.f k a1 a2) fun r5 => Option.bind (U56.f k a1 a3) fun r6 => bif !decide (r6.1.1.1 = 0) then (some (((Int.tmod r5.1.1.1 r6.1.1.1, ()), ()), ())) else none) else (bif decide (a0 = 8) then (some (((band .i64 a2 a3, ()), ()), ())) else (bif decide (a0 = 9) then (some (((bor .i64 a2 a3, ()), ()), ())) else (bif decide (a0 = 10) then (some (((bxor .i64 a2 a3, ()), ()), ())) else (bif decide (a0 = 14) then (Option.bind (U57.f k (decide (a2 = a3))) fun r7 => some (((r7.1.1.1, ()), ()), ())) else (bif decide (a0 = 15) then (Option.bind (U57.f k (!decide (a2 = a3))) fun r8 => some (((r8.1.1.1, ()), ()), ())) else (bif decide (a0 = 16) then (Option.bind (U57.f k (decide (a2 < a3))) fun r9 => some (((r9.1.1.1, ()), ()), ())) else (bif decide (a0 = 17) then (Option.bind (U56.f k a1 a2) fun r10 => Option.bind (U56.f k a1 a3) fun r11 => Option.bind (U57.f k (decide (r10.1.1.1 < r11.1.1.1))) fun r12 => some (((r12.1.1.1, ()), ()), ())) else (Option.bind (U58.f k a0 a1 a2 a3) fun r13 => some (((r13.1.1.1, ()), ()), ())))))))))))))))
abbrev S : ShapeParts := ⟨[⟨false, [.int .i64]⟩, ⟨false, [.int .i64]⟩, ⟨false, [.int .i64]⟩, ⟨false, [.int .i64]⟩], [], false, [⟨false, [.int .i64]⟩], [], []⟩
def s (k : Nat) : FS := S.fs fun x => f k x.1.1.1 x.1.2.1.1 x.1.2.2.1.1 x.1.2.2.2.1.1
def E (k : Nat) : Ents := [(⟨100, []⟩, U56.s k), (⟨117, []⟩, U57.s k), (⟨118, []⟩, U58.s k)]
def L : List (LS R) := []
def c : Code := Tryz.f98.body.getD .skip
theorem eq (k : Nat) (x) : (s k).pf x = execF tab (E k) Tryz.f98 c (s k) L x := by kernel_rfl
theorem sound : ∀ k, Sound Tryz.prog 98 (s k) := snd S (fun k => (s k).pf) E (fun k => (EntsOK.cons (U56.sound k) (EntsOK.cons (U57.sound k) (EntsOK.cons (U58.sound k) EntsOK.nil)))) (fun k => L) (fun k => trivial) eq
end U59
namespace U60
abbrev R := (((Int × Unit) × Unit) × Unit)
def f (k : Nat) (a0 : Int) (a1 : Int) : Option R := Option.bind (U23.f k a0) fun r1 => bif !r1.1.1.1 then (some (((0, ()), ()), ())) else (Option.bind (U26.f k a0) fun r2 => some (((band .i64 a1 (IntKind.wrap .i64 (r2.1.1.1 - 1)), ()), ()), ()))
abbrev S : ShapeParts := ⟨[⟨false, [.int .i64]⟩, ⟨false, [.int .i64]⟩], [], false, [⟨false, [.int .i64]⟩], [], []⟩
def s (k : Nat) : FS := S.fs fun x => f k x.1.1.1 x.1.2.1.1
def E (k : Nat) : Ents := [(⟨86, []⟩, U23.s k), (⟨102, []⟩, U26.s k)]
def L : List (LS R) := []
def c : Code := Tryz.f97.body.getD .skip
theorem eq (k : Nat) (x) : (s k).pf x = execF tab (E k) Tryz.f97 c (s k) L x := by kernel_rfl
theorem sound : ∀ k, Sound Tryz.prog 97 (s k) := snd S (fun k => (s k).pf) E (fun k => (EntsOK.cons (U23.sound k) (EntsOK.cons (U26.sound k) EntsOK.nil))) (fun k => L) (fun k => trivial) eq
end U60
namespace U61
abbrev R := (((Int × Unit) × (Int × Unit) × Unit) × Unit)
def f (k : Nat) (a0 : Int) (a1 : Int) (a2 : Int) (a3 : Int) : Option R := Option.bind (U21.f k a0 1 17) fun r1 => bif !r1.1.1.1 then (some (((0, ()), (2, ()), ()), ())) else (Option.bind (U27.f k a1 a2) fun r2 => bif !r2.1.1.1 then (some (((0, ()), (2, ()), ()), ())) else (Option.bind (U27.f k a1 a3) fun r3 => bif !r3.1.1.1 then (some (((0, ()), (2, ()), ()), ())) else (Option.bind (U55.f k a0) fun r4 => bif r4.1.1.1 then (bif decide (a3 = 0) then (some (((0, ()), (1, ()), ()), ())) else (Option.bind (U59.f k a0 a1 a2 a3) fun r5 => Option.bind (U60.f k a1 r5.1.1.1) fun r6 => some (((r6.1.1.1, ()), (0, ()), ()), ()))) else (Option.bind (U59.f k a0 a1 a2 a3) fun r7 => Option.bind (U60.f k a1 r7.1.1.1) fun r8 => some (((r8.1.1.1, ()), (0, ()), ()), ())))))
abbrev S : ShapeParts := ⟨[⟨false, [.int .i64]⟩, ⟨false, [.int .i64]⟩, ⟨false, [.int .i64]⟩, ⟨false, [.int .i64]⟩], [], true, [⟨false, [.int .i64]⟩, ⟨false, [.int .i64]⟩], [], []⟩
def s (k : Nat) : FS := S.fs fun x => f k x.1.1.1 x.1.2.1.1 x.1.2.2.1.1 x.1.2.2.2.1.1
def E (k : Nat) : Ents := [(⟨45, []⟩, U21.s k), (⟨63, []⟩, U27.s k), (⟨96, []⟩, U55.s k), (⟨98, []⟩, U59.s k), (⟨97, []⟩, U60.s k)]
def L : List (LS R) := []
def c : Code := Tryz.f55.body.getD .skip
theorem eq (k : Nat) (x) : (s k).pf x = execF tab (E k) Tryz.f55 c (s k) L x := by kernel_rfl
theorem sound : ∀ k, Sound Tryz.prog 55 (s k) := snd S (fun k => (s k).pf) E (fun k => (EntsOK.cons (U21.sound k) (EntsOK.cons (U27.sound k) (EntsOK.cons (U55.sound k) (EntsOK.cons (U59.sound k) (EntsOK.cons (U60.sound k) EntsOK.nil)))))) (fun k => L) (fun k => trivial) eq
end U61
namespace U62
abbrev R := (((Int × Int × Int × Int × Int × Int × Unit × Unit) × Unit) × ((List Int) × Unit))
def f (k : Nat) (a0 : Int) (a1 : Int) : Option R := some (((21, a0, 0, 0, 0, a1, (), ()), ()), (([] : List Int), ()))
abbrev S : ShapeParts := ⟨[⟨false, [.int .i64]⟩, ⟨false, [.int .i64]⟩], [], false, [⟨true, [.int .i64, .int .i64, .int .i64, .int .i64, .int .i64, .int .i64, .own 100]⟩], [(100, .row true (.int .i64))], []⟩
def s (k : Nat) : FS := S.fs fun x => f k x.1.1.1 x.1.2.1.1
def E (k : Nat) : Ents := []
def L : List (LS R) := []
def c : Code := Tryz.f56.body.getD .skip
theorem eq (k : Nat) (x) : (s k).pf x = execF tab (E k) Tryz.f56 c (s k) L x := by kernel_rfl
theorem sound : ∀ k, Sound Tryz.prog 56 (s k) := snd S (fun k => (s k).pf) E (fun k => EntsOK.nil) (fun k => L) (fun k => trivial) eq
end U62
namespace U63
abbrev R := (((Int × Int × Int × Int × Int × Int × Unit × Unit) × Unit) × ((List Int) × Unit))
def f (k : Nat) (a0 : Int) (a1 : Int) : Option R := some (((27, a0, a1, 0, 0, 0, (), ()), ()), (([] : List Int), ()))
abbrev S : ShapeParts := ⟨[⟨false, [.int .i64]⟩, ⟨false, [.int .i64]⟩], [], false, [⟨true, [.int .i64, .int .i64, .int .i64, .int .i64, .int .i64, .int .i64, .own 100]⟩], [(100, .row true (.int .i64))], []⟩
def s (k : Nat) : FS := S.fs fun x => f k x.1.1.1 x.1.2.1.1
def E (k : Nat) : Ents := []
def L : List (LS R) := []
def c : Code := Tryz.f62.body.getD .skip
theorem eq (k : Nat) (x) : (s k).pf x = execF tab (E k) Tryz.f62 c (s k) L x := by kernel_rfl
theorem sound : ∀ k, Sound Tryz.prog 62 (s k) := snd S (fun k => (s k).pf) E (fun k => EntsOK.nil) (fun k => L) (fun k => trivial) eq
end U63
namespace U64
abbrev R := (((Int × Int × Int × Int × Int × Int × Unit × Unit) × Unit) × ((List Int) × Unit))
def f (k : Nat) (a0 : tInstD) (a1 : Int) (a2 : Bool) (a3 : Int) (a4 : Bool) : Option R := Option.bind (U38.f k a0) fun r1 => Option.bind (bif a4 then (bif decide (a3 = 0) then (bif decide (a0.1 = 1) then (some true) else (bif decide (a0.1 = 2) then (some true) else (bif decide (a0.1 = 9) then (some true) else (bif decide (a0.1 = 10) then (some true) else (Option.bind (U21.f k a0.1 11 13) fun r2 => some r2.1.1.1))))) else (some false)) else (some false)) fun r3 => bif r3 then (Option.bind (U63.f k r1.1.1.1 a0.2.2.1) fun r4 => some (((r4.1.1.1, r4.1.1.2.1, r4.1.1.2.2.1, r4.1.1.2.2.2.1, r4.1.1.2.2.2.2.1, r4.1.1.2.2.2.2.2.1, (), ()), ()), (r4.2.1, ()))) else (Option.bind (bif a2 then (bif decide (a1 = 0) then (bif decide (a0.1 = 1) then (some true) else (bif decide (a0.1 = 9) then (some true) else (some (decide (a0.1 = 10))))) else (some false)) else (some false)) fun r5 => bif r5 then (Option.bind (U63.f k r1.1.1.1 a0.2.2.2.1) fun r6 => some (((r6.1.1.1, r6.1.1.2.1, r6.1.1.2.2.1, r6.1.1.2.2.2.1, r6.1.1.2.2.2.2.1, r6.1.1.2.2.2.2.2.1, (), ()), ()), (r6.2.1, ()))) else (Option.bind (bif a4 then (bif decide (a3 = 1) then (bif decide (a0.1 = 3) then (some true) else (some (decide (a0.1 = 4)))) else (some false)) else (some false)) fun r7 => bif r7 then (Option.bind (U63.f k r1.1.1.1 a0.2.2.1) fun r8 => some (((r8.1.1.1, r8.1.1.2.1, r8.1.1.2.2.1, r8.1.1.2.2.2.1, r8.1.1.2.2.2.2.1, r8.1.1.2.2.2.2.2.1, (), ()), ()), (r8.2.1, ()))) else (Option.bind (bif a2 then (bif decide (a1 = 1) then (some (decide (a0.1 = 3))) else (some false)) else (some false)) fun r9 => bif r9 then (Option.bind (U63.f k r1.1.1.1 a0.2.2.2.1) fun r10 => some (((r10.1.1.1, r10.1.1.2.1, r10.1.1.2.2.1, r10.1.1.2.2.2.1, r10.1.1.2.2.2.2.1, r10.1.1.2.2.2.2.2.1, (), ()), ()), (r10.2.1, ()))) else (Option.bind (bif decide (a0.1 = 3) then (bif a2 then (bif decide (a1 = 0) then (some true) else (bif a4 then (some (decide (a3 = 0))) else (some false))) else (bif a4 then (some (decide (a3 = 0))) else (some false))) else (bif decide (a0.1 = 8) then (bif a2 then (bif decide (a1 = 0) then (some true) else (bif a4 then (some (decide (a3 = 0))) else (some false))) else (bif a4 then (some (decide (a3 = 0))) else (some false))) else (some false))) fun r11 => bif r11 then (Option.bind (U62.f k r1.1.1.1 0) fun r12 => some (((r12.1.1.1, r12.1.1.2.1, r12.1.1.2.2.1, r12.1.1.2.2.2.1, r12.1.1.2.2.2.2.1, r12.1.1.2.2.2.2.2.1, (), ()), ()), (r12.2.1, ()))) else (bif !decide (a0.2.2.1 = a0.2.2.2.1) then (Option.bind (U50.f k a0) fun r13 => some (((r13.1.1.1, r13.1.1.2.1, r13.1.1.2.2.1, r13.1.1.2.2.2.1, r13.1.1.2.2.2.2.1, r13.1.1.2.2.2.2.2.1, (), ()), ()), (r13.2.1, ()))) else (Option.bind (bif decide (a0.1 = 2) then (some true) else (bif decide (a0.1 = 10) then (some true) else (bif decide (a0.1 = 15) then (some true) else (bif decide (a0.1 = 16) then (some true) else (some (decide (a0.1 = 17))))))) fun r14 => bif r14 then (Option.bind (U62.f k r1.1.1.1 0) fun r15 => some (((r15.1.1.1, r15.1.1.2.1, r15.1.1.2.2.1, r15.1.1.2.2.2.1, r15.1.1.2.2.2.2.1, r15.1.1.2.2.2.2.2.1, (), ()), ()), (r15.2.1, ()))) else (bif decide (a0.1 = 14) then (Option.bind (U62.f k r1.1.1.1 1) fun r16 => some (((r16.1.1.1, r16.1.1.2.1, r16.1.1.2.2.1, r16.1.1.2.2.2.1, r16.1.1.2.2.2.2.1, r16.1.1.2.2.2.2.2.1, (), ()), ()), (r16.2.1, ()))) else (Option.bind (bif decide (a0.1 = 8) then (some true) else (some (decide (a0.1 = 9)))) fun r17 => bif r17 then (Option.bind (U63.f k r1.1.1.1 a0.2.2.1) fun r18 => some (((r18.1.1.1, r18.1.1.2.1, r18.1.1.2.2.1, r18.1.1.2.2.2.1, r18.1.1.2.2.2.2.1, r18.1.1.2.2.2.2.2.1, (), ()), ()), (r18.2.1, ()))) else (Option.bind (U50.f k a0) fun r19 => some (((r19.1.1.1, r19.1.1.2.1, r19.1.1.2.2.1, r19.1.1.2.2.2.1, r19.1.1.2.2.2.2.1, r19.1.1.2.2.2.2.2.1, (), ()), ()), (r19.2.1, ())))))))))))
abbrev S : ShapeParts := ⟨[⟨true, [.int .i64, .int .i64, .int .i64, .int .i64, .int .i64, .int .i64, .lst (.int .i64)]⟩, ⟨false, [.int .i64]⟩, ⟨false, [.bool]⟩, ⟨false, [.int .i64]⟩, ⟨false, [.bool]⟩], [], false, [⟨true, [.int .i64, .int .i64, .int .i64, .int .i64, .int .i64, .int .i64, .own 100]⟩], [(100, .row true (.int .i64))], []⟩
def s (k : Nat) : FS := S.fs fun x => f k x.1.1 x.1.2.1.1 x.1.2.2.1.1 x.1.2.2.2.1.1 x.1.2.2.2.2.1.1
def E (k : Nat) : Ents := [(⟨57, []⟩, U38.s k), (⟨45, []⟩, U21.s k), (⟨62, []⟩, U63.s k), (⟨56, []⟩, U62.s k), (⟨58, []⟩, U50.s k), (⟨57, [999999]⟩, U38.s k)]
def L : List (LS R) := []
def c : Code := Tryz.f59.body.getD .skip
theorem eq (k : Nat) (x) : (s k).pf x = execF tab (E k) Tryz.f59 c (s k) L x := by kernel_rfl
theorem sound : ∀ k, Sound Tryz.prog 59 (s k) := snd S (fun k => (s k).pf) E (fun k => (EntsOK.cons (U38.sound k) (EntsOK.cons (U21.sound k) (EntsOK.cons (U63.sound k) (EntsOK.cons (U62.sound k) (EntsOK.cons (U50.sound k) (EntsOK.cons (U38.sound k) EntsOK.nil))))))) (fun k => L) (fun k => trivial) eq
end U64
namespace U65
abbrev R := (((Int × Unit) × (Bool × Unit) × Unit) × Unit)
def f (k : Nat) (a0 : Int) (a1 : Int) (a2 : Int) (a3 : Int) : Option R := Option.bind (U27.f k a1 a3) fun r1 => bif !r1.1.1.1 then (some (((0, ()), (false, ()), ()), ())) else (Option.bind (U23.f k a2) fun r2 => bif !r2.1.1.1 then (some (((0, ()), (false, ()), ()), ())) else (bif decide (a0 = 18) then (bif decide (a1 < a2) then (some (((a3, ()), (true, ()), ()), ())) else (bif decide (a0 = 19) then (bif decide (a1 < a2) then (Option.bind (U56.f k a1 a3) fun r3 => Option.bind (U60.f k a2 r3.1.1.1) fun r4 => some (((r4.1.1.1, ()), (true, ()), ()), ())) else (bif decide (a0 = 20) then (bif decide (a2 < a1) then (Option.bind (U60.f k a2 a3) fun r5 => some (((r5.1.1.1, ()), (true, ()), ()), ())) else (some (((0, ()), (false, ()), ()), ()))) else (some (((0, ()), (false, ()), ()), ())))) else (bif decide (a0 = 20) then (bif decide (a2 < a1) then (Option.bind (U60.f k a2 a3) fun r6 => some (((r6.1.1.1, ()), (true, ()), ()), ())) else (some (((0, ()), (false, ()), ()), ()))) else (some (((0, ()), (false, ()), ()), ()))))) else (bif decide (a0 = 19) then (bif decide (a1 < a2) then (Option.bind (U56.f k a1 a3) fun r7 => Option.bind (U60.f k a2 r7.1.1.1) fun r8 => some (((r8.1.1.1, ()), (true, ()), ()), ())) else (bif decide (a0 = 20) then (bif decide (a2 < a1) then (Option.bind (U60.f k a2 a3) fun r9 => some (((r9.1.1.1, ()), (true, ()), ()), ())) else (some (((0, ()), (false, ()), ()), ()))) else (some (((0, ()), (false, ()), ()), ())))) else (bif decide (a0 = 20) then (bif decide (a2 < a1) then (Option.bind (U60.f k a2 a3) fun r10 => some (((r10.1.1.1, ()), (true, ()), ()), ())) else (some (((0, ()), (false, ()), ()), ()))) else (some (((0, ()), (false, ()), ()), ()))))))
abbrev S : ShapeParts := ⟨[⟨false, [.int .i64]⟩, ⟨false, [.int .i64]⟩, ⟨false, [.int .i64]⟩, ⟨false, [.int .i64]⟩], [], true, [⟨false, [.int .i64]⟩, ⟨false, [.bool]⟩], [], []⟩
def s (k : Nat) : FS := S.fs fun x => f k x.1.1.1 x.1.2.1.1 x.1.2.2.1.1 x.1.2.2.2.1.1
def E (k : Nat) : Ents := [(⟨63, []⟩, U27.s k), (⟨86, []⟩, U23.s k), (⟨100, []⟩, U56.s k), (⟨97, []⟩, U60.s k)]
def L : List (LS R) := []
def c : Code := Tryz.f60.body.getD .skip
theorem eq (k : Nat) (x) : (s k).pf x = execF tab (E k) Tryz.f60 c (s k) L x := by kernel_rfl
theorem sound : ∀ k, Sound Tryz.prog 60 (s k) := snd S (fun k => (s k).pf) E (fun k => (EntsOK.cons (U27.sound k) (EntsOK.cons (U23.sound k) (EntsOK.cons (U56.sound k) (EntsOK.cons (U60.sound k) EntsOK.nil))))) (fun k => L) (fun k => trivial) eq
end U65
namespace U66
abbrev R := (((Int × Int × Int × Int × Int × Int × Unit × Unit) × Unit) × ((List Int) × Unit))
def f (k : Nat) (a0 : tFuncD) (a1 : tInstD) : Option R := Option.bind (U54.f k a0 a1.2.2.1) fun r1 => Option.bind (U21.f k a1.1 1 17) fun r2 => bif r2.1.1.1 then (Option.bind (U54.f k a0 a1.2.2.2.1) fun r3 => bif r1.1.2.1.1 then (bif r3.1.2.1.1 then (Option.bind (U61.f k a1.1 a1.2.1 r1.1.1.1 r3.1.1.1) fun r4 => bif decide (r4.1.2.1.1 = 0) then (Option.bind (U38.f k a1) fun r5 => Option.bind (U62.f k r5.1.1.1 r4.1.1.1) fun r6 => some (((r6.1.1.1, r6.1.1.2.1, r6.1.1.2.2.1, r6.1.1.2.2.2.1, r6.1.1.2.2.2.2.1, r6.1.1.2.2.2.2.2.1, (), ()), ()), (r6.2.1, ()))) else (Option.bind (U50.f k a1) fun r7 => some (((r7.1.1.1, r7.1.1.2.1, r7.1.1.2.2.1, r7.1.1.2.2.2.1, r7.1.1.2.2.2.2.1, r7.1.1.2.2.2.2.2.1, (), ()), ()), (r7.2.1, ())))) else (Option.bind (U64.f k a1 r1.1.1.1 r1.1.2.1.1 r3.1.1.1 r3.1.2.1.1) fun r8 => some (((r8.1.1.1, r8.1.1.2.1, r8.1.1.2.2.1, r8.1.1.2.2.2.1, r8.1.1.2.2.2.2.1, r8.1.1.2.2.2.2.2.1, (), ()), ()), (r8.2.1, ())))) else (Option.bind (U64.f k a1 r1.1.1.1 r1.1.2.1.1 r3.1.1.1 r3.1.2.1.1) fun r9 => some (((r9.1.1.1, r9.1.1.2.1, r9.1.1.2.2.1, r9.1.1.2.2.2.1, r9.1.1.2.2.2.2.1, r9.1.1.2.2.2.2.2.1, (), ()), ()), (r9.2.1, ())))) else (Option.bind (Option.bind (U21.f k a1.1 18 20) fun r10 => bif r10.1.1.1 then (some r1.1.2.1.1) else (some false)) fun r11 => bif r11 then (Option.bind (U39.f k a0 a1.2.2.1) fun r12 => Option.bind (U65.f k a1.1 r12.1.1.1 a1.2.1 r1.1.1.1) fun r13 => bif r13.1.2.1.1 then (Option.bind (U62.f k a1.2.1 r13.1.1.1) fun r14 => some (((r14.1.1.1, r14.1.1.2.1, r14.1.1.2.2.1, r14.1.1.2.2.2.1, r14.1.1.2.2.2.2.1, r14.1.1.2.2.2.2.2.1, (), ()), ()), (r14.2.1, ()))) else (Option.bind (U50.f k a1) fun r15 => some (((r15.1.1.1, r15.1.1.2.1, r15.1.1.2.2.1, r15.1.1.2.2.2.1, r15.1.1.2.2.2.2.1, r15.1.1.2.2.2.2.2.1, (), ()), ()), (r15.2.1, ())))) else (Option.bind (bif decide (a1.1 = 22) then (bif r1.1.2.1.1 then (some (decide (r1.1.1.1 = 1))) else (some false)) else (some false)) fun r16 => bif r16 then (bif r16 then (Option.bind (U63.f k a1.2.1 a1.2.2.2.1) fun r17 => some (((r17.1.1.1, r17.1.1.2.1, r17.1.1.2.2.1, r17.1.1.2.2.2.1, r17.1.1.2.2.2.2.1, r17.1.1.2.2.2.2.2.1, (), ()), ()), (r17.2.1, ()))) else (Option.bind (bif decide (a1.1 = 22) then (some r1.1.2.1.1) else (some false)) fun r18 => bif r18 then (Option.bind (U63.f k a1.2.1 a1.2.2.2.2.1) fun r19 => some (((r19.1.1.1, r19.1.1.2.1, r19.1.1.2.2.1, r19.1.1.2.2.2.1, r19.1.1.2.2.2.2.1, r19.1.1.2.2.2.2.2.1, (), ()), ()), (r19.2.1, ()))) else (Option.bind (bif decide (a1.1 = 27) then (bif r1.1.2.1.1 then (Option.bind (U27.f k a1.2.1 r1.1.1.1) fun r20 => some r20.1.1.1) else (some false)) else (some false)) fun r21 => bif r21 then (Option.bind (U62.f k a1.2.1 r1.1.1.1) fun r22 => some (((r22.1.1.1, r22.1.1.2.1, r22.1.1.2.2.1, r22.1.1.2.2.2.1, r22.1.1.2.2.2.2.1, r22.1.1.2.2.2.2.2.1, (), ()), ()), (r22.2.1, ()))) else (Option.bind (U50.f k a1) fun r23 => some (((r23.1.1.1, r23.1.1.2.1, r23.1.1.2.2.1, r23.1.1.2.2.2.1, r23.1.1.2.2.2.2.1, r23.1.1.2.2.2.2.2.1, (), ()), ()), (r23.2.1, ())))))) else (Option.bind (bif decide (a1.1 = 22) then (some (decide (a1.2.2.2.1 = a1.2.2.2.2.1))) else (some false)) fun r24 => bif r24 then (Option.bind (U63.f k a1.2.1 a1.2.2.2.1) fun r25 => some (((r25.1.1.1, r25.1.1.2.1, r25.1.1.2.2.1, r25.1.1.2.2.2.1, r25.1.1.2.2.2.2.1, r25.1.1.2.2.2.2.2.1, (), ()), ()), (r25.2.1, ()))) else (Option.bind (bif decide (a1.1 = 22) then (some r1.1.2.1.1) else (some false)) fun r26 => bif r26 then (Option.bind (U63.f k a1.2.1 a1.2.2.2.2.1) fun r27 => some (((r27.1.1.1, r27.1.1.2.1, r27.1.1.2.2.1, r27.1.1.2.2.2.1, r27.1.1.2.2.2.2.1, r27.1.1.2.2.2.2.2.1, (), ()), ()), (r27.2.1, ()))) else (Option.bind (bif decide (a1.1 = 27) then (bif r1.1.2.1.1 then (Option.bind (U27.f k a1.2.1 r1.1.1.1) fun r28 => some r28.1.1.1) else (some false)) else (some false)) fun r29 => bif r29 then (Option.bind (U62.f k a1.2.1 r1.1.1.1) fun r30 => some (((r30.1.1.1, r30.1.1.2.1, r30.1.1.2.2.1, r30.1.1.2.2.2.1, r30.1.1.2.2.2.2.1, r30.1.1.2.2.2.2.2.1, (), ()), ()), (r30.2.1, ()))) else (Option.bind (U50.f k a1) fun r31 => some (((r31.1.1.1, r31.1.1.2.1, r31.1.1.2.2.1, r31.1.1.2.2.2.1, r31.1.1.2.2.2.2.1, r31.1.1.2.2.2.2.2.1, (), ()), ()), (r31.2.1, ()))))))))
abbrev S : ShapeParts := ⟨[⟨true, [.lst (.int .i64), .int .i64, .lst tBlock]⟩, ⟨true, [.int .i64, .int .i64, .int .i64, .int .i64, .int .i64, .int .i64, .lst (.int .i64)]⟩], [], false, [⟨true, [.int .i64, .int .i64, .int .i64, .int .i64, .int .i64, .int .i64, .own 100]⟩], [(100, .row true (.int .i64))], []⟩
def s (k : Nat) : FS := S.fs fun x => f k x.1.1 x.1.2.1
def E (k : Nat) : Ents := [(⟨54, []⟩, U54.s k), (⟨45, []⟩, U21.s k), (⟨55, []⟩, U61.s k), (⟨57, []⟩, U38.s k), (⟨56, []⟩, U62.s k), (⟨58, []⟩, U50.s k), (⟨59, []⟩, U64.s k), (⟨61, []⟩, U39.s k), (⟨60, []⟩, U65.s k), (⟨62, []⟩, U63.s k), (⟨63, []⟩, U27.s k), (⟨54, [999999]⟩, U54.s k)]
def L : List (LS R) := []
def c : Code := Tryz.f25.body.getD .skip
theorem eq (k : Nat) (x) : (s k).pf x = execF tab (E k) Tryz.f25 c (s k) L x := by kernel_rfl
theorem sound : ∀ k, Sound Tryz.prog 25 (s k) := snd S (fun k => (s k).pf) E (fun k => (EntsOK.cons (U54.sound k) (EntsOK.cons (U21.sound k) (EntsOK.cons (U61.sound k) (EntsOK.cons (U38.sound k) (EntsOK.cons (U62.sound k) (EntsOK.cons (U50.sound k) (EntsOK.cons (U64.sound k) (EntsOK.cons (U39.sound k) (EntsOK.cons (U65.sound k) (EntsOK.cons (U63.sound k) (EntsOK.cons (U27.sound k) (EntsOK.cons (U54.sound k) EntsOK.nil))))))))))))) (fun k => L) (fun k => trivial) eq
end U66
namespace U67
abbrev R := (((Unit × Int × Unit × Unit) × Unit) × ((List Int) × (List tBlockD) × Unit))
abbrev T0 : Type := Int → Int → (List Int) → (List tBlockD) → Int → (List Int) → (List tBlockD) → Option R
abbrev T1 : Type := Int → Int → Int → (List Int) → (List tBlockD) → Int → (List Int) → (List tBlockD) → Nat → Int → Int → Int → Int → (List tPhiD) → (List tInstD) → Option R
def l0_ (k : Nat) (l0 : T0) (l1 : T1) (a0 : Int) (a1 : Int) (a2 : List Int) (a3 : List tBlockD) (a4 : Int) (a5 : List Int) (a6 : List tBlockD) : Option R := bif decide (a0 < ((List.length a6 : Nat) : Int)) then (bif (decide (0 ≤ a0)) && (decide (a0 < ((List.length a6 : Nat) : Int))) then (l1 a0 0 a1 a2 a3 a4 a5 a6 (Int.toNat a0) ((List.getD a6 (Int.toNat a0) tBlockZ).2.2.1) ((List.getD a6 (Int.toNat a0) tBlockZ).2.2.2.1) ((List.getD a6 (Int.toNat a0) tBlockZ).2.2.2.2.1) ((List.getD a6 (Int.toNat a0) tBlockZ).2.2.2.2.2.1) ((List.getD a6 (Int.toNat a0) tBlockZ).1) ((List.getD a6 (Int.toNat a0) tBlockZ).2.1)) else none) else (some ((((), a4, (), ()), ()), (a5, a6, ())))
def l1_ (k : Nat) (l0 : T0) (l1 : T1) (a0 : Int) (a1 : Int) (a2 : Int) (a3 : List Int) (a4 : List tBlockD) (a5 : Int) (a6 : List Int) (a7 : List tBlockD) (a8 : Nat) (a9 : Int) (a10 : Int) (a11 : Int) (a12 : Int) (a13 : List tPhiD) (a14 : List tInstD) : Option R := bif (decide (0 ≤ a0)) && (decide (a0 < ((List.length a7 : Nat) : Int))) then (bif decide (Int.toNat a0 = a8) then (bif decide (a1 < ((List.length a14 : Nat) : Int)) then (bif (decide (0 ≤ a1)) && (decide (a1 < ((List.length a14 : Nat) : Int))) then (bif (decide (0 ≤ a0)) && (decide (a0 < ((List.length a7 : Nat) : Int))) then (bif decide (Int.toNat a0 = a8) then (bif (decide (0 ≤ a0)) && (decide (a0 < ((List.length a7 : Nat) : Int))) then (bif decide (Int.toNat a0 = a8) then (bif (decide (0 ≤ a1)) && (decide (a1 < ((List.length a14 : Nat) : Int))) then (bif decide (Int.toNat a1 = Int.toNat a1) then (Option.bind (U66.f k (a6, a5, List.set a7 a8 (a13, List.set a14 (Int.toNat a1) (List.getD a14 (Int.toNat a1) tInstZ), a9, a10, a11, a12, ()), ()) (List.getD a14 (Int.toNat a1) tInstZ)) fun r1 => bif (decide (0 ≤ a1)) && (decide (a1 < ((List.length a14 : Nat) : Int))) then (bif decide (Int.toNat a1 = Int.toNat a1) then (l1 a0 (IntKind.wrap .i64 (a1 + 1)) a2 a3 a4 a5 a6 a7 a8 a9 a10 a11 a12 a13 (List.set a14 (Int.toNat a1) (r1.1.1.1, r1.1.1.2.1, r1.1.1.2.2.1, r1.1.1.2.2.2.1, r1.1.1.2.2.2.2.1, r1.1.1.2.2.2.2.2.1, r1.2.1, ()))) else none) else none) else none) else none) else none) else none) else none) else none) else none) else (l0 (IntKind.wrap .i64 (a0 + 1)) a2 a3 a4 a5 a6 (List.set a7 a8 (a13, a14, a9, a10, a11, a12, ())))) else none) else none
def all : Nat → (T0) × (T1) × Unit
 | 0 => (fun _ _ _ _ _ _ _ => none, fun _ _ _ _ _ _ _ _ _ _ _ _ _ _ _ => none, ())
 | k + 1 => (l0_ k (all k).1 (all k).2.1, l1_ k (all k).1 (all k).2.1, ())
def l0 (k : Nat) : T0 := (all k).1
def l1 (k : Nat) : T1 := (all k).2.1
def f (k : Nat) (a0 : tFuncD) : Option R := Option.bind (U52.f k a0) fun r1 => l0 k 0 0 ([] : List Int) ([] : List tBlockD) r1.1.1.2.1 r1.2.1 r1.2.2.1
abbrev S : ShapeParts := ⟨[⟨true, [.lst (.int .i64), .int .i64, .lst tBlock]⟩], [], false, [⟨true, [.own 100, .int .i64, .own 101]⟩], [(100, .row true (.int .i64)), (101, .row true tBlock)], []⟩
def s (k : Nat) : FS := S.fs fun x => f k x.1.1
def E (k : Nat) : Ents := [(⟨24, []⟩, U52.s k), (⟨25, []⟩, U66.s k), (⟨24, [999998, 5, 1, 100005, 4, 2000000]⟩, U52.s k), (⟨24, [999998, 8, 1, 100007, 5, 2000100]⟩, U52.s k), (⟨24, [999998, 7, 2, 100007]⟩, U52.s k), (⟨24, [999998, 4, 2, 100005]⟩, U52.s k)]
def L0 (l : T0) : LS R := ⟨[], [(2, ⟨false, [.ptr 100000 0]⟩), (3, ⟨false, [.ptr 100003 0]⟩), (4, ⟨false, [.int .i64]⟩)], [(100000, .box [.own 100001, .int .i64, .own 100002]), (100001, .row true (.int .i64)), (100002, .row true tBlock), (100003, .box [.own 100004, .int .i64, .own 100005]), (100004, .row true (.int .i64)), (100005, .row true tBlock)], fun x => l x.1.2.2.1.1 x.2.1.2.1 x.2.2.1 x.2.2.2.1 x.2.2.2.2.1.2.1 x.2.2.2.2.2.1 x.2.2.2.2.2.2.1⟩
def L1 (l : T1) : LS R := ⟨[], [(2, ⟨false, [.ptr 100000 0]⟩), (3, ⟨false, [.ptr 100003 0]⟩), (4, ⟨false, [.int .i64]⟩), (5, ⟨false, [.int .i64]⟩)], [(100000, .box [.own 100001, .int .i64, .own 100002]), (100001, .row true (.int .i64)), (100002, .row true tBlock), (100003, .box [.own 100004, .int .i64, .own 100005]), (100004, .row true (.int .i64)), (100005, .orow tBlock [.own 100006, .own 100007, .int .i64, .int .i64, .int .i64, .int .i64]), (100006, .row true tPhi), (100007, .row true tInst)], fun x => l x.1.2.2.1.1 x.1.2.2.2.1.1 x.2.1.2.1 x.2.2.1 x.2.2.2.1 x.2.2.2.2.1.2.1 x.2.2.2.2.2.1 x.2.2.2.2.2.2.1.1.1 x.2.2.2.2.2.2.1.1.2 x.2.2.2.2.2.2.1.2.2.2.1 x.2.2.2.2.2.2.1.2.2.2.2.1 x.2.2.2.2.2.2.1.2.2.2.2.2.1 x.2.2.2.2.2.2.1.2.2.2.2.2.2.1 x.2.2.2.2.2.2.2.1 x.2.2.2.2.2.2.2.2.1⟩
def L (l0 : T0) (l1 : T1) : List (LS R) := [L0 l0, L1 l1]
def c : Code := Tryz.f13.body.getD .skip
theorem eq (k : Nat) (x) : (s k).pf x = execF tab (E k) Tryz.f13 c (s k) (L (l0 k) (l1 k)) x := by kernel_rfl
theorem r0 (l0 : T0) (l1 : T1) (k : Nat) (x) : (L0 (l0_ k l0 l1)).l x = roundOf tab (E k) (L l0 l1) c (fin tab Tryz.f13 (s k)) 0 (L0 l0) x := by kernel_rfl
theorem r1 (l0 : T0) (l1 : T1) (k : Nat) (x) : (L1 (l1_ k l0 l1)).l x = roundOf tab (E k) (L l0 l1) c (fin tab Tryz.f13 (s k)) 1 (L1 l1) x := by kernel_rfl
theorem sound : ∀ k, Sound Tryz.prog 13 (s k) := snd S (fun k => (s k).pf) E (fun k => (EntsOK.cons (U52.sound k) (EntsOK.cons (U66.sound k) (EntsOK.cons (U52.sound k) (EntsOK.cons (U52.sound k) (EntsOK.cons (U52.sound k) (EntsOK.cons (U52.sound k) EntsOK.nil))))))) (fun k => L (l0 k) (l1 k)) (fun k => ⟨⟨(L0 (l0 (k + 1))).l, rfl, fun x => r0 (l0 k) (l1 k) k x⟩, ⟨(L1 (l1 (k + 1))).l, rfl, fun x => r1 (l0 k) (l1 k) k x⟩, trivial⟩) eq
end U67
namespace U68
abbrev R := (((Unit × Unit) × (Bool × Unit) × Unit) × ((List tFuncD) × Unit))
abbrev T0 : Type := Int → (List tFuncD) → (List tFuncD) → (List tFuncD) → Option R
def l0_ (k : Nat) (l0 : T0) (a0 : Int) (a1 : List tFuncD) (a2 : List tFuncD) (a3 : List tFuncD) : Option R := bif decide (a0 < ((List.length a1 : Nat) : Int)) then (bif (decide (0 ≤ a0)) && (decide (a0 < ((List.length a1 : Nat) : Int))) then (Option.bind (U67.f k (List.getD a1 (Int.toNat a0) tFuncZ)) fun r1 => bif decide ((List.length a3 + List.length [((r1.2.1, r1.1.1.2.1, r1.2.2.1, ()) : tFuncD)]) * 56 ≤ 140737488355328) then (l0 (IntKind.wrap .i64 (a0 + 1)) a1 a2 (a3 ++ [((r1.2.1, r1.1.1.2.1, r1.2.2.1, ()) : tFuncD)])) else none) else none) else (some ((((), ()), (true, ()), ()), (a3, ())))
def all : Nat → (T0) × Unit
 | 0 => (fun _ _ _ _ => none, ())
 | k + 1 => (l0_ k (all k).1, ())
def l0 (k : Nat) : T0 := (all k).1
def f (k : Nat) (a0 : tModuleD) : Option R := Option.bind (U49.f k (a0.1, ())) fun r1 => bif !decide (r1.1.1.1 = 0) then (some ((((), ()), (false, ()), ()), (([] : List tFuncD), ()))) else (l0 k 0 a0.1 ([] : List tFuncD) ([] : List tFuncD))
abbrev S : ShapeParts := ⟨[⟨true, [.lst tFunc]⟩], [], true, [⟨true, [.own 100]⟩, ⟨false, [.bool]⟩], [(100, .row true tFunc)], []⟩
def s (k : Nat) : FS := S.fs fun x => f k x.1.1
def E (k : Nat) : Ents := [(⟨12, []⟩, U49.s k), (⟨13, []⟩, U67.s k)]
def L0 (l : T0) : LS R := ⟨[], [(1, ⟨false, [.ptr 100000 0]⟩), (2, ⟨false, [.ptr 100001 0]⟩), (4, ⟨false, [.ptr 100003 0]⟩), (5, ⟨false, [.int .i64]⟩)], [(100000, .box [.lst tFunc]), (100001, .box [.own 100002]), (100002, .row true tFunc), (100003, .box [.own 100004]), (100004, .row true tFunc)], fun x => l x.1.2.2.2.1.1 x.2.1.1 x.2.2.2.1 x.2.2.2.2.2.1⟩
def L (l0 : T0) : List (LS R) := [L0 l0]
def c : Code := Tryz.f5.body.getD .skip
theorem eq (k : Nat) (x) : (s k).pf x = execF tab (E k) Tryz.f5 c (s k) (L (l0 k)) x := by kernel_rfl
theorem r0 (l0 : T0) (k : Nat) (x) : (L0 (l0_ k l0)).l x = roundOf tab (E k) (L l0) c (fin tab Tryz.f5 (s k)) 0 (L0 l0) x := by kernel_rfl
theorem sound : ∀ k, Sound Tryz.prog 5 (s k) := snd S (fun k => (s k).pf) E (fun k => (EntsOK.cons (U49.sound k) (EntsOK.cons (U67.sound k) EntsOK.nil))) (fun k => L (l0 k)) (fun k => ⟨⟨(L0 (l0 (k + 1))).l, rfl, fun x => r0 (l0 k) k x⟩, trivial⟩) eq
end U68
namespace U69
abbrev R := (((Bool × Unit) × Unit) × Unit)
def f (k : Nat) (a0 : Int) (a1 : Int) (a2 : Int) : Option R := bif decide (a1 ≤ a0) then (some (((decide (a0 ≤ a2), ()), ()), ())) else (some (((false, ()), ()), ()))
abbrev S : ShapeParts := ⟨[⟨false, [.int .i64]⟩, ⟨false, [.int .i64]⟩, ⟨false, [.int .i64]⟩], [], false, [⟨false, [.bool]⟩], [], []⟩
def s (k : Nat) : FS := S.fs fun x => f k x.1.1.1 x.1.2.1.1 x.1.2.2.1.1
def E (k : Nat) : Ents := []
def L : List (LS R) := []
def c : Code := Tryz.f69.body.getD .skip
theorem eq (k : Nat) (x) : (s k).pf x = execF tab (E k) Tryz.f69 c (s k) L x := by kernel_rfl
theorem sound : ∀ k, Sound Tryz.prog 69 (s k) := snd S (fun k => (s k).pf) E (fun k => EntsOK.nil) (fun k => L) (fun k => trivial) eq
end U69
namespace U70
abbrev R := (((Bool × Unit) × Unit) × Unit)
def f (k : Nat) (a0 : Int) : Option R := bif decide (a0 = 1) then (some (((true, ()), ()), ())) else (bif decide (a0 = 8) then (some (((true, ()), ()), ())) else (bif decide (a0 = 16) then (some (((true, ()), ()), ())) else (some (((decide (a0 = 32), ()), ()), ()))))
abbrev S : ShapeParts := ⟨[⟨false, [.int .i64]⟩], [], false, [⟨false, [.bool]⟩], [], []⟩
def s (k : Nat) : FS := S.fs fun x => f k x.1.1.1
def E (k : Nat) : Ents := []
def L : List (LS R) := []
def c : Code := Tryz.f72.body.getD .skip
theorem eq (k : Nat) (x) : (s k).pf x = execF tab (E k) Tryz.f72 c (s k) L x := by kernel_rfl
theorem sound : ∀ k, Sound Tryz.prog 72 (s k) := snd S (fun k => (s k).pf) E (fun k => EntsOK.nil) (fun k => L) (fun k => trivial) eq
end U70
namespace U71
abbrev R := (((Bool × Unit) × Unit) × Unit)
def f (k : Nat) (a0 : Int) : Option R := Option.bind (U70.f k a0) fun r1 => some (((!r1.1.1.1, ()), ()), ())
abbrev S : ShapeParts := ⟨[⟨false, [.int .i64]⟩], [], false, [⟨false, [.bool]⟩], [], []⟩
def s (k : Nat) : FS := S.fs fun x => f k x.1.1.1
def E (k : Nat) : Ents := [(⟨72, []⟩, U70.s k)]
def L : List (LS R) := []
def c : Code := Tryz.f151.body.getD .skip
theorem eq (k : Nat) (x) : (s k).pf x = execF tab (E k) Tryz.f151 c (s k) L x := by kernel_rfl
theorem sound : ∀ k, Sound Tryz.prog 151 (s k) := snd S (fun k => (s k).pf) E (fun k => (EntsOK.cons (U70.sound k) EntsOK.nil)) (fun k => L) (fun k => trivial) eq
end U71
namespace U72
abbrev R := (((Int × Unit) × Unit) × Unit)
abbrev T0 : Type := (List Int) → Int → Int → Option R
def l0_ (k : Nat) (l0 : T0) (a0 : List Int) (a1 : Int) (a2 : Int) : Option R := bif decide (a2 < a1) then (bif (decide (0 ≤ a2)) && (decide (a2 < ((List.length a0 : Nat) : Int))) then (Option.bind (U71.f k (List.getD a0 (Int.toNat a2) 0)) fun r1 => bif r1.1.1.1 then (some (((a2, ()), ()), ())) else (l0 a0 a1 (IntKind.wrap .i64 (a2 + 1)))) else none) else (some (((-1, ()), ()), ()))
def all : Nat → (T0) × Unit
 | 0 => (fun _ _ _ => none, ())
 | k + 1 => (l0_ k (all k).1, ())
def l0 (k : Nat) : T0 := (all k).1
def f (k : Nat) (a0 : List Int) : Option R := l0 k a0 ((List.length a0 : Nat) : Int) 0
abbrev S : ShapeParts := ⟨[⟨false, [.lst (.int .i64)]⟩, ⟨false, [.fn 151 []]⟩], [], false, [⟨false, [.int .i64]⟩], [], []⟩
def s (k : Nat) : FS := S.fs fun x => f k x.1.1.1
def E (k : Nat) : Ents := [(⟨151, []⟩, U71.s k)]
def L0 (l : T0) : LS R := ⟨[], [(0, ⟨false, [.lst (.int .i64)]⟩), (1, ⟨false, [.fn 151 []]⟩), (7, ⟨false, [.int .i64]⟩), (8, ⟨false, [.int .i64]⟩)], [], fun x => l x.1.1.1 x.1.2.2.1.1 x.1.2.2.2.1.1⟩
def L (l0 : T0) : List (LS R) := [L0 l0]
def c : Code := Tryz.f169.body.getD .skip
theorem eq (k : Nat) (x) : (s k).pf x = execF tab (E k) Tryz.f169 c (s k) (L (l0 k)) x := by kernel_rfl
theorem r0 (l0 : T0) (k : Nat) (x) : (L0 (l0_ k l0)).l x = roundOf tab (E k) (L l0) c (fin tab Tryz.f169 (s k)) 0 (L0 l0) x := by kernel_rfl
theorem sound : ∀ k, Sound Tryz.prog 169 (s k) := snd S (fun k => (s k).pf) E (fun k => (EntsOK.cons (U71.sound k) EntsOK.nil)) (fun k => L (l0 k)) (fun k => ⟨⟨(L0 (l0 (k + 1))).l, rfl, fun x => r0 (l0 k) k x⟩, trivial⟩) eq
end U72
namespace U73
abbrev R := (((Bool × Unit) × Unit) × Unit)
def f (k : Nat) (a0 : List Int) : Option R := Option.bind (U72.f k a0) fun r1 => some (((decide (0 ≤ r1.1.1.1), ()), ()), ())
abbrev S : ShapeParts := ⟨[⟨false, [.lst (.int .i64)]⟩, ⟨false, [.fn 151 []]⟩], [], false, [⟨false, [.bool]⟩], [], []⟩
def s (k : Nat) : FS := S.fs fun x => f k x.1.1.1
def E (k : Nat) : Ents := [(⟨169, [151]⟩, U72.s k)]
def L : List (LS R) := []
def c : Code := Tryz.f150.body.getD .skip
theorem eq (k : Nat) (x) : (s k).pf x = execF tab (E k) Tryz.f150 c (s k) L x := by kernel_rfl
theorem sound : ∀ k, Sound Tryz.prog 150 (s k) := snd S (fun k => (s k).pf) E (fun k => (EntsOK.cons (U72.sound k) EntsOK.nil)) (fun k => L) (fun k => trivial) eq
end U73
namespace U74
abbrev R := (((Int × Unit) × Unit) × Unit)
abbrev T0 : Type := Int → (List tBlockD) → Int → Int → Option R
def l0_ (k : Nat) (l0 : T0) (a0 : Int) (a1 : List tBlockD) (a2 : Int) (a3 : Int) : Option R := bif decide (a3 < a2) then (bif (decide (0 ≤ a3)) && (decide (a3 < ((List.length a1 : Nat) : Int))) then (l0 (IntKind.wrap .i64 (a0 + (IntKind.wrap .i64 (((List.length ((List.getD a1 (Int.toNat a3) tBlockZ).1) : Nat) : Int) + ((List.length ((List.getD a1 (Int.toNat a3) tBlockZ).2.1) : Nat) : Int))))) a1 a2 (IntKind.wrap .i64 (a3 + 1))) else none) else (some (((a0, ()), ()), ()))
def all : Nat → (T0) × Unit
 | 0 => (fun _ _ _ _ => none, ())
 | k + 1 => (l0_ k (all k).1, ())
def l0 (k : Nat) : T0 := (all k).1
def f (k : Nat) (a0 : tFuncD) : Option R := l0 k ((List.length a0.1 : Nat) : Int) a0.2.2.1 ((List.length a0.2.2.1 : Nat) : Int) 0
abbrev S : ShapeParts := ⟨[⟨true, [.lst (.int .i64), .int .i64, .lst tBlock]⟩], [], false, [⟨false, [.int .i64]⟩], [], []⟩
def s (k : Nat) : FS := S.fs fun x => f k x.1.1
def E (k : Nat) : Ents := []
def L0 (l : T0) : LS R := ⟨[], [(3, ⟨false, [.int .i64]⟩), (10, ⟨false, [.lst tBlock]⟩), (11, ⟨false, [.int .i64]⟩), (12, ⟨false, [.int .i64]⟩)], [], fun x => l x.1.1.1 x.1.2.1.1 x.1.2.2.1.1 x.1.2.2.2.1.1⟩
def L (l0 : T0) : List (LS R) := [L0 l0]
def c : Code := Tryz.f128.body.getD .skip
theorem eq (k : Nat) (x) : (s k).pf x = execF tab (E k) Tryz.f128 c (s k) (L (l0 k)) x := by kernel_rfl
theorem r0 (l0 : T0) (k : Nat) (x) : (L0 (l0_ k l0)).l x = roundOf tab (E k) (L l0) c (fin tab Tryz.f128 (s k)) 0 (L0 l0) x := by kernel_rfl
theorem sound : ∀ k, Sound Tryz.prog 128 (s k) := snd S (fun k => (s k).pf) E (fun k => EntsOK.nil) (fun k => L (l0 k)) (fun k => ⟨⟨(L0 (l0 (k + 1))).l, rfl, fun x => r0 (l0 k) k x⟩, trivial⟩) eq
end U74
namespace U75
abbrev R := (((Bool × Unit) × Unit) × Unit)
def f (k : Nat) (a0 : Int) (a1 : Int) : Option R := Option.bind (U69.f k a0 0 (IntKind.wrap .i64 (a1 - 1))) fun r1 => some (((!r1.1.1.1, ()), ()), ())
abbrev S : ShapeParts := ⟨[⟨false, [.int .i64]⟩, ⟨false, [.ptr 0 0]⟩], [(0, .cbox [.int .i64])], false, [⟨false, [.bool]⟩], [], []⟩
def s (k : Nat) : FS := S.fs fun x => f k x.1.1.1 x.2.1.1
def E (k : Nat) : Ents := [(⟨69, []⟩, U69.s k)]
def L : List (LS R) := []
def c : Code := Tryz.f154.body.getD .skip
theorem eq (k : Nat) (x) : (s k).pf x = execF tab (E k) Tryz.f154 c (s k) L x := by kernel_rfl
theorem sound : ∀ k, Sound Tryz.prog 154 (s k) := snd S (fun k => (s k).pf) E (fun k => (EntsOK.cons (U69.sound k) EntsOK.nil)) (fun k => L) (fun k => trivial) eq
end U75
namespace U76
abbrev R := (((Int × Unit) × Unit) × Unit)
abbrev T0 : Type := (List Int) → Int → Int → Int → Option R
def l0_ (k : Nat) (l0 : T0) (a0 : List Int) (a1 : Int) (a2 : Int) (a3 : Int) : Option R := bif decide (a2 < a1) then (bif (decide (0 ≤ a2)) && (decide (a2 < ((List.length a0 : Nat) : Int))) then (Option.bind (U75.f k (List.getD a0 (Int.toNat a2) 0) a3) fun r1 => bif r1.1.1.1 then (some (((a2, ()), ()), ())) else (l0 a0 a1 (IntKind.wrap .i64 (a2 + 1)) a3)) else none) else (some (((-1, ()), ()), ()))
def all : Nat → (T0) × Unit
 | 0 => (fun _ _ _ _ => none, ())
 | k + 1 => (l0_ k (all k).1, ())
def l0 (k : Nat) : T0 := (all k).1
def f (k : Nat) (a0 : List Int) (a1 : Int) : Option R := l0 k a0 ((List.length a0 : Nat) : Int) 0 a1
abbrev S : ShapeParts := ⟨[⟨false, [.lst (.int .i64)]⟩, ⟨false, [.fn 154 [(0, 0)]]⟩], [(0, .cbox [.int .i64])], false, [⟨false, [.int .i64]⟩], [], []⟩
def s (k : Nat) : FS := S.fs fun x => f k x.1.1.1 x.2.1.1
def E (k : Nat) : Ents := [(⟨154, []⟩, U75.s k)]
def L0 (l : T0) : LS R := ⟨[], [(0, ⟨false, [.lst (.int .i64)]⟩), (1, ⟨false, [.fn 154 [(0, 0)]]⟩), (7, ⟨false, [.int .i64]⟩), (8, ⟨false, [.int .i64]⟩)], [(0, .cbox [.int .i64])], fun x => l x.1.1.1 x.1.2.2.1.1 x.1.2.2.2.1.1 x.2.1.1⟩
def L (l0 : T0) : List (LS R) := [L0 l0]
def c : Code := Tryz.f169.body.getD .skip
theorem eq (k : Nat) (x) : (s k).pf x = execF tab (E k) Tryz.f169 c (s k) (L (l0 k)) x := by kernel_rfl
theorem r0 (l0 : T0) (k : Nat) (x) : (L0 (l0_ k l0)).l x = roundOf tab (E k) (L l0) c (fin tab Tryz.f169 (s k)) 0 (L0 l0) x := by kernel_rfl
theorem sound : ∀ k, Sound Tryz.prog 169 (s k) := snd S (fun k => (s k).pf) E (fun k => (EntsOK.cons (U75.sound k) EntsOK.nil)) (fun k => L (l0 k)) (fun k => ⟨⟨(L0 (l0 (k + 1))).l, rfl, fun x => r0 (l0 k) k x⟩, trivial⟩) eq
end U76
namespace U77
abbrev R := (((Bool × Unit) × Unit) × Unit)
def f (k : Nat) (a0 : List Int) (a1 : Int) : Option R := Option.bind (U76.f k a0 a1) fun r1 => some (((decide (0 ≤ r1.1.1.1), ()), ()), ())
abbrev S : ShapeParts := ⟨[⟨false, [.lst (.int .i64)]⟩, ⟨false, [.fn 154 [(0, 0)]]⟩], [(0, .cbox [.int .i64])], false, [⟨false, [.bool]⟩], [], []⟩
def s (k : Nat) : FS := S.fs fun x => f k x.1.1.1 x.2.1.1
def E (k : Nat) : Ents := [(⟨169, [154]⟩, U76.s k)]
def L : List (LS R) := []
def c : Code := Tryz.f150.body.getD .skip
theorem eq (k : Nat) (x) : (s k).pf x = execF tab (E k) Tryz.f150 c (s k) L x := by kernel_rfl
theorem sound : ∀ k, Sound Tryz.prog 150 (s k) := snd S (fun k => (s k).pf) E (fun k => (EntsOK.cons (U76.sound k) EntsOK.nil)) (fun k => L) (fun k => trivial) eq
end U77
namespace U78
abbrev R := (((Bool × Unit) × Unit) × Unit)
def f (k : Nat) (a0 : tPhiD) (a1 : Int) : Option R := Option.bind (U70.f k a0.1) fun r1 => bif !r1.1.1.1 then (some (((true, ()), ()), ())) else (bif decide (10 < ((List.length a0.2.1 : Nat) : Int)) then (some (((true, ()), ()), ())) else (Option.bind (U77.f k a0.2.1 a1) fun r2 => some (((r2.1.1.1, ()), ()), ())))
abbrev S : ShapeParts := ⟨[⟨true, [.int .i64, .lst (.int .i64)]⟩, ⟨false, [.ptr 0 0]⟩], [(0, .cbox [.int .i64])], false, [⟨false, [.bool]⟩], [], []⟩
def s (k : Nat) : FS := S.fs fun x => f k x.1.1 x.2.1.1
def E (k : Nat) : Ents := [(⟨72, []⟩, U70.s k), (⟨150, [154]⟩, U77.s k)]
def L : List (LS R) := []
def c : Code := Tryz.f153.body.getD .skip
theorem eq (k : Nat) (x) : (s k).pf x = execF tab (E k) Tryz.f153 c (s k) L x := by kernel_rfl
theorem sound : ∀ k, Sound Tryz.prog 153 (s k) := snd S (fun k => (s k).pf) E (fun k => (EntsOK.cons (U70.sound k) (EntsOK.cons (U77.sound k) EntsOK.nil))) (fun k => L) (fun k => trivial) eq
end U78
namespace U79
abbrev R := (((Int × Unit) × Unit) × Unit)
abbrev T0 : Type := (List tPhiD) → Int → Int → Int → Option R
def l0_ (k : Nat) (l0 : T0) (a0 : List tPhiD) (a1 : Int) (a2 : Int) (a3 : Int) : Option R := bif decide (a2 < a1) then (bif (decide (0 ≤ a2)) && (decide (a2 < ((List.length a0 : Nat) : Int))) then (Option.bind (U78.f k (List.getD a0 (Int.toNat a2) tPhiZ) a3) fun r1 => bif r1.1.1.1 then (some (((a2, ()), ()), ())) else (l0 a0 a1 (IntKind.wrap .i64 (a2 + 1)) a3)) else none) else (some (((-1, ()), ()), ()))
def all : Nat → (T0) × Unit
 | 0 => (fun _ _ _ _ => none, ())
 | k + 1 => (l0_ k (all k).1, ())
def l0 (k : Nat) : T0 := (all k).1
def f (k : Nat) (a0 : List tPhiD) (a1 : Int) : Option R := l0 k a0 ((List.length a0 : Nat) : Int) 0 a1
abbrev S : ShapeParts := ⟨[⟨false, [.lst tPhi]⟩, ⟨false, [.fn 153 [(0, 0)]]⟩], [(0, .cbox [.int .i64])], false, [⟨false, [.int .i64]⟩], [], []⟩
def s (k : Nat) : FS := S.fs fun x => f k x.1.1.1 x.2.1.1
def E (k : Nat) : Ents := [(⟨153, []⟩, U78.s k)]
def L0 (l : T0) : LS R := ⟨[], [(0, ⟨false, [.lst tPhi]⟩), (1, ⟨false, [.fn 153 [(0, 0)]]⟩), (7, ⟨false, [.int .i64]⟩), (8, ⟨false, [.int .i64]⟩)], [(0, .cbox [.int .i64])], fun x => l x.1.1.1 x.1.2.2.1.1 x.1.2.2.2.1.1 x.2.1.1⟩
def L (l0 : T0) : List (LS R) := [L0 l0]
def c : Code := Tryz.f170.body.getD .skip
theorem eq (k : Nat) (x) : (s k).pf x = execF tab (E k) Tryz.f170 c (s k) (L (l0 k)) x := by kernel_rfl
theorem r0 (l0 : T0) (k : Nat) (x) : (L0 (l0_ k l0)).l x = roundOf tab (E k) (L l0) c (fin tab Tryz.f170 (s k)) 0 (L0 l0) x := by kernel_rfl
theorem sound : ∀ k, Sound Tryz.prog 170 (s k) := snd S (fun k => (s k).pf) E (fun k => (EntsOK.cons (U78.sound k) EntsOK.nil)) (fun k => L (l0 k)) (fun k => ⟨⟨(L0 (l0 (k + 1))).l, rfl, fun x => r0 (l0 k) k x⟩, trivial⟩) eq
end U79
namespace U80
abbrev R := (((Bool × Unit) × Unit) × Unit)
def f (k : Nat) (a0 : List tPhiD) (a1 : Int) : Option R := Option.bind (U79.f k a0 a1) fun r1 => some (((decide (0 ≤ r1.1.1.1), ()), ()), ())
abbrev S : ShapeParts := ⟨[⟨false, [.lst tPhi]⟩, ⟨false, [.fn 153 [(0, 0)]]⟩], [(0, .cbox [.int .i64])], false, [⟨false, [.bool]⟩], [], []⟩
def s (k : Nat) : FS := S.fs fun x => f k x.1.1.1 x.2.1.1
def E (k : Nat) : Ents := [(⟨170, [153]⟩, U79.s k)]
def L : List (LS R) := []
def c : Code := Tryz.f152.body.getD .skip
theorem eq (k : Nat) (x) : (s k).pf x = execF tab (E k) Tryz.f152 c (s k) L x := by kernel_rfl
theorem sound : ∀ k, Sound Tryz.prog 152 (s k) := snd S (fun k => (s k).pf) E (fun k => (EntsOK.cons (U79.sound k) EntsOK.nil)) (fun k => L) (fun k => trivial) eq
end U80
namespace U81
abbrev R := (((Bool × Unit) × Unit) × Unit)
def f (k : Nat) (a0 : Int) : Option R := Option.bind (U69.f k a0 1 17) fun r1 => some (((r1.1.1.1, ()), ()), ())
abbrev S : ShapeParts := ⟨[⟨false, [.int .i64]⟩], [], false, [⟨false, [.bool]⟩], [], []⟩
def s (k : Nat) : FS := S.fs fun x => f k x.1.1.1
def E (k : Nat) : Ents := [(⟨69, []⟩, U69.s k)]
def L : List (LS R) := []
def c : Code := Tryz.f30.body.getD .skip
theorem eq (k : Nat) (x) : (s k).pf x = execF tab (E k) Tryz.f30 c (s k) L x := by kernel_rfl
theorem sound : ∀ k, Sound Tryz.prog 30 (s k) := snd S (fun k => (s k).pf) E (fun k => (EntsOK.cons (U69.sound k) EntsOK.nil)) (fun k => L) (fun k => trivial) eq
end U81
namespace U82
abbrev R := (((Bool × Unit) × Unit) × Unit)
def f (k : Nat) (a0 : Int) : Option R := Option.bind (U69.f k a0 18 20) fun r1 => some (((r1.1.1.1, ()), ()), ())
abbrev S : ShapeParts := ⟨[⟨false, [.int .i64]⟩], [], false, [⟨false, [.bool]⟩], [], []⟩
def s (k : Nat) : FS := S.fs fun x => f k x.1.1.1
def E (k : Nat) : Ents := [(⟨69, []⟩, U69.s k)]
def L : List (LS R) := []
def c : Code := Tryz.f32.body.getD .skip
theorem eq (k : Nat) (x) : (s k).pf x = execF tab (E k) Tryz.f32 c (s k) L x := by kernel_rfl
theorem sound : ∀ k, Sound Tryz.prog 32 (s k) := snd S (fun k => (s k).pf) E (fun k => (EntsOK.cons (U69.sound k) EntsOK.nil)) (fun k => L) (fun k => trivial) eq
end U82
namespace U83
abbrev R := (((Unit × Unit) × Unit) × ((List Int) × Unit))
def f (k : Nat) (a0 : tInstD) : Option R := Option.bind (U81.f k a0.1) fun r1 => bif r1.1.1.1 then (some ((((), ()), ()), ([a0.2.2.1, a0.2.2.2.1], ()))) else (bif decide (a0.1 = 24) then (some ((((), ()), ()), ([a0.2.2.1, a0.2.2.2.1], ()))) else (Option.bind (U82.f k a0.1) fun r2 => bif r2.1.1.1 then (some ((((), ()), ()), ([a0.2.2.1], ()))) else (bif decide (a0.1 = 23) then (some ((((), ()), ()), ([a0.2.2.1], ()))) else (bif decide (a0.1 = 25) then (some ((((), ()), ()), ([a0.2.2.1], ()))) else (bif decide (a0.1 = 27) then (some ((((), ()), ()), ([a0.2.2.1], ()))) else (bif decide (a0.1 = 22) then (some ((((), ()), ()), ([a0.2.2.1, a0.2.2.2.1, a0.2.2.2.2.1], ()))) else (bif decide (a0.1 = 26) then (Option.bind (slices_Clone_int64_int64.f k a0.2.2.2.2.2.2.1) fun r3 => some ((((), ()), ()), (r3.2.1, ()))) else (some ((((), ()), ()), (([] : List Int), ()))))))))))
abbrev S : ShapeParts := ⟨[⟨true, [.int .i64, .int .i64, .int .i64, .int .i64, .int .i64, .int .i64, .lst (.int .i64)]⟩], [], false, [⟨false, [.own 100]⟩], [(100, .row true (.int .i64))], []⟩
def s (k : Nat) : FS := S.fs fun x => f k x.1.1
def E (k : Nat) : Ents := [(⟨30, []⟩, U81.s k), (⟨32, []⟩, U82.s k), (⟨105, []⟩, slices_Clone_int64_int64.s k)]
def L : List (LS R) := []
def c : Code := Tryz.f167.body.getD .skip
theorem eq (k : Nat) (x) : (s k).pf x = execF tab (E k) Tryz.f167 c (s k) L x := by kernel_rfl
theorem sound : ∀ k, Sound Tryz.prog 167 (s k) := snd S (fun k => (s k).pf) E (fun k => (EntsOK.cons (U81.sound k) (EntsOK.cons (U82.sound k) (EntsOK.cons (slices_Clone_int64_int64.sound k) EntsOK.nil)))) (fun k => L) (fun k => trivial) eq
end U83
namespace U84
abbrev R := (((Bool × Unit) × Unit) × Unit)
def f (k : Nat) (a0 : Int) (a1 : Int) : Option R := Option.bind (U69.f k a0 0 (IntKind.wrap .i64 (a1 - 1))) fun r1 => some (((!r1.1.1.1, ()), ()), ())
abbrev S : ShapeParts := ⟨[⟨false, [.int .i64]⟩, ⟨false, [.ptr 0 0]⟩], [(0, .cbox [.int .i64])], false, [⟨false, [.bool]⟩], [], []⟩
def s (k : Nat) : FS := S.fs fun x => f k x.1.1.1 x.2.1.1
def E (k : Nat) : Ents := [(⟨69, []⟩, U69.s k)]
def L : List (LS R) := []
def c : Code := Tryz.f171.body.getD .skip
theorem eq (k : Nat) (x) : (s k).pf x = execF tab (E k) Tryz.f171 c (s k) L x := by kernel_rfl
theorem sound : ∀ k, Sound Tryz.prog 171 (s k) := snd S (fun k => (s k).pf) E (fun k => (EntsOK.cons (U69.sound k) EntsOK.nil)) (fun k => L) (fun k => trivial) eq
end U84
namespace U85
abbrev R := (((Int × Unit) × Unit) × Unit)
abbrev T0 : Type := (List Int) → Int → Int → Int → Option R
def l0_ (k : Nat) (l0 : T0) (a0 : List Int) (a1 : Int) (a2 : Int) (a3 : Int) : Option R := bif decide (a2 < a1) then (bif (decide (0 ≤ a2)) && (decide (a2 < ((List.length a0 : Nat) : Int))) then (Option.bind (U84.f k (List.getD a0 (Int.toNat a2) 0) a3) fun r1 => bif r1.1.1.1 then (some (((a2, ()), ()), ())) else (l0 a0 a1 (IntKind.wrap .i64 (a2 + 1)) a3)) else none) else (some (((-1, ()), ()), ()))
def all : Nat → (T0) × Unit
 | 0 => (fun _ _ _ _ => none, ())
 | k + 1 => (l0_ k (all k).1, ())
def l0 (k : Nat) : T0 := (all k).1
def f (k : Nat) (a0 : List Int) (a1 : Int) : Option R := l0 k a0 ((List.length a0 : Nat) : Int) 0 a1
abbrev S : ShapeParts := ⟨[⟨false, [.lst (.int .i64)]⟩, ⟨false, [.fn 171 [(0, 0)]]⟩], [(0, .cbox [.int .i64])], false, [⟨false, [.int .i64]⟩], [], []⟩
def s (k : Nat) : FS := S.fs fun x => f k x.1.1.1 x.2.1.1
def E (k : Nat) : Ents := [(⟨171, []⟩, U84.s k)]
def L0 (l : T0) : LS R := ⟨[], [(0, ⟨false, [.lst (.int .i64)]⟩), (1, ⟨false, [.fn 171 [(0, 0)]]⟩), (7, ⟨false, [.int .i64]⟩), (8, ⟨false, [.int .i64]⟩)], [(0, .cbox [.int .i64])], fun x => l x.1.1.1 x.1.2.2.1.1 x.1.2.2.2.1.1 x.2.1.1⟩
def L (l0 : T0) : List (LS R) := [L0 l0]
def c : Code := Tryz.f169.body.getD .skip
theorem eq (k : Nat) (x) : (s k).pf x = execF tab (E k) Tryz.f169 c (s k) (L (l0 k)) x := by kernel_rfl
theorem r0 (l0 : T0) (k : Nat) (x) : (L0 (l0_ k l0)).l x = roundOf tab (E k) (L l0) c (fin tab Tryz.f169 (s k)) 0 (L0 l0) x := by kernel_rfl
theorem sound : ∀ k, Sound Tryz.prog 169 (s k) := snd S (fun k => (s k).pf) E (fun k => (EntsOK.cons (U84.sound k) EntsOK.nil)) (fun k => L (l0 k)) (fun k => ⟨⟨(L0 (l0 (k + 1))).l, rfl, fun x => r0 (l0 k) k x⟩, trivial⟩) eq
end U85
namespace U86
abbrev R := (((Bool × Unit) × Unit) × Unit)
def f (k : Nat) (a0 : List Int) (a1 : Int) : Option R := Option.bind (U85.f k a0 a1) fun r1 => some (((decide (0 ≤ r1.1.1.1), ()), ()), ())
abbrev S : ShapeParts := ⟨[⟨false, [.lst (.int .i64)]⟩, ⟨false, [.fn 171 [(0, 0)]]⟩], [(0, .cbox [.int .i64])], false, [⟨false, [.bool]⟩], [], []⟩
def s (k : Nat) : FS := S.fs fun x => f k x.1.1.1 x.2.1.1
def E (k : Nat) : Ents := [(⟨169, [171]⟩, U85.s k)]
def L : List (LS R) := []
def c : Code := Tryz.f150.body.getD .skip
theorem eq (k : Nat) (x) : (s k).pf x = execF tab (E k) Tryz.f150 c (s k) L x := by kernel_rfl
theorem sound : ∀ k, Sound Tryz.prog 150 (s k) := snd S (fun k => (s k).pf) E (fun k => (EntsOK.cons (U85.sound k) EntsOK.nil)) (fun k => L) (fun k => trivial) eq
end U86
namespace U87
abbrev R := (((Bool × Unit) × Unit) × Unit)
def f (k : Nat) (a0 : Int) : Option R := some (((!decide (a0 = 0), ()), ()), ())
abbrev S : ShapeParts := ⟨[⟨false, [.int .i64]⟩], [], false, [⟨false, [.bool]⟩], [], []⟩
def s (k : Nat) : FS := S.fs fun x => f k x.1.1.1
def E (k : Nat) : Ents := []
def L : List (LS R) := []
def c : Code := Tryz.f172.body.getD .skip
theorem eq (k : Nat) (x) : (s k).pf x = execF tab (E k) Tryz.f172 c (s k) L x := by kernel_rfl
theorem sound : ∀ k, Sound Tryz.prog 172 (s k) := snd S (fun k => (s k).pf) E (fun k => EntsOK.nil) (fun k => L) (fun k => trivial) eq
end U87
namespace U88
abbrev R := (((Int × Unit) × Unit) × Unit)
abbrev T0 : Type := (List Int) → Int → Int → Option R
def l0_ (k : Nat) (l0 : T0) (a0 : List Int) (a1 : Int) (a2 : Int) : Option R := bif decide (a2 < a1) then (bif (decide (0 ≤ a2)) && (decide (a2 < ((List.length a0 : Nat) : Int))) then (Option.bind (U87.f k (List.getD a0 (Int.toNat a2) 0)) fun r1 => bif r1.1.1.1 then (some (((a2, ()), ()), ())) else (l0 a0 a1 (IntKind.wrap .i64 (a2 + 1)))) else none) else (some (((-1, ()), ()), ()))
def all : Nat → (T0) × Unit
 | 0 => (fun _ _ _ => none, ())
 | k + 1 => (l0_ k (all k).1, ())
def l0 (k : Nat) : T0 := (all k).1
def f (k : Nat) (a0 : List Int) : Option R := l0 k a0 ((List.length a0 : Nat) : Int) 0
abbrev S : ShapeParts := ⟨[⟨false, [.lst (.int .i64)]⟩, ⟨false, [.fn 172 []]⟩], [], false, [⟨false, [.int .i64]⟩], [], []⟩
def s (k : Nat) : FS := S.fs fun x => f k x.1.1.1
def E (k : Nat) : Ents := [(⟨172, []⟩, U87.s k)]
def L0 (l : T0) : LS R := ⟨[], [(0, ⟨false, [.lst (.int .i64)]⟩), (1, ⟨false, [.fn 172 []]⟩), (7, ⟨false, [.int .i64]⟩), (8, ⟨false, [.int .i64]⟩)], [], fun x => l x.1.1.1 x.1.2.2.1.1 x.1.2.2.2.1.1⟩
def L (l0 : T0) : List (LS R) := [L0 l0]
def c : Code := Tryz.f169.body.getD .skip
theorem eq (k : Nat) (x) : (s k).pf x = execF tab (E k) Tryz.f169 c (s k) (L (l0 k)) x := by kernel_rfl
theorem r0 (l0 : T0) (k : Nat) (x) : (L0 (l0_ k l0)).l x = roundOf tab (E k) (L l0) c (fin tab Tryz.f169 (s k)) 0 (L0 l0) x := by kernel_rfl
theorem sound : ∀ k, Sound Tryz.prog 169 (s k) := snd S (fun k => (s k).pf) E (fun k => (EntsOK.cons (U87.sound k) EntsOK.nil)) (fun k => L (l0 k)) (fun k => ⟨⟨(L0 (l0 (k + 1))).l, rfl, fun x => r0 (l0 k) k x⟩, trivial⟩) eq
end U88
namespace U89
abbrev R := (((Bool × Unit) × Unit) × Unit)
def f (k : Nat) (a0 : List Int) : Option R := Option.bind (U88.f k a0) fun r1 => some (((decide (0 ≤ r1.1.1.1), ()), ()), ())
abbrev S : ShapeParts := ⟨[⟨false, [.lst (.int .i64)]⟩, ⟨false, [.fn 172 []]⟩], [], false, [⟨false, [.bool]⟩], [], []⟩
def s (k : Nat) : FS := S.fs fun x => f k x.1.1.1
def E (k : Nat) : Ents := [(⟨169, [172]⟩, U88.s k)]
def L : List (LS R) := []
def c : Code := Tryz.f150.body.getD .skip
theorem eq (k : Nat) (x) : (s k).pf x = execF tab (E k) Tryz.f150 c (s k) L x := by kernel_rfl
theorem sound : ∀ k, Sound Tryz.prog 150 (s k) := snd S (fun k => (s k).pf) E (fun k => (EntsOK.cons (U88.sound k) EntsOK.nil)) (fun k => L) (fun k => trivial) eq
end U89
namespace U90
abbrev R := (((Bool × Unit) × Unit) × Unit)
def f (k : Nat) (a0 : tInstD) : Option R := bif decide (a0.1 = 24) then (bif decide (a0.1 = 24) then (some (((decide (a0.2.1 = 0), ()), ()), ())) else (bif decide (a0.1 = 23) then (some (((decide (a0.2.1 = 8), ()), ()), ())) else (Option.bind (U70.f k a0.2.1) fun r1 => some (((r1.1.1.1, ()), ()), ())))) else (bif decide (a0.1 = 25) then (some (((decide (a0.2.1 = 0), ()), ()), ())) else (bif decide (a0.1 = 23) then (some (((decide (a0.2.1 = 8), ()), ()), ())) else (Option.bind (U70.f k a0.2.1) fun r2 => some (((r2.1.1.1, ()), ()), ()))))
abbrev S : ShapeParts := ⟨[⟨true, [.int .i64, .int .i64, .int .i64, .int .i64, .int .i64, .int .i64, .lst (.int .i64)]⟩], [], false, [⟨false, [.bool]⟩], [], []⟩
def s (k : Nat) : FS := S.fs fun x => f k x.1.1
def E (k : Nat) : Ents := [(⟨72, []⟩, U70.s k)]
def L : List (LS R) := []
def c : Code := Tryz.f173.body.getD .skip
theorem eq (k : Nat) (x) : (s k).pf x = execF tab (E k) Tryz.f173 c (s k) L x := by kernel_rfl
theorem sound : ∀ k, Sound Tryz.prog 173 (s k) := snd S (fun k => (s k).pf) E (fun k => (EntsOK.cons (U70.sound k) EntsOK.nil)) (fun k => L) (fun k => trivial) eq
end U90
namespace U91
abbrev R := (((Int × Unit) × Unit) × Unit)
def f (k : Nat) (a0 : Int) : Option R := bif decide (0 ≤ a0) then (some (((IntKind.wrap .i64 ((V.shl .i64 1 a0) - 1), ()), ()), ())) else none
abbrev S : ShapeParts := ⟨[⟨false, [.int .i64]⟩], [], false, [⟨false, [.int .i64]⟩], [], []⟩
def s (k : Nat) : FS := S.fs fun x => f k x.1.1.1
def E (k : Nat) : Ents := []
def L : List (LS R) := []
def c : Code := Tryz.f77.body.getD .skip
theorem eq (k : Nat) (x) : (s k).pf x = execF tab (E k) Tryz.f77 c (s k) L x := by kernel_rfl
theorem sound : ∀ k, Sound Tryz.prog 77 (s k) := snd S (fun k => (s k).pf) E (fun k => EntsOK.nil) (fun k => L) (fun k => trivial) eq
end U91
namespace U92
abbrev R := (((Bool × Unit) × Unit) × Unit)
def f (k : Nat) (a0 : Int) (a1 : Int) : Option R := Option.bind (U70.f k a0) fun r1 => bif r1.1.1.1 then (Option.bind (U91.f k a0) fun r2 => Option.bind (U69.f k a1 0 r2.1.1.1) fun r3 => some (((r3.1.1.1, ()), ()), ())) else (some (((false, ()), ()), ()))
abbrev S : ShapeParts := ⟨[⟨false, [.int .i64]⟩, ⟨false, [.int .i64]⟩], [], false, [⟨false, [.bool]⟩], [], []⟩
def s (k : Nat) : FS := S.fs fun x => f k x.1.1.1 x.1.2.1.1
def E (k : Nat) : Ents := [(⟨72, []⟩, U70.s k), (⟨77, []⟩, U91.s k), (⟨69, []⟩, U69.s k)]
def L : List (LS R) := []
def c : Code := Tryz.f37.body.getD .skip
theorem eq (k : Nat) (x) : (s k).pf x = execF tab (E k) Tryz.f37 c (s k) L x := by kernel_rfl
theorem sound : ∀ k, Sound Tryz.prog 37 (s k) := snd S (fun k => (s k).pf) E (fun k => (EntsOK.cons (U70.sound k) (EntsOK.cons (U91.sound k) (EntsOK.cons (U69.sound k) EntsOK.nil)))) (fun k => L) (fun k => trivial) eq
end U92
namespace U93
abbrev R := (((Bool × Unit) × Unit) × Unit)
def f (k : Nat) (a0 : tInstD) (a1 : Int) : Option R := bif decide (a0.1 = 21) then (Option.bind (U92.f k a0.2.1 a0.2.2.2.2.2.1) fun r1 => some (((r1.1.1.1, ()), ()), ())) else (bif decide (a0.1 = 26) then (Option.bind (U69.f k a0.2.2.2.2.2.1 0 (IntKind.wrap .i64 (a1 - 1))) fun r2 => some (((r2.1.1.1, ()), ()), ())) else (some (((decide (a0.2.2.2.2.2.1 = 0), ()), ()), ())))
abbrev S : ShapeParts := ⟨[⟨true, [.int .i64, .int .i64, .int .i64, .int .i64, .int .i64, .int .i64, .lst (.int .i64)]⟩, ⟨false, [.int .i64]⟩], [], false, [⟨false, [.bool]⟩], [], []⟩
def s (k : Nat) : FS := S.fs fun x => f k x.1.1 x.1.2.1.1
def E (k : Nat) : Ents := [(⟨37, []⟩, U92.s k), (⟨69, []⟩, U69.s k)]
def L : List (LS R) := []
def c : Code := Tryz.f174.body.getD .skip
theorem eq (k : Nat) (x) : (s k).pf x = execF tab (E k) Tryz.f174 c (s k) L x := by kernel_rfl
theorem sound : ∀ k, Sound Tryz.prog 174 (s k) := snd S (fun k => (s k).pf) E (fun k => (EntsOK.cons (U92.sound k) (EntsOK.cons (U69.sound k) EntsOK.nil))) (fun k => L) (fun k => trivial) eq
end U93
namespace U94
abbrev R := (((Bool × Unit) × Unit) × Unit)
def f (k : Nat) (a0 : tInstD) (a1 : Int) (a2 : Int) : Option R := Option.bind (U69.f k a0.1 1 27) fun r1 => bif !r1.1.1.1 then (some (((false, ()), ()), ())) else (bif decide (4 < ((List.length a0.2.2.2.2.2.2.1 : Nat) : Int)) then (some (((false, ()), ()), ())) else (bif decide (0 < ((List.length a0.2.2.2.2.2.2.1 : Nat) : Int)) then (bif !decide (a0.1 = 26) then (some (((false, ()), ()), ())) else (Option.bind (U83.f k a0) fun r2 => Option.bind (U86.f k r2.2.1 a1) fun r3 => bif r3.1.1.1 then (some (((false, ()), ()), ())) else (bif decide (a0.1 = 26) then (bif (decide (0 ≤ 0)) && (decide (0 ≤ ((List.length [a0.2.2.1, a0.2.2.2.1, a0.2.2.2.2.1] : Nat) : Int))) then (Option.bind (U89.f k [a0.2.2.1, a0.2.2.2.1, a0.2.2.2.2.1]) fun r4 => bif r4.1.1.1 then (some (((false, ()), ()), ())) else (Option.bind (U90.f k a0) fun r5 => bif r5.1.1.1 then (Option.bind (U93.f k a0 a2) fun r6 => some (((r6.1.1.1, ()), ()), ())) else (some (((false, ()), ()), ())))) else none) else (bif (decide (0 ≤ ((List.length r2.2.1 : Nat) : Int))) && (decide (((List.length r2.2.1 : Nat) : Int) ≤ ((List.length [a0.2.2.1, a0.2.2.2.1, a0.2.2.2.2.1] : Nat) : Int))) then (Option.bind (U89.f k (List.drop (Int.toNat ((List.length r2.2.1 : Nat) : Int)) [a0.2.2.1, a0.2.2.2.1, a0.2.2.2.2.1])) fun r7 => bif r7.1.1.1 then (some (((false, ()), ()), ())) else (Option.bind (U90.f k a0) fun r8 => bif r8.1.1.1 then (Option.bind (U93.f k a0 a2) fun r9 => some (((r9.1.1.1, ()), ()), ())) else (some (((false, ()), ()), ())))) else none)))) else (Option.bind (U83.f k a0) fun r10 => Option.bind (U86.f k r10.2.1 a1) fun r11 => bif r11.1.1.1 then (some (((false, ()), ()), ())) else (bif decide (a0.1 = 26) then (bif (decide (0 ≤ 0)) && (decide (0 ≤ ((List.length [a0.2.2.1, a0.2.2.2.1, a0.2.2.2.2.1] : Nat) : Int))) then (Option.bind (U89.f k [a0.2.2.1, a0.2.2.2.1, a0.2.2.2.2.1]) fun r12 => bif r12.1.1.1 then (some (((false, ()), ()), ())) else (Option.bind (U90.f k a0) fun r13 => bif r13.1.1.1 then (Option.bind (U93.f k a0 a2) fun r14 => some (((r14.1.1.1, ()), ()), ())) else (some (((false, ()), ()), ())))) else none) else (bif (decide (0 ≤ ((List.length r10.2.1 : Nat) : Int))) && (decide (((List.length r10.2.1 : Nat) : Int) ≤ ((List.length [a0.2.2.1, a0.2.2.2.1, a0.2.2.2.2.1] : Nat) : Int))) then (Option.bind (U89.f k (List.drop (Int.toNat ((List.length r10.2.1 : Nat) : Int)) [a0.2.2.1, a0.2.2.2.1, a0.2.2.2.2.1])) fun r15 => bif r15.1.1.1 then (some (((false, ()), ()), ())) else (Option.bind (U90.f k a0) fun r16 => bif r16.1.1.1 then (Option.bind (U93.f k a0 a2) fun r17 => some (((r17.1.1.1, ()), ()), ())) else (some (((false, ()), ()), ())))) else none)))))
abbrev S : ShapeParts := ⟨[⟨true, [.int .i64, .int .i64, .int .i64, .int .i64, .int .i64, .int .i64, .lst (.int .i64)]⟩, ⟨false, [.int .i64]⟩, ⟨false, [.int .i64]⟩], [], false, [⟨false, [.bool]⟩], [], []⟩
def s (k : Nat) : FS := S.fs fun x => f k x.1.1 x.1.2.1.1 x.1.2.2.1.1
def E (k : Nat) : Ents := [(⟨69, []⟩, U69.s k), (⟨167, []⟩, U83.s k), (⟨150, [171]⟩, U86.s k), (⟨150, [172]⟩, U89.s k), (⟨173, []⟩, U90.s k), (⟨174, []⟩, U93.s k)]
def L : List (LS R) := []
def c : Code := Tryz.f156.body.getD .skip
theorem eq (k : Nat) (x) : (s k).pf x = execF tab (E k) Tryz.f156 c (s k) L x := by kernel_rfl
theorem sound : ∀ k, Sound Tryz.prog 156 (s k) := snd S (fun k => (s k).pf) E (fun k => (EntsOK.cons (U69.sound k) (EntsOK.cons (U83.sound k) (EntsOK.cons (U86.sound k) (EntsOK.cons (U89.sound k) (EntsOK.cons (U90.sound k) (EntsOK.cons (U93.sound k) EntsOK.nil))))))) (fun k => L) (fun k => trivial) eq
end U94
namespace U95
abbrev R := (((Bool × Unit) × Unit) × Unit)
def f (k : Nat) (a0 : tInstD) (a1 : Int) (a2 : Int) : Option R := Option.bind (U94.f k a0 a1 a2) fun r1 => some (((!r1.1.1.1, ()), ()), ())
abbrev S : ShapeParts := ⟨[⟨true, [.int .i64, .int .i64, .int .i64, .int .i64, .int .i64, .int .i64, .lst (.int .i64)]⟩, ⟨false, [.ptr 0 0]⟩, ⟨false, [.ptr 1 0]⟩], [(0, .cbox [.int .i64]), (1, .cbox [.int .i64])], false, [⟨false, [.bool]⟩], [], []⟩
def s (k : Nat) : FS := S.fs fun x => f k x.1.1 x.2.1.1 x.2.2.1.1
def E (k : Nat) : Ents := [(⟨156, []⟩, U94.s k)]
def L : List (LS R) := []
def c : Code := Tryz.f155.body.getD .skip
theorem eq (k : Nat) (x) : (s k).pf x = execF tab (E k) Tryz.f155 c (s k) L x := by kernel_rfl
theorem sound : ∀ k, Sound Tryz.prog 155 (s k) := snd S (fun k => (s k).pf) E (fun k => (EntsOK.cons (U94.sound k) EntsOK.nil)) (fun k => L) (fun k => trivial) eq
end U95
namespace U96
abbrev R := (((Int × Unit) × Unit) × Unit)
abbrev T0 : Type := (List tInstD) → Int → Int → Int → Int → Option R
def l0_ (k : Nat) (l0 : T0) (a0 : List tInstD) (a1 : Int) (a2 : Int) (a3 : Int) (a4 : Int) : Option R := bif decide (a2 < a1) then (bif (decide (0 ≤ a2)) && (decide (a2 < ((List.length a0 : Nat) : Int))) then (Option.bind (U95.f k (List.getD a0 (Int.toNat a2) tInstZ) a3 a4) fun r1 => bif r1.1.1.1 then (some (((a2, ()), ()), ())) else (l0 a0 a1 (IntKind.wrap .i64 (a2 + 1)) a3 a4)) else none) else (some (((-1, ()), ()), ()))
def all : Nat → (T0) × Unit
 | 0 => (fun _ _ _ _ _ => none, ())
 | k + 1 => (l0_ k (all k).1, ())
def l0 (k : Nat) : T0 := (all k).1
def f (k : Nat) (a0 : List tInstD) (a1 : Int) (a2 : Int) : Option R := l0 k a0 ((List.length a0 : Nat) : Int) 0 a1 a2
abbrev S : ShapeParts := ⟨[⟨false, [.lst tInst]⟩, ⟨false, [.fn 155 [(0, 0), (1, 0)]]⟩], [(0, .cbox [.int .i64]), (1, .cbox [.int .i64])], false, [⟨false, [.int .i64]⟩], [], []⟩
def s (k : Nat) : FS := S.fs fun x => f k x.1.1.1 x.2.1.1 x.2.2.1.1
def E (k : Nat) : Ents := [(⟨155, []⟩, U95.s k)]
def L0 (l : T0) : LS R := ⟨[], [(0, ⟨false, [.lst tInst]⟩), (1, ⟨false, [.fn 155 [(0, 0), (1, 0)]]⟩), (7, ⟨false, [.int .i64]⟩), (8, ⟨false, [.int .i64]⟩)], [(0, .cbox [.int .i64]), (1, .cbox [.int .i64])], fun x => l x.1.1.1 x.1.2.2.1.1 x.1.2.2.2.1.1 x.2.1.1 x.2.2.1.1⟩
def L (l0 : T0) : List (LS R) := [L0 l0]
def c : Code := Tryz.f163.body.getD .skip
theorem eq (k : Nat) (x) : (s k).pf x = execF tab (E k) Tryz.f163 c (s k) (L (l0 k)) x := by kernel_rfl
theorem r0 (l0 : T0) (k : Nat) (x) : (L0 (l0_ k l0)).l x = roundOf tab (E k) (L l0) c (fin tab Tryz.f163 (s k)) 0 (L0 l0) x := by kernel_rfl
theorem sound : ∀ k, Sound Tryz.prog 163 (s k) := snd S (fun k => (s k).pf) E (fun k => (EntsOK.cons (U95.sound k) EntsOK.nil)) (fun k => L (l0 k)) (fun k => ⟨⟨(L0 (l0 (k + 1))).l, rfl, fun x => r0 (l0 k) k x⟩, trivial⟩) eq
end U96
namespace U97
abbrev R := (((Bool × Unit) × Unit) × Unit)
def f (k : Nat) (a0 : List tInstD) (a1 : Int) (a2 : Int) : Option R := Option.bind (U96.f k a0 a1 a2) fun r1 => some (((decide (0 ≤ r1.1.1.1), ()), ()), ())
abbrev S : ShapeParts := ⟨[⟨false, [.lst tInst]⟩, ⟨false, [.fn 155 [(0, 0), (1, 0)]]⟩], [(0, .cbox [.int .i64]), (1, .cbox [.int .i64])], false, [⟨false, [.bool]⟩], [], []⟩
def s (k : Nat) : FS := S.fs fun x => f k x.1.1.1 x.2.1.1 x.2.2.1.1
def E (k : Nat) : Ents := [(⟨163, [155]⟩, U96.s k)]
def L : List (LS R) := []
def c : Code := Tryz.f142.body.getD .skip
theorem eq (k : Nat) (x) : (s k).pf x = execF tab (E k) Tryz.f142 c (s k) L x := by kernel_rfl
theorem sound : ∀ k, Sound Tryz.prog 142 (s k) := snd S (fun k => (s k).pf) E (fun k => (EntsOK.cons (U96.sound k) EntsOK.nil)) (fun k => L) (fun k => trivial) eq
end U97
namespace U98
abbrev R := (((Bool × Unit) × Unit) × Unit)
def f (k : Nat) (a0 : Int) (a1 : tFuncD) : Option R := Option.bind (U69.f k a0 0 (IntKind.wrap .i64 (((List.length a1.2.2.1 : Nat) : Int) - 1))) fun r1 => some (((r1.1.1.1, ()), ()), ())
abbrev S : ShapeParts := ⟨[⟨false, [.int .i64]⟩, ⟨false, [.ptr 0 0]⟩], [(0, .cbox [.lst (.int .i64), .int .i64, .lst tBlock])], false, [⟨false, [.bool]⟩], [], []⟩
def s (k : Nat) : FS := S.fs fun x => f k x.1.1.1 x.2.1
def E (k : Nat) : Ents := [(⟨69, []⟩, U69.s k)]
def L : List (LS R) := []
def c : Code := Tryz.f175.body.getD .skip
theorem eq (k : Nat) (x) : (s k).pf x = execF tab (E k) Tryz.f175 c (s k) L x := by kernel_rfl
theorem sound : ∀ k, Sound Tryz.prog 175 (s k) := snd S (fun k => (s k).pf) E (fun k => (EntsOK.cons (U69.sound k) EntsOK.nil)) (fun k => L) (fun k => trivial) eq
end U98
namespace U99
abbrev R := (((Bool × Unit) × Unit) × Unit)
def f (k : Nat) (a0 : tFuncD) (a1 : tTermD) (a2 : Int) : Option R := bif decide (a1.1 = 1) then (Option.bind (U69.f k a1.2.1 0 (IntKind.wrap .i64 (a2 - 1))) fun r1 => bif r1.1.1.1 then (bif decide (a1.2.2.1 = 0) then (some (((decide (a1.2.2.2.1 = 0), ()), ()), ())) else (some (((false, ()), ()), ()))) else (some (((false, ()), ()), ()))) else (bif decide (a1.1 = 2) then (bif decide (a1.2.1 = 0) then (Option.bind (U98.f k a1.2.2.1 a0) fun r2 => bif r2.1.1.1 then (some (((decide (a1.2.2.2.1 = 0), ()), ()), ())) else (some (((false, ()), ()), ()))) else (some (((false, ()), ()), ()))) else (bif decide (a1.1 = 3) then (Option.bind (U69.f k a1.2.1 0 (IntKind.wrap .i64 (a2 - 1))) fun r3 => bif r3.1.1.1 then (Option.bind (U98.f k a1.2.2.1 a0) fun r4 => bif r4.1.1.1 then (Option.bind (U98.f k a1.2.2.2.1 a0) fun r5 => bif r5.1.1.1 then (some (((!decide (a1.2.2.1 = a1.2.2.2.1), ()), ()), ())) else (some (((false, ()), ()), ()))) else (some (((false, ()), ()), ()))) else (some (((false, ()), ()), ()))) else (bif decide (a1.1 = 4) then (bif decide (a1.2.1 = 0) then (bif decide (a1.2.2.1 = 0) then (some (((decide (a1.2.2.2.1 = 0), ()), ()), ())) else (some (((false, ()), ()), ()))) else (some (((false, ()), ()), ()))) else (some (((false, ()), ()), ())))))
abbrev S : ShapeParts := ⟨[⟨true, [.lst (.int .i64), .int .i64, .lst tBlock]⟩, ⟨true, [.int .i64, .int .i64, .int .i64, .int .i64]⟩, ⟨false, [.int .i64]⟩], [], false, [⟨false, [.bool]⟩], [], []⟩
def s (k : Nat) : FS := S.fs fun x => f k x.1.1 x.1.2.1 x.1.2.2.1.1
def E (k : Nat) : Ents := [(⟨69, []⟩, U69.s k), (⟨175, []⟩, U98.s k)]
def L : List (LS R) := []
def c : Code := Tryz.f157.body.getD .skip
theorem eq (k : Nat) (x) : (s k).pf x = execF tab (E k) Tryz.f157 c (s k) L x := by kernel_rfl
theorem sound : ∀ k, Sound Tryz.prog 157 (s k) := snd S (fun k => (s k).pf) E (fun k => (EntsOK.cons (U69.sound k) (EntsOK.cons (U98.sound k) EntsOK.nil))) (fun k => L) (fun k => trivial) eq
end U99
namespace U100
abbrev R := (((Bool × Unit) × Unit) × Unit)
abbrev T0 : Type := (List tBlockD) → Int → Int → tFuncD → Int → Int → Option R
def l0_ (k : Nat) (l0 : T0) (a0 : List tBlockD) (a1 : Int) (a2 : Int) (a3 : tFuncD) (a4 : Int) (a5 : Int) : Option R := bif decide (a2 < a1) then (bif (decide (0 ≤ a2)) && (decide (a2 < ((List.length a0 : Nat) : Int))) then (Option.bind (U80.f k ((List.getD a0 (Int.toNat a2) tBlockZ).1) a5) fun r1 => bif r1.1.1.1 then (some (((false, ()), ()), ())) else (Option.bind (U97.f k ((List.getD a0 (Int.toNat a2) tBlockZ).2.1) a5 a4) fun r2 => bif r2.1.1.1 then (some (((false, ()), ()), ())) else (Option.bind (U99.f k a3 ((List.getD a0 (Int.toNat a2) tBlockZ).2.2) a5) fun r3 => bif !r3.1.1.1 then (some (((false, ()), ()), ())) else (l0 a0 a1 (IntKind.wrap .i64 (a2 + 1)) a3 a4 a5)))) else none) else (some (((true, ()), ()), ()))
def all : Nat → (T0) × Unit
 | 0 => (fun _ _ _ _ _ _ => none, ())
 | k + 1 => (l0_ k (all k).1, ())
def l0 (k : Nat) : T0 := (all k).1
def f (k : Nat) (a0 : tFuncD) (a1 : Int) : Option R := bif decide (4 < ((List.length a0.1 : Nat) : Int)) then (some (((false, ()), ()), ())) else (Option.bind (U70.f k a0.2.1) fun r1 => bif !r1.1.1.1 then (some (((false, ()), ()), ())) else (Option.bind (U69.f k ((List.length a0.2.2.1 : Nat) : Int) 1 10) fun r2 => bif !r2.1.1.1 then (some (((false, ()), ()), ())) else (Option.bind (U73.f k a0.1) fun r3 => bif r3.1.1.1 then (some (((false, ()), ()), ())) else (Option.bind (U74.f k a0) fun r4 => bif decide (60 < r4.1.1.1) then (some (((false, ()), ()), ())) else (l0 k a0.2.2.1 ((List.length a0.2.2.1 : Nat) : Int) 0 a0 a1 r4.1.1.1)))))
abbrev S : ShapeParts := ⟨[⟨true, [.lst (.int .i64), .int .i64, .lst tBlock]⟩, ⟨false, [.int .i64]⟩], [], false, [⟨false, [.bool]⟩], [], []⟩
def s (k : Nat) : FS := S.fs fun x => f k x.1.1 x.1.2.1.1
def E (k : Nat) : Ents := [(⟨72, []⟩, U70.s k), (⟨69, []⟩, U69.s k), (⟨150, [151]⟩, U73.s k), (⟨128, []⟩, U74.s k), (⟨152, [153]⟩, U80.s k), (⟨142, [155]⟩, U97.s k), (⟨157, []⟩, U99.s k)]
def L0 (l : T0) : LS R := ⟨[], [(2, ⟨false, [.ptr 100000 0]⟩), (3, ⟨false, [.ptr 100001 0]⟩), (5, ⟨false, [.ptr 100002 0]⟩), (35, ⟨false, [.lst tBlock]⟩), (36, ⟨false, [.int .i64]⟩), (37, ⟨false, [.int .i64]⟩)], [(100000, .box [.lst (.int .i64), .int .i64, .lst tBlock]), (100001, .box [.int .i64]), (100002, .box [.int .i64])], fun x => l x.1.2.2.2.1.1 x.1.2.2.2.2.1.1 x.1.2.2.2.2.2.1.1 x.2.1 x.2.2.1.1 x.2.2.2.1.1⟩
def L (l0 : T0) : List (LS R) := [L0 l0]
def c : Code := Tryz.f138.body.getD .skip
theorem eq (k : Nat) (x) : (s k).pf x = execF tab (E k) Tryz.f138 c (s k) (L (l0 k)) x := by kernel_rfl
theorem r0 (l0 : T0) (k : Nat) (x) : (L0 (l0_ k l0)).l x = roundOf tab (E k) (L l0) c (fin tab Tryz.f138 (s k)) 0 (L0 l0) x := by kernel_rfl
theorem sound : ∀ k, Sound Tryz.prog 138 (s k) := snd S (fun k => (s k).pf) E (fun k => (EntsOK.cons (U70.sound k) (EntsOK.cons (U69.sound k) (EntsOK.cons (U73.sound k) (EntsOK.cons (U74.sound k) (EntsOK.cons (U80.sound k) (EntsOK.cons (U97.sound k) (EntsOK.cons (U99.sound k) EntsOK.nil)))))))) (fun k => L (l0 k)) (fun k => ⟨⟨(L0 (l0 (k + 1))).l, rfl, fun x => r0 (l0 k) k x⟩, trivial⟩) eq
end U100
namespace U101
abbrev R := (((Bool × Unit) × Unit) × Unit)
def f (k : Nat) (a0 : tFuncD) (a1 : Int) : Option R := Option.bind (U100.f k a0 a1) fun r1 => some (((!r1.1.1.1, ()), ()), ())
abbrev S : ShapeParts := ⟨[⟨true, [.lst (.int .i64), .int .i64, .lst tBlock]⟩, ⟨false, [.ptr 0 0]⟩], [(0, .cbox [.int .i64])], false, [⟨false, [.bool]⟩], [], []⟩
def s (k : Nat) : FS := S.fs fun x => f k x.1.1 x.2.1.1
def E (k : Nat) : Ents := [(⟨138, []⟩, U100.s k)]
def L : List (LS R) := []
def c : Code := Tryz.f137.body.getD .skip
theorem eq (k : Nat) (x) : (s k).pf x = execF tab (E k) Tryz.f137 c (s k) L x := by kernel_rfl
theorem sound : ∀ k, Sound Tryz.prog 137 (s k) := snd S (fun k => (s k).pf) E (fun k => (EntsOK.cons (U100.sound k) EntsOK.nil)) (fun k => L) (fun k => trivial) eq
end U101
namespace U102
abbrev R := (((Int × Unit) × Unit) × Unit)
abbrev T0 : Type := (List tFuncD) → Int → Int → Int → Option R
def l0_ (k : Nat) (l0 : T0) (a0 : List tFuncD) (a1 : Int) (a2 : Int) (a3 : Int) : Option R := bif decide (a2 < a1) then (bif (decide (0 ≤ a2)) && (decide (a2 < ((List.length a0 : Nat) : Int))) then (Option.bind (U101.f k (List.getD a0 (Int.toNat a2) tFuncZ) a3) fun r1 => bif r1.1.1.1 then (some (((a2, ()), ()), ())) else (l0 a0 a1 (IntKind.wrap .i64 (a2 + 1)) a3)) else none) else (some (((-1, ()), ()), ()))
def all : Nat → (T0) × Unit
 | 0 => (fun _ _ _ _ => none, ())
 | k + 1 => (l0_ k (all k).1, ())
def l0 (k : Nat) : T0 := (all k).1
def f (k : Nat) (a0 : List tFuncD) (a1 : Int) : Option R := l0 k a0 ((List.length a0 : Nat) : Int) 0 a1
abbrev S : ShapeParts := ⟨[⟨false, [.lst tFunc]⟩, ⟨false, [.fn 137 [(0, 0)]]⟩], [(0, .cbox [.int .i64])], false, [⟨false, [.int .i64]⟩], [], []⟩
def s (k : Nat) : FS := S.fs fun x => f k x.1.1.1 x.2.1.1
def E (k : Nat) : Ents := [(⟨137, []⟩, U101.s k)]
def L0 (l : T0) : LS R := ⟨[], [(0, ⟨false, [.lst tFunc]⟩), (1, ⟨false, [.fn 137 [(0, 0)]]⟩), (7, ⟨false, [.int .i64]⟩), (8, ⟨false, [.int .i64]⟩)], [(0, .cbox [.int .i64])], fun x => l x.1.1.1 x.1.2.2.1.1 x.1.2.2.2.1.1 x.2.1.1⟩
def L (l0 : T0) : List (LS R) := [L0 l0]
def c : Code := Tryz.f149.body.getD .skip
theorem eq (k : Nat) (x) : (s k).pf x = execF tab (E k) Tryz.f149 c (s k) (L (l0 k)) x := by kernel_rfl
theorem r0 (l0 : T0) (k : Nat) (x) : (L0 (l0_ k l0)).l x = roundOf tab (E k) (L l0) c (fin tab Tryz.f149 (s k)) 0 (L0 l0) x := by kernel_rfl
theorem sound : ∀ k, Sound Tryz.prog 149 (s k) := snd S (fun k => (s k).pf) E (fun k => (EntsOK.cons (U101.sound k) EntsOK.nil)) (fun k => L (l0 k)) (fun k => ⟨⟨(L0 (l0 (k + 1))).l, rfl, fun x => r0 (l0 k) k x⟩, trivial⟩) eq
end U102
namespace U103
abbrev R := (((Bool × Unit) × Unit) × Unit)
def f (k : Nat) (a0 : List tFuncD) (a1 : Int) : Option R := Option.bind (U102.f k a0 a1) fun r1 => some (((decide (0 ≤ r1.1.1.1), ()), ()), ())
abbrev S : ShapeParts := ⟨[⟨false, [.lst tFunc]⟩, ⟨false, [.fn 137 [(0, 0)]]⟩], [(0, .cbox [.int .i64])], false, [⟨false, [.bool]⟩], [], []⟩
def s (k : Nat) : FS := S.fs fun x => f k x.1.1.1 x.2.1.1
def E (k : Nat) : Ents := [(⟨149, [137]⟩, U102.s k)]
def L : List (LS R) := []
def c : Code := Tryz.f136.body.getD .skip
theorem eq (k : Nat) (x) : (s k).pf x = execF tab (E k) Tryz.f136 c (s k) L x := by kernel_rfl
theorem sound : ∀ k, Sound Tryz.prog 136 (s k) := snd S (fun k => (s k).pf) E (fun k => (EntsOK.cons (U102.sound k) EntsOK.nil)) (fun k => L) (fun k => trivial) eq
end U103
namespace U104
abbrev R := (((Bool × Unit) × Unit) × Unit)
def f (k : Nat) (a0 : tModuleD) : Option R := Option.bind (U69.f k ((List.length a0.1 : Nat) : Int) 1 3) fun r1 => bif r1.1.1.1 then (Option.bind (U103.f k a0.1 ((List.length a0.1 : Nat) : Int)) fun r2 => some (((!r2.1.1.1, ()), ()), ())) else (some (((false, ()), ()), ()))
abbrev S : ShapeParts := ⟨[⟨true, [.lst tFunc]⟩], [], false, [⟨false, [.bool]⟩], [], []⟩
def s (k : Nat) : FS := S.fs fun x => f k x.1.1
def E (k : Nat) : Ents := [(⟨69, []⟩, U69.s k), (⟨136, [137]⟩, U103.s k)]
def L : List (LS R) := []
def c : Code := Tryz.f122.body.getD .skip
theorem eq (k : Nat) (x) : (s k).pf x = execF tab (E k) Tryz.f122 c (s k) L x := by kernel_rfl
theorem sound : ∀ k, Sound Tryz.prog 122 (s k) := snd S (fun k => (s k).pf) E (fun k => (EntsOK.cons (U69.sound k) (EntsOK.cons (U103.sound k) EntsOK.nil))) (fun k => L) (fun k => trivial) eq
end U104
namespace U105
abbrev R := (((Unit × Unit) × Unit) × ((List Int) × Unit))
def f (k : Nat) (a0 : tTermD) : Option R := bif decide (a0.1 = 2) then (some ((((), ()), ()), ([a0.2.2.1], ()))) else (bif decide (a0.1 = 3) then (some ((((), ()), ()), ([a0.2.2.1, a0.2.2.2.1], ()))) else (some ((((), ()), ()), (([] : List Int), ()))))
abbrev S : ShapeParts := ⟨[⟨true, [.int .i64, .int .i64, .int .i64, .int .i64]⟩], [], false, [⟨false, [.own 100]⟩], [(100, .row true (.int .i64))], []⟩
def s (k : Nat) : FS := S.fs fun x => f k x.1.1
def E (k : Nat) : Ents := []
def L : List (LS R) := []
def c : Code := Tryz.f164.body.getD .skip
theorem eq (k : Nat) (x) : (s k).pf x = execF tab (E k) Tryz.f164 c (s k) L x := by kernel_rfl
theorem sound : ∀ k, Sound Tryz.prog 164 (s k) := snd S (fun k => (s k).pf) E (fun k => EntsOK.nil) (fun k => L) (fun k => trivial) eq
end U105
namespace U106
abbrev R := (((Int × Unit) × Unit) × Unit)
abbrev T0 : Type := (List Int) → Int → Int → Int → Option R
def l0_ (k : Nat) (l0 : T0) (a0 : List Int) (a1 : Int) (a2 : Int) (a3 : Int) : Option R := bif decide (a3 < a2) then (bif (decide (0 ≤ a3)) && (decide (a3 < ((List.length a0 : Nat) : Int))) then (bif decide (a1 = List.getD a0 (Int.toNat a3) 0) then (some (((a3, ()), ()), ())) else (l0 a0 a1 a2 (IntKind.wrap .i64 (a3 + 1)))) else none) else (some (((-1, ()), ()), ()))
def all : Nat → (T0) × Unit
 | 0 => (fun _ _ _ _ => none, ())
 | k + 1 => (l0_ k (all k).1, ())
def l0 (k : Nat) : T0 := (all k).1
def f (k : Nat) (a0 : List Int) (a1 : Int) : Option R := l0 k a0 a1 ((List.length a0 : Nat) : Int) 0
abbrev S : ShapeParts := ⟨[⟨false, [.lst (.int .i64)]⟩, ⟨false, [.int .i64]⟩], [], false, [⟨false, [.int .i64]⟩], [], []⟩
def s (k : Nat) : FS := S.fs fun x => f k x.1.1.1 x.1.2.1.1
def E (k : Nat) : Ents := []
def L0 (l : T0) : LS R := ⟨[], [(0, ⟨false, [.lst (.int .i64)]⟩), (1, ⟨false, [.int .i64]⟩), (7, ⟨false, [.int .i64]⟩), (8, ⟨false, [.int .i64]⟩)], [], fun x => l x.1.1.1 x.1.2.1.1 x.1.2.2.1.1 x.1.2.2.2.1.1⟩
def L (l0 : T0) : List (LS R) := [L0 l0]
def c : Code := Tryz.f127.body.getD .skip
theorem eq (k : Nat) (x) : (s k).pf x = execF tab (E k) Tryz.f127 c (s k) (L (l0 k)) x := by kernel_rfl
theorem r0 (l0 : T0) (k : Nat) (x) : (L0 (l0_ k l0)).l x = roundOf tab (E k) (L l0) c (fin tab Tryz.f127 (s k)) 0 (L0 l0) x := by kernel_rfl
theorem sound : ∀ k, Sound Tryz.prog 127 (s k) := snd S (fun k => (s k).pf) E (fun k => EntsOK.nil) (fun k => L (l0 k)) (fun k => ⟨⟨(L0 (l0 (k + 1))).l, rfl, fun x => r0 (l0 k) k x⟩, trivial⟩) eq
end U106
namespace U107
abbrev R := (((Bool × Unit) × Unit) × Unit)
def f (k : Nat) (a0 : List Int) (a1 : Int) : Option R := Option.bind (U106.f k a0 a1) fun r1 => some (((decide (0 ≤ r1.1.1.1), ()), ()), ())
abbrev S : ShapeParts := ⟨[⟨false, [.lst (.int .i64)]⟩, ⟨false, [.int .i64]⟩], [], false, [⟨false, [.bool]⟩], [], []⟩
def s (k : Nat) : FS := S.fs fun x => f k x.1.1.1 x.1.2.1.1
def E (k : Nat) : Ents := [(⟨127, []⟩, U106.s k)]
def L : List (LS R) := []
def c : Code := Tryz.f109.body.getD .skip
theorem eq (k : Nat) (x) : (s k).pf x = execF tab (E k) Tryz.f109 c (s k) L x := by kernel_rfl
theorem sound : ∀ k, Sound Tryz.prog 109 (s k) := snd S (fun k => (s k).pf) E (fun k => (EntsOK.cons (U106.sound k) EntsOK.nil)) (fun k => L) (fun k => trivial) eq
end U107
namespace U108
abbrev R := (((Unit × Unit) × Unit) × ((List Int) × Unit))
abbrev T0 : Type := Int → (List tBlockD) → Int → Int → (List Int) → Option R
def l0_ (k : Nat) (l0 : T0) (a0 : Int) (a1 : List tBlockD) (a2 : Int) (a3 : Int) (a4 : List Int) : Option R := bif decide (a3 < a2) then (bif (decide (0 ≤ a3)) && (decide (a3 < ((List.length a1 : Nat) : Int))) then (Option.bind (U105.f k ((List.getD a1 (Int.toNat a3) tBlockZ).2.2)) fun r1 => Option.bind (U107.f k r1.2.1 a0) fun r2 => bif r2.1.1.1 then (bif decide ((List.length a4 + List.length [a3]) * 8 ≤ 140737488355328) then (l0 a0 a1 a2 (IntKind.wrap .i64 (a3 + 1)) (a4 ++ [a3])) else none) else (l0 a0 a1 a2 (IntKind.wrap .i64 (a3 + 1)) a4)) else none) else (some ((((), ()), ()), (a4, ())))
def all : Nat → (T0) × Unit
 | 0 => (fun _ _ _ _ _ => none, ())
 | k + 1 => (l0_ k (all k).1, ())
def l0 (k : Nat) : T0 := (all k).1
def f (k : Nat) (a0 : tFuncD) (a1 : Int) : Option R := l0 k a1 a0.2.2.1 ((List.length a0.2.2.1 : Nat) : Int) 0 ([] : List Int)
abbrev S : ShapeParts := ⟨[⟨true, [.lst (.int .i64), .int .i64, .lst tBlock]⟩, ⟨false, [.int .i64]⟩], [], false, [⟨false, [.own 100]⟩], [(100, .row true (.int .i64))], []⟩
def s (k : Nat) : FS := S.fs fun x => f k x.1.1 x.1.2.1.1
def E (k : Nat) : Ents := [(⟨164, []⟩, U105.s k), (⟨109, []⟩, U107.s k)]
def L0 (l : T0) : LS R := ⟨[], [(1, ⟨false, [.int .i64]⟩), (5, ⟨false, [.own 100000]⟩), (10, ⟨false, [.lst tBlock]⟩), (11, ⟨false, [.int .i64]⟩), (12, ⟨false, [.int .i64]⟩)], [(100000, .row true (.int .i64))], fun x => l x.1.1.1 x.1.2.2.1.1 x.1.2.2.2.1.1 x.1.2.2.2.2.1.1 x.2.1⟩
def L (l0 : T0) : List (LS R) := [L0 l0]
def c : Code := Tryz.f158.body.getD .skip
theorem eq (k : Nat) (x) : (s k).pf x = execF tab (E k) Tryz.f158 c (s k) (L (l0 k)) x := by kernel_rfl
theorem r0 (l0 : T0) (k : Nat) (x) : (L0 (l0_ k l0)).l x = roundOf tab (E k) (L l0) c (fin tab Tryz.f158 (s k)) 0 (L0 l0) x := by kernel_rfl
theorem sound : ∀ k, Sound Tryz.prog 158 (s k) := snd S (fun k => (s k).pf) E (fun k => (EntsOK.cons (U105.sound k) (EntsOK.cons (U107.sound k) EntsOK.nil))) (fun k => L (l0 k)) (fun k => ⟨⟨(L0 (l0 (k + 1))).l, rfl, fun x => r0 (l0 k) k x⟩, trivial⟩) eq
end U108
namespace U109
abbrev R := (((Bool × Unit) × Unit) × Unit)
def f (k : Nat) (a0 : tFuncD) : Option R := bif (decide (0 ≤ 0)) && (decide (0 < ((List.length a0.2.2.1 : Nat) : Int))) then (bif decide (((List.length ((List.getD a0.2.2.1 0 tBlockZ).1) : Nat) : Int) = 0) then (Option.bind (U108.f k a0 0) fun r1 => some (((decide (((List.length r1.2.1 : Nat) : Int) = 0), ()), ()), ())) else (some (((false, ()), ()), ()))) else none
abbrev S : ShapeParts := ⟨[⟨true, [.lst (.int .i64), .int .i64, .lst tBlock]⟩], [], false, [⟨false, [.bool]⟩], [], []⟩
def s (k : Nat) : FS := S.fs fun x => f k x.1.1
def E (k : Nat) : Ents := [(⟨158, []⟩, U108.s k)]
def L : List (LS R) := []
def c : Code := Tryz.f139.body.getD .skip
theorem eq (k : Nat) (x) : (s k).pf x = execF tab (E k) Tryz.f139 c (s k) L x := by kernel_rfl
theorem sound : ∀ k, Sound Tryz.prog 139 (s k) := snd S (fun k => (s k).pf) E (fun k => (EntsOK.cons (U108.sound k) EntsOK.nil)) (fun k => L) (fun k => trivial) eq
end U109
namespace U110
abbrev R := (((Bool × Unit) × Unit) × Unit)
def f (k : Nat) (a0 : tPhiD) (a1 : Int) : Option R := some (((!decide (((List.length a0.2.1 : Nat) : Int) = a1), ()), ()), ())
abbrev S : ShapeParts := ⟨[⟨true, [.int .i64, .lst (.int .i64)]⟩, ⟨false, [.ptr 0 0]⟩], [(0, .cbox [.int .i64])], false, [⟨false, [.bool]⟩], [], []⟩
def s (k : Nat) : FS := S.fs fun x => f k x.1.1 x.2.1.1
def E (k : Nat) : Ents := []
def L : List (LS R) := []
def c : Code := Tryz.f159.body.getD .skip
theorem eq (k : Nat) (x) : (s k).pf x = execF tab (E k) Tryz.f159 c (s k) L x := by kernel_rfl
theorem sound : ∀ k, Sound Tryz.prog 159 (s k) := snd S (fun k => (s k).pf) E (fun k => EntsOK.nil) (fun k => L) (fun k => trivial) eq
end U110
namespace U111
abbrev R := (((Int × Unit) × Unit) × Unit)
abbrev T0 : Type := (List tPhiD) → Int → Int → Int → Option R
def l0_ (k : Nat) (l0 : T0) (a0 : List tPhiD) (a1 : Int) (a2 : Int) (a3 : Int) : Option R := bif decide (a2 < a1) then (bif (decide (0 ≤ a2)) && (decide (a2 < ((List.length a0 : Nat) : Int))) then (Option.bind (U110.f k (List.getD a0 (Int.toNat a2) tPhiZ) a3) fun r1 => bif r1.1.1.1 then (some (((a2, ()), ()), ())) else (l0 a0 a1 (IntKind.wrap .i64 (a2 + 1)) a3)) else none) else (some (((-1, ()), ()), ()))
def all : Nat → (T0) × Unit
 | 0 => (fun _ _ _ _ => none, ())
 | k + 1 => (l0_ k (all k).1, ())
def l0 (k : Nat) : T0 := (all k).1
def f (k : Nat) (a0 : List tPhiD) (a1 : Int) : Option R := l0 k a0 ((List.length a0 : Nat) : Int) 0 a1
abbrev S : ShapeParts := ⟨[⟨false, [.lst tPhi]⟩, ⟨false, [.fn 159 [(0, 0)]]⟩], [(0, .cbox [.int .i64])], false, [⟨false, [.int .i64]⟩], [], []⟩
def s (k : Nat) : FS := S.fs fun x => f k x.1.1.1 x.2.1.1
def E (k : Nat) : Ents := [(⟨159, []⟩, U110.s k)]
def L0 (l : T0) : LS R := ⟨[], [(0, ⟨false, [.lst tPhi]⟩), (1, ⟨false, [.fn 159 [(0, 0)]]⟩), (7, ⟨false, [.int .i64]⟩), (8, ⟨false, [.int .i64]⟩)], [(0, .cbox [.int .i64])], fun x => l x.1.1.1 x.1.2.2.1.1 x.1.2.2.2.1.1 x.2.1.1⟩
def L (l0 : T0) : List (LS R) := [L0 l0]
def c : Code := Tryz.f170.body.getD .skip
theorem eq (k : Nat) (x) : (s k).pf x = execF tab (E k) Tryz.f170 c (s k) (L (l0 k)) x := by kernel_rfl
theorem r0 (l0 : T0) (k : Nat) (x) : (L0 (l0_ k l0)).l x = roundOf tab (E k) (L l0) c (fin tab Tryz.f170 (s k)) 0 (L0 l0) x := by kernel_rfl
theorem sound : ∀ k, Sound Tryz.prog 170 (s k) := snd S (fun k => (s k).pf) E (fun k => (EntsOK.cons (U110.sound k) EntsOK.nil)) (fun k => L (l0 k)) (fun k => ⟨⟨(L0 (l0 (k + 1))).l, rfl, fun x => r0 (l0 k) k x⟩, trivial⟩) eq
end U111
namespace U112
abbrev R := (((Bool × Unit) × Unit) × Unit)
def f (k : Nat) (a0 : List tPhiD) (a1 : Int) : Option R := Option.bind (U111.f k a0 a1) fun r1 => some (((decide (0 ≤ r1.1.1.1), ()), ()), ())
abbrev S : ShapeParts := ⟨[⟨false, [.lst tPhi]⟩, ⟨false, [.fn 159 [(0, 0)]]⟩], [(0, .cbox [.int .i64])], false, [⟨false, [.bool]⟩], [], []⟩
def s (k : Nat) : FS := S.fs fun x => f k x.1.1.1 x.2.1.1
def E (k : Nat) : Ents := [(⟨170, [159]⟩, U111.s k)]
def L : List (LS R) := []
def c : Code := Tryz.f152.body.getD .skip
theorem eq (k : Nat) (x) : (s k).pf x = execF tab (E k) Tryz.f152 c (s k) L x := by kernel_rfl
theorem sound : ∀ k, Sound Tryz.prog 152 (s k) := snd S (fun k => (s k).pf) E (fun k => (EntsOK.cons (U111.sound k) EntsOK.nil)) (fun k => L) (fun k => trivial) eq
end U112
namespace U113
abbrev R := (((Bool × Unit) × Unit) × Unit)
abbrev T0 : Type := (List tBlockD) → Int → Int → tFuncD → Option R
def l0_ (k : Nat) (l0 : T0) (a0 : List tBlockD) (a1 : Int) (a2 : Int) (a3 : tFuncD) : Option R := bif decide (a2 < a1) then (bif (decide (0 ≤ a2)) && (decide (a2 < ((List.length a0 : Nat) : Int))) then (Option.bind (U108.f k a3 a2) fun r1 => Option.bind (U112.f k ((List.getD a0 (Int.toNat a2) tBlockZ).1) ((List.length r1.2.1 : Nat) : Int)) fun r2 => bif r2.1.1.1 then (some (((false, ()), ()), ())) else (l0 a0 a1 (IntKind.wrap .i64 (a2 + 1)) a3)) else none) else (some (((true, ()), ()), ()))
def all : Nat → (T0) × Unit
 | 0 => (fun _ _ _ _ => none, ())
 | k + 1 => (l0_ k (all k).1, ())
def l0 (k : Nat) : T0 := (all k).1
def f (k : Nat) (a0 : tFuncD) : Option R := l0 k a0.2.2.1 ((List.length a0.2.2.1 : Nat) : Int) 0 a0
abbrev S : ShapeParts := ⟨[⟨true, [.lst (.int .i64), .int .i64, .lst tBlock]⟩], [], false, [⟨false, [.bool]⟩], [], []⟩
def s (k : Nat) : FS := S.fs fun x => f k x.1.1
def E (k : Nat) : Ents := [(⟨158, []⟩, U108.s k), (⟨152, [159]⟩, U112.s k)]
def L0 (l : T0) : LS R := ⟨[], [(1, ⟨false, [.ptr 100000 0]⟩), (7, ⟨false, [.lst tBlock]⟩), (8, ⟨false, [.int .i64]⟩), (9, ⟨false, [.int .i64]⟩)], [(100000, .box [.lst (.int .i64), .int .i64, .lst tBlock])], fun x => l x.1.2.1.1 x.1.2.2.1.1 x.1.2.2.2.1.1 x.2.1⟩
def L (l0 : T0) : List (LS R) := [L0 l0]
def c : Code := Tryz.f140.body.getD .skip
theorem eq (k : Nat) (x) : (s k).pf x = execF tab (E k) Tryz.f140 c (s k) (L (l0 k)) x := by kernel_rfl
theorem r0 (l0 : T0) (k : Nat) (x) : (L0 (l0_ k l0)).l x = roundOf tab (E k) (L l0) c (fin tab Tryz.f140 (s k)) 0 (L0 l0) x := by kernel_rfl
theorem sound : ∀ k, Sound Tryz.prog 140 (s k) := snd S (fun k => (s k).pf) E (fun k => (EntsOK.cons (U108.sound k) (EntsOK.cons (U112.sound k) EntsOK.nil))) (fun k => L (l0 k)) (fun k => ⟨⟨(L0 (l0 (k + 1))).l, rfl, fun x => r0 (l0 k) k x⟩, trivial⟩) eq
end U113
namespace U114
abbrev R := (((Bool × Unit) × Unit) × Unit)
def f (k : Nat) (a0 : tFuncD) (a1 : Int) : Option R := Option.bind (U74.f k a0) fun r1 => Option.bind (U69.f k a1 0 (IntKind.wrap .i64 (r1.1.1.1 - 1))) fun r2 => some (((r2.1.1.1, ()), ()), ())
abbrev S : ShapeParts := ⟨[⟨true, [.lst (.int .i64), .int .i64, .lst tBlock]⟩, ⟨false, [.int .i64]⟩], [], false, [⟨false, [.bool]⟩], [], []⟩
def s (k : Nat) : FS := S.fs fun x => f k x.1.1 x.1.2.1.1
def E (k : Nat) : Ents := [(⟨128, []⟩, U74.s k), (⟨69, []⟩, U69.s k)]
def L : List (LS R) := []
def c : Code := Tryz.f110.body.getD .skip
theorem eq (k : Nat) (x) : (s k).pf x = execF tab (E k) Tryz.f110 c (s k) L x := by kernel_rfl
theorem sound : ∀ k, Sound Tryz.prog 110 (s k) := snd S (fun k => (s k).pf) E (fun k => (EntsOK.cons (U74.sound k) (EntsOK.cons (U69.sound k) EntsOK.nil))) (fun k => L) (fun k => trivial) eq
end U114
namespace U115
abbrev R := (((Int × Unit) × (Int × Unit) × Unit) × Unit)
abbrev T0 : Type := Int → Int → (List tBlockD) → Int → Int → Option R
def l0_ (k : Nat) (l0 : T0) (a0 : Int) (a1 : Int) (a2 : List tBlockD) (a3 : Int) (a4 : Int) : Option R := bif decide (a4 < a3) then (bif (decide (0 ≤ a4)) && (decide (a4 < ((List.length a2 : Nat) : Int))) then (bif decide (a0 < IntKind.wrap .i64 (a1 + (IntKind.wrap .i64 (((List.length ((List.getD a2 (Int.toNat a4) tBlockZ).1) : Nat) : Int) + ((List.length ((List.getD a2 (Int.toNat a4) tBlockZ).2.1) : Nat) : Int))))) then (some (((a4, ()), (IntKind.wrap .i64 (a0 - a1), ()), ()), ())) else (l0 a0 (IntKind.wrap .i64 (a1 + (IntKind.wrap .i64 (((List.length ((List.getD a2 (Int.toNat a4) tBlockZ).1) : Nat) : Int) + ((List.length ((List.getD a2 (Int.toNat a4) tBlockZ).2.1) : Nat) : Int))))) a2 a3 (IntKind.wrap .i64 (a4 + 1)))) else none) else (some (((-2, ()), (0, ()), ()), ()))
def all : Nat → (T0) × Unit
 | 0 => (fun _ _ _ _ _ => none, ())
 | k + 1 => (l0_ k (all k).1, ())
def l0 (k : Nat) : T0 := (all k).1
def f (k : Nat) (a0 : tFuncD) (a1 : Int) : Option R := Option.bind (U114.f k a0 a1) fun r1 => bif !r1.1.1.1 then (some (((-2, ()), (0, ()), ()), ())) else (bif decide (a1 < ((List.length a0.1 : Nat) : Int)) then (some (((-1, ()), (a1, ()), ()), ())) else (l0 k a1 ((List.length a0.1 : Nat) : Int) a0.2.2.1 ((List.length a0.2.2.1 : Nat) : Int) 0))
abbrev S : ShapeParts := ⟨[⟨true, [.lst (.int .i64), .int .i64, .lst tBlock]⟩, ⟨false, [.int .i64]⟩], [], true, [⟨false, [.int .i64]⟩, ⟨false, [.int .i64]⟩], [], []⟩
def s (k : Nat) : FS := S.fs fun x => f k x.1.1 x.1.2.1.1
def E (k : Nat) : Ents := [(⟨110, []⟩, U114.s k)]
def L0 (l : T0) : LS R := ⟨[], [(1, ⟨false, [.int .i64]⟩), (6, ⟨false, [.int .i64]⟩), (22, ⟨false, [.lst tBlock]⟩), (23, ⟨false, [.int .i64]⟩), (24, ⟨false, [.int .i64]⟩)], [], fun x => l x.1.1.1 x.1.2.1.1 x.1.2.2.1.1 x.1.2.2.2.1.1 x.1.2.2.2.2.1.1⟩
def L (l0 : T0) : List (LS R) := [L0 l0]
def c : Code := Tryz.f75.body.getD .skip
theorem eq (k : Nat) (x) : (s k).pf x = execF tab (E k) Tryz.f75 c (s k) (L (l0 k)) x := by kernel_rfl
theorem r0 (l0 : T0) (k : Nat) (x) : (L0 (l0_ k l0)).l x = roundOf tab (E k) (L l0) c (fin tab Tryz.f75 (s k)) 0 (L0 l0) x := by kernel_rfl
theorem sound : ∀ k, Sound Tryz.prog 75 (s k) := snd S (fun k => (s k).pf) E (fun k => (EntsOK.cons (U114.sound k) EntsOK.nil)) (fun k => L (l0 k)) (fun k => ⟨⟨(L0 (l0 (k + 1))).l, rfl, fun x => r0 (l0 k) k x⟩, trivial⟩) eq
end U115
namespace U116
abbrev R := (((Int × Int × Int × Int × Int × Int × (List Int) × Unit) × (Bool × Unit) × Unit) × Unit)
def f (k : Nat) (a0 : tFuncD) (a1 : Int) : Option R := Option.bind (U115.f k a0 a1) fun r1 => bif decide (r1.1.1.1 < 0) then (some (((0, 0, 0, 0, 0, 0, ([] : List Int), ()), (false, ()), ()), ())) else (bif (decide (0 ≤ r1.1.1.1)) && (decide (r1.1.1.1 < ((List.length a0.2.2.1 : Nat) : Int))) then (bif decide (r1.1.2.1.1 < ((List.length ((List.getD a0.2.2.1 (Int.toNat r1.1.1.1) tBlockZ).1) : Nat) : Int)) then (some (((0, 0, 0, 0, 0, 0, ([] : List Int), ()), (false, ()), ()), ())) else (bif (decide (0 ≤ r1.1.1.1)) && (decide (r1.1.1.1 < ((List.length a0.2.2.1 : Nat) : Int))) then (bif (decide (0 ≤ r1.1.1.1)) && (decide (r1.1.1.1 < ((List.length a0.2.2.1 : Nat) : Int))) then (bif (decide (0 ≤ IntKind.wrap .i64 (r1.1.2.1.1 - ((List.length ((List.getD a0.2.2.1 (Int.toNat r1.1.1.1) tBlockZ).1) : Nat) : Int)))) && (decide (IntKind.wrap .i64 (r1.1.2.1.1 - ((List.length ((List.getD a0.2.2.1 (Int.toNat r1.1.1.1) tBlockZ).1) : Nat) : Int)) < ((List.length ((List.getD a0.2.2.1 (Int.toNat r1.1.1.1) tBlockZ).2.1) : Nat) : Int))) then (some (((List.getD ((List.getD a0.2.2.1 (Int.toNat r1.1.1.1) tBlockZ).2.1) (Int.toNat (IntKind.wrap .i64 (r1.1.2.1.1 - ((List.length ((List.getD a0.2.2.1 (Int.toNat r1.1.1.1) tBlockZ).1) : Nat) : Int)))) tInstZ), (true, ()), ()), ())) else none) else none) else none)) else none)
abbrev S : ShapeParts := ⟨[⟨true, [.lst (.int .i64), .int .i64, .lst tBlock]⟩, ⟨false, [.int .i64]⟩], [], true, [⟨true, [.int .i64, .int .i64, .int .i64, .int .i64, .int .i64, .int .i64, .lst (.int .i64)]⟩, ⟨false, [.bool]⟩], [], []⟩
def s (k : Nat) : FS := S.fs fun x => f k x.1.1 x.1.2.1.1
def E (k : Nat) : Ents := [(⟨75, []⟩, U115.s k)]
def L : List (LS R) := []
def c : Code := Tryz.f68.body.getD .skip
theorem eq (k : Nat) (x) : (s k).pf x = execF tab (E k) Tryz.f68 c (s k) L x := by kernel_rfl
theorem sound : ∀ k, Sound Tryz.prog 68 (s k) := snd S (fun k => (s k).pf) E (fun k => (EntsOK.cons (U115.sound k) EntsOK.nil)) (fun k => L) (fun k => trivial) eq
end U116
namespace U117
abbrev R := (((Int × Unit) × Unit) × Unit)
def f (k : Nat) (a0 : Int) (a1 : Int) : Option R := Option.bind (U81.f k a0) fun r1 => bif !r1.1.1.1 then (some (((0, ()), ()), ())) else (Option.bind (U70.f k a1) fun r2 => bif !r2.1.1.1 then (some (((0, ()), ()), ())) else (bif decide (14 ≤ a0) then (some (((1, ()), ()), ())) else (some (((a1, ()), ()), ()))))
abbrev S : ShapeParts := ⟨[⟨false, [.int .i64]⟩, ⟨false, [.int .i64]⟩], [], false, [⟨false, [.int .i64]⟩], [], []⟩
def s (k : Nat) : FS := S.fs fun x => f k x.1.1.1 x.1.2.1.1
def E (k : Nat) : Ents := [(⟨30, []⟩, U81.s k), (⟨72, []⟩, U70.s k)]
def L : List (LS R) := []
def c : Code := Tryz.f111.body.getD .skip
theorem eq (k : Nat) (x) : (s k).pf x = execF tab (E k) Tryz.f111 c (s k) L x := by kernel_rfl
theorem sound : ∀ k, Sound Tryz.prog 111 (s k) := snd S (fun k => (s k).pf) E (fun k => (EntsOK.cons (U81.sound k) (EntsOK.cons (U70.sound k) EntsOK.nil))) (fun k => L) (fun k => trivial) eq
end U117
namespace U118
abbrev R := (((Int × Unit) × Unit) × Unit)
def f (k : Nat) (a0 : tInstD) : Option R := Option.bind (U81.f k a0.1) fun r1 => bif r1.1.1.1 then (Option.bind (U117.f k a0.1 a0.2.1) fun r2 => some (((r2.1.1.1, ()), ()), ())) else (bif decide (a0.1 = 24) then (some (((0, ()), ()), ())) else (bif decide (a0.1 = 25) then (some (((0, ()), ()), ())) else (some (((a0.2.1, ()), ()), ()))))
abbrev S : ShapeParts := ⟨[⟨true, [.int .i64, .int .i64, .int .i64, .int .i64, .int .i64, .int .i64, .lst (.int .i64)]⟩], [], false, [⟨false, [.int .i64]⟩], [], []⟩
def s (k : Nat) : FS := S.fs fun x => f k x.1.1
def E (k : Nat) : Ents := [(⟨30, []⟩, U81.s k), (⟨111, []⟩, U117.s k)]
def L : List (LS R) := []
def c : Code := Tryz.f76.body.getD .skip
theorem eq (k : Nat) (x) : (s k).pf x = execF tab (E k) Tryz.f76 c (s k) L x := by kernel_rfl
theorem sound : ∀ k, Sound Tryz.prog 76 (s k) := snd S (fun k => (s k).pf) E (fun k => (EntsOK.cons (U81.sound k) (EntsOK.cons (U117.sound k) EntsOK.nil))) (fun k => L) (fun k => trivial) eq
end U118
namespace U119
abbrev R := (((Int × Unit) × Unit) × Unit)
def f (k : Nat) (a0 : tFuncD) (a1 : Int) : Option R := Option.bind (U115.f k a0 a1) fun r1 => bif decide (r1.1.1.1 = -2) then (some (((-1, ()), ()), ())) else (bif decide (r1.1.1.1 = -1) then (bif (decide (0 ≤ r1.1.2.1.1)) && (decide (r1.1.2.1.1 < ((List.length a0.1 : Nat) : Int))) then (some (((List.getD a0.1 (Int.toNat r1.1.2.1.1) 0, ()), ()), ())) else none) else (bif (decide (0 ≤ r1.1.1.1)) && (decide (r1.1.1.1 < ((List.length a0.2.2.1 : Nat) : Int))) then (bif decide (r1.1.2.1.1 < ((List.length ((List.getD a0.2.2.1 (Int.toNat r1.1.1.1) tBlockZ).1) : Nat) : Int)) then (bif (decide (0 ≤ r1.1.1.1)) && (decide (r1.1.1.1 < ((List.length a0.2.2.1 : Nat) : Int))) then (bif (decide (0 ≤ r1.1.2.1.1)) && (decide (r1.1.2.1.1 < ((List.length ((List.getD a0.2.2.1 (Int.toNat r1.1.1.1) tBlockZ).1) : Nat) : Int))) then (some ((((List.getD ((List.getD a0.2.2.1 (Int.toNat r1.1.1.1) tBlockZ).1) (Int.toNat r1.1.2.1.1) tPhiZ).1, ()), ()), ())) else none) else none) else (Option.bind (U116.f k a0 a1) fun r2 => Option.bind (U118.f k r2.1.1) fun r3 => some (((r3.1.1.1, ()), ()), ()))) else none))
abbrev S : ShapeParts := ⟨[⟨true, [.lst (.int .i64), .int .i64, .lst tBlock]⟩, ⟨false, [.int .i64]⟩], [], false, [⟨false, [.int .i64]⟩], [], []⟩
def s (k : Nat) : FS := S.fs fun x => f k x.1.1 x.1.2.1.1
def E (k : Nat) : Ents := [(⟨75, []⟩, U115.s k), (⟨68, []⟩, U116.s k), (⟨76, []⟩, U118.s k)]
def L : List (LS R) := []
def c : Code := Tryz.f34.body.getD .skip
theorem eq (k : Nat) (x) : (s k).pf x = execF tab (E k) Tryz.f34 c (s k) L x := by kernel_rfl
theorem sound : ∀ k, Sound Tryz.prog 34 (s k) := snd S (fun k => (s k).pf) E (fun k => (EntsOK.cons (U115.sound k) (EntsOK.cons (U116.sound k) (EntsOK.cons (U118.sound k) EntsOK.nil)))) (fun k => L) (fun k => trivial) eq
end U119
namespace U120
abbrev R := (((Bool × Unit) × Unit) × Unit)
def f (k : Nat) (a0 : Int) (a1 : tFuncD) (a2 : tPhiD) : Option R := Option.bind (U119.f k a1 a0) fun r1 => some (((!decide (r1.1.1.1 = a2.1), ()), ()), ())
abbrev S : ShapeParts := ⟨[⟨false, [.int .i64]⟩, ⟨false, [.ptr 0 0]⟩, ⟨false, [.ptr 1 0]⟩], [(0, .cbox [.lst (.int .i64), .int .i64, .lst tBlock]), (1, .cbox [.int .i64, .lst (.int .i64)])], false, [⟨false, [.bool]⟩], [], []⟩
def s (k : Nat) : FS := S.fs fun x => f k x.1.1.1 x.2.1 x.2.2.1
def E (k : Nat) : Ents := [(⟨34, []⟩, U119.s k)]
def L : List (LS R) := []
def c : Code := Tryz.f160.body.getD .skip
theorem eq (k : Nat) (x) : (s k).pf x = execF tab (E k) Tryz.f160 c (s k) L x := by kernel_rfl
theorem sound : ∀ k, Sound Tryz.prog 160 (s k) := snd S (fun k => (s k).pf) E (fun k => (EntsOK.cons (U119.sound k) EntsOK.nil)) (fun k => L) (fun k => trivial) eq
end U120
namespace U121
abbrev R := (((Int × Unit) × Unit) × Unit)
abbrev T0 : Type := (List Int) → Int → Int → tFuncD → tPhiD → Option R
def l0_ (k : Nat) (l0 : T0) (a0 : List Int) (a1 : Int) (a2 : Int) (a3 : tFuncD) (a4 : tPhiD) : Option R := bif decide (a2 < a1) then (bif (decide (0 ≤ a2)) && (decide (a2 < ((List.length a0 : Nat) : Int))) then (Option.bind (U120.f k (List.getD a0 (Int.toNat a2) 0) a3 a4) fun r1 => bif r1.1.1.1 then (some (((a2, ()), ()), ())) else (l0 a0 a1 (IntKind.wrap .i64 (a2 + 1)) a3 a4)) else none) else (some (((-1, ()), ()), ()))
def all : Nat → (T0) × Unit
 | 0 => (fun _ _ _ _ _ => none, ())
 | k + 1 => (l0_ k (all k).1, ())
def l0 (k : Nat) : T0 := (all k).1
def f (k : Nat) (a0 : List Int) (a1 : tFuncD) (a2 : tPhiD) : Option R := l0 k a0 ((List.length a0 : Nat) : Int) 0 a1 a2
abbrev S : ShapeParts := ⟨[⟨false, [.lst (.int .i64)]⟩, ⟨false, [.fn 160 [(0, 0), (1, 0)]]⟩], [(0, .cbox [.lst (.int .i64), .int .i64, .lst tBlock]), (1, .cbox [.int .i64, .lst (.int .i64)])], false, [⟨false, [.int .i64]⟩], [], []⟩
def s (k : Nat) : FS := S.fs fun x => f k x.1.1.1 x.2.1 x.2.2.1
def E (k : Nat) : Ents := [(⟨160, []⟩, U120.s k)]
def L0 (l : T0) : LS R := ⟨[], [(0, ⟨false, [.lst (.int .i64)]⟩), (1, ⟨false, [.fn 160 [(0, 0), (1, 0)]]⟩), (7, ⟨false, [.int .i64]⟩), (8, ⟨false, [.int .i64]⟩)], [(0, .cbox [.lst (.int .i64), .int .i64, .lst tBlock]), (1, .cbox [.int .i64, .lst (.int .i64)])], fun x => l x.1.1.1 x.1.2.2.1.1 x.1.2.2.2.1.1 x.2.1 x.2.2.1⟩
def L (l0 : T0) : List (LS R) := [L0 l0]
def c : Code := Tryz.f169.body.getD .skip
theorem eq (k : Nat) (x) : (s k).pf x = execF tab (E k) Tryz.f169 c (s k) (L (l0 k)) x := by kernel_rfl
theorem r0 (l0 : T0) (k : Nat) (x) : (L0 (l0_ k l0)).l x = roundOf tab (E k) (L l0) c (fin tab Tryz.f169 (s k)) 0 (L0 l0) x := by kernel_rfl
theorem sound : ∀ k, Sound Tryz.prog 169 (s k) := snd S (fun k => (s k).pf) E (fun k => (EntsOK.cons (U120.sound k) EntsOK.nil)) (fun k => L (l0 k)) (fun k => ⟨⟨(L0 (l0 (k + 1))).l, rfl, fun x => r0 (l0 k) k x⟩, trivial⟩) eq
end U121
namespace U122
abbrev R := (((Bool × Unit) × Unit) × Unit)
def f (k : Nat) (a0 : List Int) (a1 : tFuncD) (a2 : tPhiD) : Option R := Option.bind (U121.f k a0 a1 a2) fun r1 => some (((decide (0 ≤ r1.1.1.1), ()), ()), ())
abbrev S : ShapeParts := ⟨[⟨false, [.lst (.int .i64)]⟩, ⟨false, [.fn 160 [(0, 0), (1, 0)]]⟩], [(0, .cbox [.lst (.int .i64), .int .i64, .lst tBlock]), (1, .cbox [.int .i64, .lst (.int .i64)])], false, [⟨false, [.bool]⟩], [], []⟩
def s (k : Nat) : FS := S.fs fun x => f k x.1.1.1 x.2.1 x.2.2.1
def E (k : Nat) : Ents := [(⟨169, [160]⟩, U121.s k)]
def L : List (LS R) := []
def c : Code := Tryz.f150.body.getD .skip
theorem eq (k : Nat) (x) : (s k).pf x = execF tab (E k) Tryz.f150 c (s k) L x := by kernel_rfl
theorem sound : ∀ k, Sound Tryz.prog 150 (s k) := snd S (fun k => (s k).pf) E (fun k => (EntsOK.cons (U121.sound k) EntsOK.nil)) (fun k => L) (fun k => trivial) eq
end U122
namespace U123
abbrev R := (((Bool × Unit) × Unit) × Unit)
def f (k : Nat) (a0 : Int) (a1 : Int) (a2 : tFuncD) : Option R := Option.bind (U119.f k a2 a0) fun r1 => some (((decide (r1.1.1.1 = a1), ()), ()), ())
abbrev S : ShapeParts := ⟨[⟨false, [.int .i64]⟩, ⟨false, [.int .i64]⟩, ⟨false, [.ptr 0 0]⟩], [(0, .cbox [.lst (.int .i64), .int .i64, .lst tBlock])], false, [⟨false, [.bool]⟩], [], []⟩
def s (k : Nat) : FS := S.fs fun x => f k x.1.1.1 x.1.2.1.1 x.2.1
def E (k : Nat) : Ents := [(⟨34, []⟩, U119.s k)]
def L : List (LS R) := []
def c : Code := Tryz.f176.body.getD .skip
theorem eq (k : Nat) (x) : (s k).pf x = execF tab (E k) Tryz.f176 c (s k) L x := by kernel_rfl
theorem sound : ∀ k, Sound Tryz.prog 176 (s k) := snd S (fun k => (s k).pf) E (fun k => (EntsOK.cons (U119.sound k) EntsOK.nil)) (fun k => L) (fun k => trivial) eq
end U123
namespace U124
abbrev R := (((Bool × Unit) × Unit) × Unit)
def f (k : Nat) (a0 : tFuncD) (a1 : tInstD) : Option R := Option.bind (U119.f k a0 a1.2.2.1) fun r1 => Option.bind (U81.f k a1.1) fun r2 => bif r2.1.1.1 then (Option.bind (U123.f k a1.2.2.1 a1.2.1 a0) fun r3 => bif r3.1.1.1 then (Option.bind (U123.f k a1.2.2.2.1 a1.2.1 a0) fun r4 => some (((r4.1.1.1, ()), ()), ())) else (some (((false, ()), ()), ()))) else (bif decide (a1.1 = 27) then (Option.bind (U123.f k a1.2.2.1 a1.2.1 a0) fun r5 => some (((r5.1.1.1, ()), ()), ())) else (bif decide (a1.1 = 18) then (bif !decide (r1.1.1.1 = 0) then (some (((decide (r1.1.1.1 < a1.2.1), ()), ()), ())) else (some (((false, ()), ()), ()))) else (bif decide (a1.1 = 19) then (bif !decide (r1.1.1.1 = 0) then (some (((decide (r1.1.1.1 < a1.2.1), ()), ()), ())) else (some (((false, ()), ()), ()))) else (bif decide (a1.1 = 20) then (some (((decide (a1.2.1 < r1.1.1.1), ()), ()), ())) else (bif decide (a1.1 = 22) then (Option.bind (U123.f k a1.2.2.1 1 a0) fun r6 => bif r6.1.1.1 then (Option.bind (U123.f k a1.2.2.2.1 a1.2.1 a0) fun r7 => bif r7.1.1.1 then (Option.bind (U123.f k a1.2.2.2.2.1 a1.2.1 a0) fun r8 => some (((r8.1.1.1, ()), ()), ())) else (some (((false, ()), ()), ()))) else (some (((false, ()), ()), ()))) else (bif decide (a1.1 = 23) then (Option.bind (U123.f k a1.2.2.1 32 a0) fun r9 => some (((r9.1.1.1, ()), ()), ())) else (bif decide (a1.1 = 24) then (Option.bind (U123.f k a1.2.2.1 32 a0) fun r10 => bif r10.1.1.1 then (Option.bind (U123.f k a1.2.2.2.1 8 a0) fun r11 => some (((r11.1.1.1, ()), ()), ())) else (some (((false, ()), ()), ()))) else (bif decide (a1.1 = 25) then (some (((!decide (r1.1.1.1 = 0), ()), ()), ())) else (some (((true, ()), ()), ()))))))))))
abbrev S : ShapeParts := ⟨[⟨true, [.lst (.int .i64), .int .i64, .lst tBlock]⟩, ⟨true, [.int .i64, .int .i64, .int .i64, .int .i64, .int .i64, .int .i64, .lst (.int .i64)]⟩], [], false, [⟨false, [.bool]⟩], [], []⟩
def s (k : Nat) : FS := S.fs fun x => f k x.1.1 x.1.2.1
def E (k : Nat) : Ents := [(⟨34, []⟩, U119.s k), (⟨30, []⟩, U81.s k), (⟨176, []⟩, U123.s k)]
def L : List (LS R) := []
def c : Code := Tryz.f162.body.getD .skip
theorem eq (k : Nat) (x) : (s k).pf x = execF tab (E k) Tryz.f162 c (s k) L x := by kernel_rfl
theorem sound : ∀ k, Sound Tryz.prog 162 (s k) := snd S (fun k => (s k).pf) E (fun k => (EntsOK.cons (U119.sound k) (EntsOK.cons (U81.sound k) (EntsOK.cons (U123.sound k) EntsOK.nil)))) (fun k => L) (fun k => trivial) eq
end U124
namespace U125
abbrev R := (((Bool × Unit) × Unit) × Unit)
def f (k : Nat) (a0 : tInstD) (a1 : tFuncD) : Option R := Option.bind (U124.f k a1 a0) fun r1 => some (((!r1.1.1.1, ()), ()), ())
abbrev S : ShapeParts := ⟨[⟨true, [.int .i64, .int .i64, .int .i64, .int .i64, .int .i64, .int .i64, .lst (.int .i64)]⟩, ⟨false, [.ptr 0 0]⟩], [(0, .cbox [.lst (.int .i64), .int .i64, .lst tBlock])], false, [⟨false, [.bool]⟩], [], []⟩
def s (k : Nat) : FS := S.fs fun x => f k x.1.1 x.2.1
def E (k : Nat) : Ents := [(⟨162, []⟩, U124.s k)]
def L : List (LS R) := []
def c : Code := Tryz.f161.body.getD .skip
theorem eq (k : Nat) (x) : (s k).pf x = execF tab (E k) Tryz.f161 c (s k) L x := by kernel_rfl
theorem sound : ∀ k, Sound Tryz.prog 161 (s k) := snd S (fun k => (s k).pf) E (fun k => (EntsOK.cons (U124.sound k) EntsOK.nil)) (fun k => L) (fun k => trivial) eq
end U125
namespace U126
abbrev R := (((Int × Unit) × Unit) × Unit)
abbrev T0 : Type := (List tInstD) → Int → Int → tFuncD → Option R
def l0_ (k : Nat) (l0 : T0) (a0 : List tInstD) (a1 : Int) (a2 : Int) (a3 : tFuncD) : Option R := bif decide (a2 < a1) then (bif (decide (0 ≤ a2)) && (decide (a2 < ((List.length a0 : Nat) : Int))) then (Option.bind (U125.f k (List.getD a0 (Int.toNat a2) tInstZ) a3) fun r1 => bif r1.1.1.1 then (some (((a2, ()), ()), ())) else (l0 a0 a1 (IntKind.wrap .i64 (a2 + 1)) a3)) else none) else (some (((-1, ()), ()), ()))
def all : Nat → (T0) × Unit
 | 0 => (fun _ _ _ _ => none, ())
 | k + 1 => (l0_ k (all k).1, ())
def l0 (k : Nat) : T0 := (all k).1
def f (k : Nat) (a0 : List tInstD) (a1 : tFuncD) : Option R := l0 k a0 ((List.length a0 : Nat) : Int) 0 a1
abbrev S : ShapeParts := ⟨[⟨false, [.lst tInst]⟩, ⟨false, [.fn 161 [(0, 0)]]⟩], [(0, .cbox [.lst (.int .i64), .int .i64, .lst tBlock])], false, [⟨false, [.int .i64]⟩], [], []⟩
def s (k : Nat) : FS := S.fs fun x => f k x.1.1.1 x.2.1
def E (k : Nat) : Ents := [(⟨161, []⟩, U125.s k)]
def L0 (l : T0) : LS R := ⟨[], [(0, ⟨false, [.lst tInst]⟩), (1, ⟨false, [.fn 161 [(0, 0)]]⟩), (7, ⟨false, [.int .i64]⟩), (8, ⟨false, [.int .i64]⟩)], [(0, .cbox [.lst (.int .i64), .int .i64, .lst tBlock])], fun x => l x.1.1.1 x.1.2.2.1.1 x.1.2.2.2.1.1 x.2.1⟩
def L (l0 : T0) : List (LS R) := [L0 l0]
def c : Code := Tryz.f163.body.getD .skip
theorem eq (k : Nat) (x) : (s k).pf x = execF tab (E k) Tryz.f163 c (s k) (L (l0 k)) x := by kernel_rfl
theorem r0 (l0 : T0) (k : Nat) (x) : (L0 (l0_ k l0)).l x = roundOf tab (E k) (L l0) c (fin tab Tryz.f163 (s k)) 0 (L0 l0) x := by kernel_rfl
theorem sound : ∀ k, Sound Tryz.prog 163 (s k) := snd S (fun k => (s k).pf) E (fun k => (EntsOK.cons (U125.sound k) EntsOK.nil)) (fun k => L (l0 k)) (fun k => ⟨⟨(L0 (l0 (k + 1))).l, rfl, fun x => r0 (l0 k) k x⟩, trivial⟩) eq
end U126
namespace U127
abbrev R := (((Bool × Unit) × Unit) × Unit)
def f (k : Nat) (a0 : List tInstD) (a1 : tFuncD) : Option R := Option.bind (U126.f k a0 a1) fun r1 => some (((decide (0 ≤ r1.1.1.1), ()), ()), ())
abbrev S : ShapeParts := ⟨[⟨false, [.lst tInst]⟩, ⟨false, [.fn 161 [(0, 0)]]⟩], [(0, .cbox [.lst (.int .i64), .int .i64, .lst tBlock])], false, [⟨false, [.bool]⟩], [], []⟩
def s (k : Nat) : FS := S.fs fun x => f k x.1.1.1 x.2.1
def E (k : Nat) : Ents := [(⟨163, [161]⟩, U126.s k)]
def L : List (LS R) := []
def c : Code := Tryz.f142.body.getD .skip
theorem eq (k : Nat) (x) : (s k).pf x = execF tab (E k) Tryz.f142 c (s k) L x := by kernel_rfl
theorem sound : ∀ k, Sound Tryz.prog 142 (s k) := snd S (fun k => (s k).pf) E (fun k => (EntsOK.cons (U126.sound k) EntsOK.nil)) (fun k => L) (fun k => trivial) eq
end U127
namespace U128
abbrev R := (((Bool × Unit) × Unit) × Unit)
abbrev T0 : Type := (List tBlockD) → Int → Int → tFuncD → Option R
abbrev T1 : Type := (List tBlockD) → Int → Int → (List tPhiD) → Int → Int → tFuncD → tBlockD → Option R
def l0_ (k : Nat) (l0 : T0) (l1 : T1) (a0 : List tBlockD) (a1 : Int) (a2 : Int) (a3 : tFuncD) : Option R := bif decide (a2 < a1) then (bif (decide (0 ≤ a2)) && (decide (a2 < ((List.length a0 : Nat) : Int))) then (l1 a0 a1 a2 ((List.getD a0 (Int.toNat a2) tBlockZ).1) ((List.length ((List.getD a0 (Int.toNat a2) tBlockZ).1) : Nat) : Int) 0 a3 (List.getD a0 (Int.toNat a2) tBlockZ)) else none) else (some (((true, ()), ()), ()))
def l1_ (k : Nat) (l0 : T0) (l1 : T1) (a0 : List tBlockD) (a1 : Int) (a2 : Int) (a3 : List tPhiD) (a4 : Int) (a5 : Int) (a6 : tFuncD) (a7 : tBlockD) : Option R := bif decide (a5 < a4) then (bif (decide (0 ≤ a5)) && (decide (a5 < ((List.length a3 : Nat) : Int))) then (Option.bind (U122.f k ((List.getD a3 (Int.toNat a5) tPhiZ).2.1) a6 (List.getD a3 (Int.toNat a5) tPhiZ)) fun r1 => bif r1.1.1.1 then (some (((false, ()), ()), ())) else (l1 a0 a1 a2 a3 a4 (IntKind.wrap .i64 (a5 + 1)) a6 a7)) else none) else (Option.bind (U127.f k a7.2.1 a6) fun r2 => bif r2.1.1.1 then (some (((false, ()), ()), ())) else (bif decide (a7.2.2.1 = 1) then (Option.bind (U119.f k a6 a7.2.2.2.1) fun r3 => bif !decide (r3.1.1.1 = a6.2.1) then (some (((false, ()), ()), ())) else (bif decide (a7.2.2.1 = 3) then (Option.bind (U119.f k a6 a7.2.2.2.1) fun r4 => bif !decide (r4.1.1.1 = 1) then (some (((false, ()), ()), ())) else (l0 a0 a1 (IntKind.wrap .i64 (a2 + 1)) a6)) else (l0 a0 a1 (IntKind.wrap .i64 (a2 + 1)) a6))) else (bif decide (a7.2.2.1 = 3) then (Option.bind (U119.f k a6 a7.2.2.2.1) fun r5 => bif !decide (r5.1.1.1 = 1) then (some (((false, ()), ()), ())) else (l0 a0 a1 (IntKind.wrap .i64 (a2 + 1)) a6)) else (l0 a0 a1 (IntKind.wrap .i64 (a2 + 1)) a6))))
def all : Nat → (T0) × (T1) × Unit
 | 0 => (fun _ _ _ _ => none, fun _ _ _ _ _ _ _ _ => none, ())
 | k + 1 => (l0_ k (all k).1 (all k).2.1, l1_ k (all k).1 (all k).2.1, ())
def l0 (k : Nat) : T0 := (all k).1
def l1 (k : Nat) : T1 := (all k).2.1
def f (k : Nat) (a0 : tFuncD) : Option R := l0 k a0.2.2.1 ((List.length a0.2.2.1 : Nat) : Int) 0 a0
abbrev S : ShapeParts := ⟨[⟨true, [.lst (.int .i64), .int .i64, .lst tBlock]⟩], [], false, [⟨false, [.bool]⟩], [], []⟩
def s (k : Nat) : FS := S.fs fun x => f k x.1.1
def E (k : Nat) : Ents := [(⟨150, [160]⟩, U122.s k), (⟨142, [161]⟩, U127.s k), (⟨34, []⟩, U119.s k)]
def L0 (l : T0) : LS R := ⟨[], [(1, ⟨false, [.ptr 100000 0]⟩), (9, ⟨false, [.lst tBlock]⟩), (10, ⟨false, [.int .i64]⟩), (11, ⟨false, [.int .i64]⟩)], [(100000, .box [.lst (.int .i64), .int .i64, .lst tBlock])], fun x => l x.1.2.1.1 x.1.2.2.1.1 x.1.2.2.2.1.1 x.2.1⟩
def L1 (l : T1) : LS R := ⟨[], [(1, ⟨false, [.ptr 100000 0]⟩), (4, ⟨false, [.ptr 100001 0]⟩), (9, ⟨false, [.lst tBlock]⟩), (10, ⟨false, [.int .i64]⟩), (11, ⟨false, [.int .i64]⟩), (16, ⟨false, [.lst tPhi]⟩), (17, ⟨false, [.int .i64]⟩), (18, ⟨false, [.int .i64]⟩)], [(100000, .box [.lst (.int .i64), .int .i64, .lst tBlock]), (100001, .box [.lst tPhi, .lst tInst, .int .i64, .int .i64, .int .i64, .int .i64])], fun x => l x.1.2.2.1.1 x.1.2.2.2.1.1 x.1.2.2.2.2.1.1 x.1.2.2.2.2.2.1.1 x.1.2.2.2.2.2.2.1.1 x.1.2.2.2.2.2.2.2.1.1 x.2.1 x.2.2.1⟩
def L (l0 : T0) (l1 : T1) : List (LS R) := [L0 l0, L1 l1]
def c : Code := Tryz.f141.body.getD .skip
theorem eq (k : Nat) (x) : (s k).pf x = execF tab (E k) Tryz.f141 c (s k) (L (l0 k) (l1 k)) x := by kernel_rfl
theorem r0 (l0 : T0) (l1 : T1) (k : Nat) (x) : (L0 (l0_ k l0 l1)).l x = roundOf tab (E k) (L l0 l1) c (fin tab Tryz.f141 (s k)) 0 (L0 l0) x := by kernel_rfl
theorem r1 (l0 : T0) (l1 : T1) (k : Nat) (x) : (L1 (l1_ k l0 l1)).l x = roundOf tab (E k) (L l0 l1) c (fin tab Tryz.f141 (s k)) 1 (L1 l1) x := by kernel_rfl
theorem sound : ∀ k, Sound Tryz.prog 141 (s k) := snd S (fun k => (s k).pf) E (fun k => (EntsOK.cons (U122.sound k) (EntsOK.cons (U127.sound k) (EntsOK.cons (U119.sound k) EntsOK.nil)))) (fun k => L (l0 k) (l1 k)) (fun k => ⟨⟨(L0 (l0 (k + 1))).l, rfl, fun x => r0 (l0 k) (l1 k) k x⟩, ⟨(L1 (l1 (k + 1))).l, rfl, fun x => r1 (l0 k) (l1 k) k x⟩, trivial⟩) eq
end U128
namespace U129
abbrev R := (((Bool × Unit) × Unit) × Unit)
abbrev T0 : Type := (List Int) → Int → Int → tFuncD → tFuncD → Option R
def l0_ (k : Nat) (l0 : T0) (a0 : List Int) (a1 : Int) (a2 : Int) (a3 : tFuncD) (a4 : tFuncD) : Option R := bif decide (a2 < a1) then (bif (decide (0 ≤ a2)) && (decide (a2 < ((List.length a0 : Nat) : Int))) then (Option.bind (U119.f k a3 (List.getD a0 (Int.toNat a2) 0)) fun r1 => bif (decide (0 ≤ a2)) && (decide (a2 < ((List.length a4.1 : Nat) : Int))) then (bif !decide (r1.1.1.1 = List.getD a4.1 (Int.toNat a2) 0) then (some (((false, ()), ()), ())) else (l0 a0 a1 (IntKind.wrap .i64 (a2 + 1)) a3 a4)) else none) else none) else (some (((true, ()), ()), ()))
def all : Nat → (T0) × Unit
 | 0 => (fun _ _ _ _ _ => none, ())
 | k + 1 => (l0_ k (all k).1, ())
def l0 (k : Nat) : T0 := (all k).1
def f (k : Nat) (a0 : tModuleD) (a1 : tFuncD) (a2 : tInstD) : Option R := bif (decide (0 ≤ a2.2.2.2.2.2.1)) && (decide (a2.2.2.2.2.2.1 < ((List.length a0.1 : Nat) : Int))) then (bif !decide (a2.2.1 = (List.getD a0.1 (Int.toNat a2.2.2.2.2.2.1) tFuncZ).2.1) then (some (((false, ()), ()), ())) else (bif !decide (((List.length a2.2.2.2.2.2.2.1 : Nat) : Int) = ((List.length ((List.getD a0.1 (Int.toNat a2.2.2.2.2.2.1) tFuncZ).1) : Nat) : Int)) then (some (((false, ()), ()), ())) else (l0 k a2.2.2.2.2.2.2.1 ((List.length a2.2.2.2.2.2.2.1 : Nat) : Int) 0 a1 (List.getD a0.1 (Int.toNat a2.2.2.2.2.2.1) tFuncZ)))) else none
abbrev S : ShapeParts := ⟨[⟨true, [.lst tFunc]⟩, ⟨true, [.lst (.int .i64), .int .i64, .lst tBlock]⟩, ⟨true, [.int .i64, .int .i64, .int .i64, .int .i64, .int .i64, .int .i64, .lst (.int .i64)]⟩], [], false, [⟨false, [.bool]⟩], [], []⟩
def s (k : Nat) : FS := S.fs fun x => f k x.1.1 x.1.2.1 x.1.2.2.1
def E (k : Nat) : Ents := [(⟨34, []⟩, U119.s k)]
def L0 (l : T0) : LS R := ⟨[], [(4, ⟨false, [.ptr 100000 0]⟩), (7, ⟨false, [.ptr 100001 0]⟩), (31, ⟨false, [.lst (.int .i64)]⟩), (32, ⟨false, [.int .i64]⟩), (33, ⟨false, [.int .i64]⟩)], [(100000, .box [.lst (.int .i64), .int .i64, .lst tBlock]), (100001, .box [.lst (.int .i64), .int .i64, .lst tBlock])], fun x => l x.1.2.2.1.1 x.1.2.2.2.1.1 x.1.2.2.2.2.1.1 x.2.1 x.2.2.1⟩
def L (l0 : T0) : List (LS R) := [L0 l0]
def c : Code := Tryz.f144.body.getD .skip
theorem eq (k : Nat) (x) : (s k).pf x = execF tab (E k) Tryz.f144 c (s k) (L (l0 k)) x := by kernel_rfl
theorem r0 (l0 : T0) (k : Nat) (x) : (L0 (l0_ k l0)).l x = roundOf tab (E k) (L l0) c (fin tab Tryz.f144 (s k)) 0 (L0 l0) x := by kernel_rfl
theorem sound : ∀ k, Sound Tryz.prog 144 (s k) := snd S (fun k => (s k).pf) E (fun k => (EntsOK.cons (U119.sound k) EntsOK.nil)) (fun k => L (l0 k)) (fun k => ⟨⟨(L0 (l0 (k + 1))).l, rfl, fun x => r0 (l0 k) k x⟩, trivial⟩) eq
end U129
namespace U130
abbrev R := (((Bool × Unit) × Unit) × Unit)
def f (k : Nat) (a0 : tInstD) (a1 : List tFuncD) (a2 : tFuncD) : Option R := bif decide (a0.1 = 26) then (Option.bind (U129.f k (a1, ()) a2 a0) fun r1 => some (((!r1.1.1.1, ()), ()), ())) else (some (((false, ()), ()), ()))
abbrev S : ShapeParts := ⟨[⟨true, [.int .i64, .int .i64, .int .i64, .int .i64, .int .i64, .int .i64, .lst (.int .i64)]⟩, ⟨false, [.ptr 0 0]⟩, ⟨false, [.ptr 1 0]⟩], [(0, .cbox [.lst tFunc]), (1, .cbox [.lst (.int .i64), .int .i64, .lst tBlock])], false, [⟨false, [.bool]⟩], [], []⟩
def s (k : Nat) : FS := S.fs fun x => f k x.1.1 x.2.1.1 x.2.2.1
def E (k : Nat) : Ents := [(⟨144, []⟩, U129.s k)]
def L : List (LS R) := []
def c : Code := Tryz.f143.body.getD .skip
theorem eq (k : Nat) (x) : (s k).pf x = execF tab (E k) Tryz.f143 c (s k) L x := by kernel_rfl
theorem sound : ∀ k, Sound Tryz.prog 143 (s k) := snd S (fun k => (s k).pf) E (fun k => (EntsOK.cons (U129.sound k) EntsOK.nil)) (fun k => L) (fun k => trivial) eq
end U130
namespace U131
abbrev R := (((Int × Unit) × Unit) × Unit)
abbrev T0 : Type := (List tInstD) → Int → Int → (List tFuncD) → tFuncD → Option R
def l0_ (k : Nat) (l0 : T0) (a0 : List tInstD) (a1 : Int) (a2 : Int) (a3 : List tFuncD) (a4 : tFuncD) : Option R := bif decide (a2 < a1) then (bif (decide (0 ≤ a2)) && (decide (a2 < ((List.length a0 : Nat) : Int))) then (Option.bind (U130.f k (List.getD a0 (Int.toNat a2) tInstZ) a3 a4) fun r1 => bif r1.1.1.1 then (some (((a2, ()), ()), ())) else (l0 a0 a1 (IntKind.wrap .i64 (a2 + 1)) a3 a4)) else none) else (some (((-1, ()), ()), ()))
def all : Nat → (T0) × Unit
 | 0 => (fun _ _ _ _ _ => none, ())
 | k + 1 => (l0_ k (all k).1, ())
def l0 (k : Nat) : T0 := (all k).1
def f (k : Nat) (a0 : List tInstD) (a1 : List tFuncD) (a2 : tFuncD) : Option R := l0 k a0 ((List.length a0 : Nat) : Int) 0 a1 a2
abbrev S : ShapeParts := ⟨[⟨false, [.lst tInst]⟩, ⟨false, [.fn 143 [(0, 0), (1, 0)]]⟩], [(0, .cbox [.lst tFunc]), (1, .cbox [.lst (.int .i64), .int .i64, .lst tBlock])], false, [⟨false, [.int .i64]⟩], [], []⟩
def s (k : Nat) : FS := S.fs fun x => f k x.1.1.1 x.2.1.1 x.2.2.1
def E (k : Nat) : Ents := [(⟨143, []⟩, U130.s k)]
def L0 (l : T0) : LS R := ⟨[], [(0, ⟨false, [.lst tInst]⟩), (1, ⟨false, [.fn 143 [(0, 0), (1, 0)]]⟩), (7, ⟨false, [.int .i64]⟩), (8, ⟨false, [.int .i64]⟩)], [(0, .cbox [.lst tFunc]), (1, .cbox [.lst (.int .i64), .int .i64, .lst tBlock])], fun x => l x.1.1.1 x.1.2.2.1.1 x.1.2.2.2.1.1 x.2.1.1 x.2.2.1⟩
def L (l0 : T0) : List (LS R) := [L0 l0]
def c : Code := Tryz.f163.body.getD .skip
theorem eq (k : Nat) (x) : (s k).pf x = execF tab (E k) Tryz.f163 c (s k) (L (l0 k)) x := by kernel_rfl
theorem r0 (l0 : T0) (k : Nat) (x) : (L0 (l0_ k l0)).l x = roundOf tab (E k) (L l0) c (fin tab Tryz.f163 (s k)) 0 (L0 l0) x := by kernel_rfl
theorem sound : ∀ k, Sound Tryz.prog 163 (s k) := snd S (fun k => (s k).pf) E (fun k => (EntsOK.cons (U130.sound k) EntsOK.nil)) (fun k => L (l0 k)) (fun k => ⟨⟨(L0 (l0 (k + 1))).l, rfl, fun x => r0 (l0 k) k x⟩, trivial⟩) eq
end U131
namespace U132
abbrev R := (((Bool × Unit) × Unit) × Unit)
def f (k : Nat) (a0 : List tInstD) (a1 : List tFuncD) (a2 : tFuncD) : Option R := Option.bind (U131.f k a0 a1 a2) fun r1 => some (((decide (0 ≤ r1.1.1.1), ()), ()), ())
abbrev S : ShapeParts := ⟨[⟨false, [.lst tInst]⟩, ⟨false, [.fn 143 [(0, 0), (1, 0)]]⟩], [(0, .cbox [.lst tFunc]), (1, .cbox [.lst (.int .i64), .int .i64, .lst tBlock])], false, [⟨false, [.bool]⟩], [], []⟩
def s (k : Nat) : FS := S.fs fun x => f k x.1.1.1 x.2.1.1 x.2.2.1
def E (k : Nat) : Ents := [(⟨163, [143]⟩, U131.s k)]
def L : List (LS R) := []
def c : Code := Tryz.f142.body.getD .skip
theorem eq (k : Nat) (x) : (s k).pf x = execF tab (E k) Tryz.f142 c (s k) L x := by kernel_rfl
theorem sound : ∀ k, Sound Tryz.prog 142 (s k) := snd S (fun k => (s k).pf) E (fun k => (EntsOK.cons (U131.sound k) EntsOK.nil)) (fun k => L) (fun k => trivial) eq
end U132
namespace U133
abbrev R := (((Unit × Unit) × Unit) × ((List Bool) × Unit))
abbrev T0 : Type := Int → tFuncD → (List Bool) → (List Int) → Option R
def l0_ (k : Nat) (l0 : T0) (a0 : Int) (a1 : tFuncD) (a2 : List Bool) (a3 : List Int) : Option R := bif decide (0 < ((List.length a3 : Nat) : Int)) then (bif (decide (0 ≤ 0)) && (decide (0 < ((List.length a3 : Nat) : Int))) then (bif (decide (0 ≤ 1)) && (decide (1 ≤ ((List.length a3 : Nat) : Int))) then (bif decide (List.getD a3 0 0 = a0) then (l0 a0 a1 a2 (List.drop 1 a3)) else (bif (decide (0 ≤ List.getD a3 0 0)) && (decide (List.getD a3 0 0 < ((List.length a2 : Nat) : Int))) then (bif List.getD a2 (Int.toNat (List.getD a3 0 0)) false then (l0 a0 a1 a2 (List.drop 1 a3)) else (bif (decide (0 ≤ List.getD a3 0 0)) && (decide (List.getD a3 0 0 < ((List.length a2 : Nat) : Int))) then (bif (decide (0 ≤ List.getD a3 0 0)) && (decide (List.getD a3 0 0 < ((List.length a1.2.2.1 : Nat) : Int))) then (Option.bind (U105.f k ((List.getD a1.2.2.1 (Int.toNat (List.getD a3 0 0)) tBlockZ).2.2)) fun r1 => bif decide ((List.length (List.drop 1 a3) + List.length r1.2.1) * 8 ≤ 140737488355328) then (l0 a0 a1 (List.set a2 (Int.toNat (List.getD a3 0 0)) true) ((List.drop 1 a3) ++ r1.2.1)) else none) else none) else none)) else none)) else none) else none) else (some ((((), ()), ()), (a2, ())))
def all : Nat → (T0) × Unit
 | 0 => (fun _ _ _ _ => none, ())
 | k + 1 => (l0_ k (all k).1, ())
def l0 (k : Nat) : T0 := (all k).1
def f (k : Nat) (a0 : tFuncD) (a1 : Int) : Option R := bif (decide (((List.length a0.2.2.1 : Nat) : Int) = ((List.length a0.2.2.1 : Nat) : Int))) && (decide (0 ≤ ((List.length a0.2.2.1 : Nat) : Int))) && (decide (((List.length a0.2.2.1 : Nat) : Int) * 1 ≤ 281474976710656)) then (l0 k a1 a0 (List.replicate (Int.toNat ((List.length a0.2.2.1 : Nat) : Int)) false) [0]) else none
abbrev S : ShapeParts := ⟨[⟨true, [.lst (.int .i64), .int .i64, .lst tBlock]⟩, ⟨false, [.int .i64]⟩], [], false, [⟨false, [.own 100]⟩], [(100, .row true .bool)], []⟩
def s (k : Nat) : FS := S.fs fun x => f k x.1.1 x.1.2.1.1
def E (k : Nat) : Ents := [(⟨164, []⟩, U105.s k)]
def L0 (l : T0) : LS R := ⟨[], [(1, ⟨false, [.int .i64]⟩), (2, ⟨false, [.ptr 100000 0]⟩), (5, ⟨false, [.own 100001]⟩), (6, ⟨false, [.own 100002]⟩)], [(100000, .box [.lst (.int .i64), .int .i64, .lst tBlock]), (100001, .row true .bool), (100002, .row true (.int .i64))], fun x => l x.1.1.1 x.2.1 x.2.2.1 x.2.2.2.1⟩
def L (l0 : T0) : List (LS R) := [L0 l0]
def c : Code := Tryz.f145.body.getD .skip
theorem eq (k : Nat) (x) : (s k).pf x = execF tab (E k) Tryz.f145 c (s k) (L (l0 k)) x := by kernel_rfl
theorem r0 (l0 : T0) (k : Nat) (x) : (L0 (l0_ k l0)).l x = roundOf tab (E k) (L l0) c (fin tab Tryz.f145 (s k)) 0 (L0 l0) x := by kernel_rfl
theorem sound : ∀ k, Sound Tryz.prog 145 (s k) := snd S (fun k => (s k).pf) E (fun k => (EntsOK.cons (U105.sound k) EntsOK.nil)) (fun k => L (l0 k)) (fun k => ⟨⟨(L0 (l0 (k + 1))).l, rfl, fun x => r0 (l0 k) k x⟩, trivial⟩) eq
end U133
namespace U134
abbrev R := (((Int × Unit) × Unit) × Unit)
abbrev T0 : Type := Int → (List tBlockD) → Int → Int → Option R
def l0_ (k : Nat) (l0 : T0) (a0 : Int) (a1 : List tBlockD) (a2 : Int) (a3 : Int) : Option R := bif decide (a3 < a2) then (bif (decide (0 ≤ a3)) && (decide (a3 < ((List.length a1 : Nat) : Int))) then (l0 (IntKind.wrap .i64 (a0 + (IntKind.wrap .i64 (((List.length ((List.getD a1 (Int.toNat a3) tBlockZ).1) : Nat) : Int) + ((List.length ((List.getD a1 (Int.toNat a3) tBlockZ).2.1) : Nat) : Int))))) a1 a2 (IntKind.wrap .i64 (a3 + 1))) else none) else (some (((a0, ()), ()), ()))
def all : Nat → (T0) × Unit
 | 0 => (fun _ _ _ _ => none, ())
 | k + 1 => (l0_ k (all k).1, ())
def l0 (k : Nat) : T0 := (all k).1
def f (k : Nat) (a0 : tFuncD) (a1 : Int) : Option R := bif (decide (0 ≤ 0)) && (decide (0 ≤ a1)) && (decide (a1 ≤ ((List.length a0.2.2.1 : Nat) : Int))) then (l0 k ((List.length a0.1 : Nat) : Int) (List.take (Int.toNat a1) a0.2.2.1) ((List.length (List.take (Int.toNat a1) a0.2.2.1) : Nat) : Int) 0) else none
abbrev S : ShapeParts := ⟨[⟨true, [.lst (.int .i64), .int .i64, .lst tBlock]⟩, ⟨false, [.int .i64]⟩], [], false, [⟨false, [.int .i64]⟩], [], []⟩
def s (k : Nat) : FS := S.fs fun x => f k x.1.1 x.1.2.1.1
def E (k : Nat) : Ents := []
def L0 (l : T0) : LS R := ⟨[], [(5, ⟨false, [.int .i64]⟩), (14, ⟨false, [.lst tBlock]⟩), (15, ⟨false, [.int .i64]⟩), (16, ⟨false, [.int .i64]⟩)], [], fun x => l x.1.1.1 x.1.2.1.1 x.1.2.2.1.1 x.1.2.2.2.1.1⟩
def L (l0 : T0) : List (LS R) := [L0 l0]
def c : Code := Tryz.f166.body.getD .skip
theorem eq (k : Nat) (x) : (s k).pf x = execF tab (E k) Tryz.f166 c (s k) (L (l0 k)) x := by kernel_rfl
theorem r0 (l0 : T0) (k : Nat) (x) : (L0 (l0_ k l0)).l x = roundOf tab (E k) (L l0) c (fin tab Tryz.f166 (s k)) 0 (L0 l0) x := by kernel_rfl
theorem sound : ∀ k, Sound Tryz.prog 166 (s k) := snd S (fun k => (s k).pf) E (fun k => EntsOK.nil) (fun k => L (l0 k)) (fun k => ⟨⟨(L0 (l0 (k + 1))).l, rfl, fun x => r0 (l0 k) k x⟩, trivial⟩) eq
end U134
namespace U135
abbrev R := (((Bool × Unit) × Unit) × Unit)
def f (k : Nat) (a0 : tFuncD) (a1 : Int) (a2 : Int) : Option R := Option.bind (U133.f k a0 (-1)) fun r1 => bif (decide (0 ≤ a2)) && (decide (a2 < ((List.length r1.2.1 : Nat) : Int))) then (bif List.getD r1.2.1 (Int.toNat a2) false then (Option.bind (U133.f k a0 a1) fun r2 => bif (decide (0 ≤ a2)) && (decide (a2 < ((List.length r2.2.1 : Nat) : Int))) then (some (((!(List.getD r2.2.1 (Int.toNat a2) false), ()), ()), ())) else none) else (some (((false, ()), ()), ()))) else none
abbrev S : ShapeParts := ⟨[⟨true, [.lst (.int .i64), .int .i64, .lst tBlock]⟩, ⟨false, [.int .i64]⟩, ⟨false, [.int .i64]⟩], [], false, [⟨false, [.bool]⟩], [], []⟩
def s (k : Nat) : FS := S.fs fun x => f k x.1.1 x.1.2.1.1 x.1.2.2.1.1
def E (k : Nat) : Ents := [(⟨145, []⟩, U133.s k)]
def L : List (LS R) := []
def c : Code := Tryz.f177.body.getD .skip
theorem eq (k : Nat) (x) : (s k).pf x = execF tab (E k) Tryz.f177 c (s k) L x := by kernel_rfl
theorem sound : ∀ k, Sound Tryz.prog 177 (s k) := snd S (fun k => (s k).pf) E (fun k => (EntsOK.cons (U133.sound k) EntsOK.nil)) (fun k => L) (fun k => trivial) eq
end U135
namespace U136
abbrev R := (((Bool × Unit) × Unit) × Unit)
def f (k : Nat) (a0 : tFuncD) (a1 : Int) (a2 : Int) (a3 : Int) : Option R := Option.bind (U115.f k a0 a1) fun r1 => bif decide (r1.1.1.1 = -1) then (some (((true, ()), ()), ())) else (bif decide (r1.1.1.1 = a2) then (some (((decide (a1 < a3), ()), ()), ())) else (Option.bind (U135.f k a0 r1.1.1.1 a2) fun r2 => some (((r2.1.1.1, ()), ()), ())))
abbrev S : ShapeParts := ⟨[⟨true, [.lst (.int .i64), .int .i64, .lst tBlock]⟩, ⟨false, [.int .i64]⟩, ⟨false, [.int .i64]⟩, ⟨false, [.int .i64]⟩], [], false, [⟨false, [.bool]⟩], [], []⟩
def s (k : Nat) : FS := S.fs fun x => f k x.1.1 x.1.2.1.1 x.1.2.2.1.1 x.1.2.2.2.1.1
def E (k : Nat) : Ents := [(⟨75, []⟩, U115.s k), (⟨177, []⟩, U135.s k)]
def L : List (LS R) := []
def c : Code := Tryz.f165.body.getD .skip
theorem eq (k : Nat) (x) : (s k).pf x = execF tab (E k) Tryz.f165 c (s k) L x := by kernel_rfl
theorem sound : ∀ k, Sound Tryz.prog 165 (s k) := snd S (fun k => (s k).pf) E (fun k => (EntsOK.cons (U115.sound k) (EntsOK.cons (U135.sound k) EntsOK.nil))) (fun k => L) (fun k => trivial) eq
end U136
namespace U137
abbrev R := (((Bool × Unit) × Unit) × Unit)
def f (k : Nat) (a0 : Int) (a1 : tFuncD) (a2 : Int) (a3 : Int) (a4 : Int) : Option R := Option.bind (U136.f k a1 a0 a2 (IntKind.wrap .i64 (a3 + a4))) fun r1 => some (((!r1.1.1.1, ()), ()), ())
abbrev S : ShapeParts := ⟨[⟨false, [.int .i64]⟩, ⟨false, [.ptr 0 0]⟩, ⟨false, [.ptr 1 0]⟩, ⟨false, [.ptr 2 0]⟩, ⟨false, [.ptr 3 0]⟩], [(0, .cbox [.lst (.int .i64), .int .i64, .lst tBlock]), (1, .cbox [.int .i64]), (2, .cbox [.int .i64]), (3, .cbox [.int .i64])], false, [⟨false, [.bool]⟩], [], []⟩
def s (k : Nat) : FS := S.fs fun x => f k x.1.1.1 x.2.1 x.2.2.1.1 x.2.2.2.1.1 x.2.2.2.2.1.1
def E (k : Nat) : Ents := [(⟨165, []⟩, U136.s k)]
def L : List (LS R) := []
def c : Code := Tryz.f168.body.getD .skip
theorem eq (k : Nat) (x) : (s k).pf x = execF tab (E k) Tryz.f168 c (s k) L x := by kernel_rfl
theorem sound : ∀ k, Sound Tryz.prog 168 (s k) := snd S (fun k => (s k).pf) E (fun k => (EntsOK.cons (U136.sound k) EntsOK.nil)) (fun k => L) (fun k => trivial) eq
end U137
namespace U138
abbrev R := (((Int × Unit) × Unit) × Unit)
abbrev T0 : Type := (List Int) → Int → Int → tFuncD → Int → Int → Int → Option R
def l0_ (k : Nat) (l0 : T0) (a0 : List Int) (a1 : Int) (a2 : Int) (a3 : tFuncD) (a4 : Int) (a5 : Int) (a6 : Int) : Option R := bif decide (a2 < a1) then (bif (decide (0 ≤ a2)) && (decide (a2 < ((List.length a0 : Nat) : Int))) then (Option.bind (U137.f k (List.getD a0 (Int.toNat a2) 0) a3 a4 a5 a6) fun r1 => bif r1.1.1.1 then (some (((a2, ()), ()), ())) else (l0 a0 a1 (IntKind.wrap .i64 (a2 + 1)) a3 a4 a5 a6)) else none) else (some (((-1, ()), ()), ()))
def all : Nat → (T0) × Unit
 | 0 => (fun _ _ _ _ _ _ _ => none, ())
 | k + 1 => (l0_ k (all k).1, ())
def l0 (k : Nat) : T0 := (all k).1
def f (k : Nat) (a0 : List Int) (a1 : tFuncD) (a2 : Int) (a3 : Int) (a4 : Int) : Option R := l0 k a0 ((List.length a0 : Nat) : Int) 0 a1 a2 a3 a4
abbrev S : ShapeParts := ⟨[⟨false, [.lst (.int .i64)]⟩, ⟨false, [.fn 168 [(0, 0), (1, 0), (2, 0), (3, 0)]]⟩], [(0, .cbox [.lst (.int .i64), .int .i64, .lst tBlock]), (1, .cbox [.int .i64]), (2, .cbox [.int .i64]), (3, .cbox [.int .i64])], false, [⟨false, [.int .i64]⟩], [], []⟩
def s (k : Nat) : FS := S.fs fun x => f k x.1.1.1 x.2.1 x.2.2.1.1 x.2.2.2.1.1 x.2.2.2.2.1.1
def E (k : Nat) : Ents := [(⟨168, []⟩, U137.s k)]
def L0 (l : T0) : LS R := ⟨[], [(0, ⟨false, [.lst (.int .i64)]⟩), (1, ⟨false, [.fn 168 [(0, 0), (1, 0), (2, 0), (3, 0)]]⟩), (7, ⟨false, [.int .i64]⟩), (8, ⟨false, [.int .i64]⟩)], [(0, .cbox [.lst (.int .i64), .int .i64, .lst tBlock]), (1, .cbox [.int .i64]), (2, .cbox [.int .i64]), (3, .cbox [.int .i64])], fun x => l x.1.1.1 x.1.2.2.1.1 x.1.2.2.2.1.1 x.2.1 x.2.2.1.1 x.2.2.2.1.1 x.2.2.2.2.1.1⟩
def L (l0 : T0) : List (LS R) := [L0 l0]
def c : Code := Tryz.f169.body.getD .skip
theorem eq (k : Nat) (x) : (s k).pf x = execF tab (E k) Tryz.f169 c (s k) (L (l0 k)) x := by kernel_rfl
theorem r0 (l0 : T0) (k : Nat) (x) : (L0 (l0_ k l0)).l x = roundOf tab (E k) (L l0) c (fin tab Tryz.f169 (s k)) 0 (L0 l0) x := by kernel_rfl
theorem sound : ∀ k, Sound Tryz.prog 169 (s k) := snd S (fun k => (s k).pf) E (fun k => (EntsOK.cons (U137.sound k) EntsOK.nil)) (fun k => L (l0 k)) (fun k => ⟨⟨(L0 (l0 (k + 1))).l, rfl, fun x => r0 (l0 k) k x⟩, trivial⟩) eq
end U138
namespace U139
abbrev R := (((Bool × Unit) × Unit) × Unit)
def f (k : Nat) (a0 : List Int) (a1 : tFuncD) (a2 : Int) (a3 : Int) (a4 : Int) : Option R := Option.bind (U138.f k a0 a1 a2 a3 a4) fun r1 => some (((decide (0 ≤ r1.1.1.1), ()), ()), ())
abbrev S : ShapeParts := ⟨[⟨false, [.lst (.int .i64)]⟩, ⟨false, [.fn 168 [(0, 0), (1, 0), (2, 0), (3, 0)]]⟩], [(0, .cbox [.lst (.int .i64), .int .i64, .lst tBlock]), (1, .cbox [.int .i64]), (2, .cbox [.int .i64]), (3, .cbox [.int .i64])], false, [⟨false, [.bool]⟩], [], []⟩
def s (k : Nat) : FS := S.fs fun x => f k x.1.1.1 x.2.1 x.2.2.1.1 x.2.2.2.1.1 x.2.2.2.2.1.1
def E (k : Nat) : Ents := [(⟨169, [168]⟩, U138.s k)]
def L : List (LS R) := []
def c : Code := Tryz.f150.body.getD .skip
theorem eq (k : Nat) (x) : (s k).pf x = execF tab (E k) Tryz.f150 c (s k) L x := by kernel_rfl
theorem sound : ∀ k, Sound Tryz.prog 150 (s k) := snd S (fun k => (s k).pf) E (fun k => (EntsOK.cons (U138.sound k) EntsOK.nil)) (fun k => L) (fun k => trivial) eq
end U139
namespace U140
abbrev R := (((Bool × Unit) × Unit) × Unit)
abbrev T0 : Type := (List Bool) → (List tPhiD) → Int → Int → tFuncD → Int → tBlockD → (List Int) → Option R
abbrev T1 : Type := (List Bool) → (List tPhiD) → Int → Int → (List Int) → Int → Int → tFuncD → Int → tBlockD → (List Int) → Option R
abbrev T2 : Type := (List tInstD) → Int → Int → tFuncD → Int → tBlockD → Int → Option R
def l0_ (k : Nat) (l0 : T0) (l1 : T1) (l2 : T2) (a0 : List Bool) (a1 : List tPhiD) (a2 : Int) (a3 : Int) (a4 : tFuncD) (a5 : Int) (a6 : tBlockD) (a7 : List Int) : Option R := bif decide (a3 < a2) then (bif (decide (0 ≤ a3)) && (decide (a3 < ((List.length a1 : Nat) : Int))) then (l1 a0 a1 a2 a3 ((List.getD a1 (Int.toNat a3) tPhiZ).2.1) ((List.length ((List.getD a1 (Int.toNat a3) tPhiZ).2.1) : Nat) : Int) 0 a4 a5 a6 a7) else none) else (Option.bind (U134.f k a4 a5) fun r1 => l2 a6.2.1 ((List.length a6.2.1 : Nat) : Int) 0 a4 a5 a6 (IntKind.wrap .i64 (r1.1.1.1 + ((List.length a6.1 : Nat) : Int))))
def l1_ (k : Nat) (l0 : T0) (l1 : T1) (l2 : T2) (a0 : List Bool) (a1 : List tPhiD) (a2 : Int) (a3 : Int) (a4 : List Int) (a5 : Int) (a6 : Int) (a7 : tFuncD) (a8 : Int) (a9 : tBlockD) (a10 : List Int) : Option R := bif decide (a6 < a5) then (bif (decide (0 ≤ a6)) && (decide (a6 < ((List.length a4 : Nat) : Int))) then (bif (decide (0 ≤ a6)) && (decide (a6 < ((List.length a10 : Nat) : Int))) then (bif (decide (0 ≤ List.getD a10 (Int.toNat a6) 0)) && (decide (List.getD a10 (Int.toNat a6) 0 < ((List.length a0 : Nat) : Int))) then (bif List.getD a0 (Int.toNat (List.getD a10 (Int.toNat a6) 0)) false then (bif (decide (0 ≤ a6)) && (decide (a6 < ((List.length a10 : Nat) : Int))) then (Option.bind (U74.f k a7) fun r1 => Option.bind (U136.f k a7 (List.getD a4 (Int.toNat a6) 0) (List.getD a10 (Int.toNat a6) 0) r1.1.1.1) fun r2 => bif !r2.1.1.1 then (some (((false, ()), ()), ())) else (l1 a0 a1 a2 a3 a4 a5 (IntKind.wrap .i64 (a6 + 1)) a7 a8 a9 a10)) else none) else (l1 a0 a1 a2 a3 a4 a5 (IntKind.wrap .i64 (a6 + 1)) a7 a8 a9 a10)) else none) else none) else none) else (l0 a0 a1 a2 (IntKind.wrap .i64 (a3 + 1)) a7 a8 a9 a10)
def l2_ (k : Nat) (l0 : T0) (l1 : T1) (l2 : T2) (a0 : List tInstD) (a1 : Int) (a2 : Int) (a3 : tFuncD) (a4 : Int) (a5 : tBlockD) (a6 : Int) : Option R := bif decide (a2 < a1) then (bif (decide (0 ≤ a2)) && (decide (a2 < ((List.length a0 : Nat) : Int))) then (Option.bind (U83.f k (List.getD a0 (Int.toNat a2) tInstZ)) fun r1 => Option.bind (U139.f k r1.2.1 a3 a4 a6 a2) fun r2 => bif r2.1.1.1 then (some (((false, ()), ()), ())) else (l2 a0 a1 (IntKind.wrap .i64 (a2 + 1)) a3 a4 a5 a6)) else none) else (bif decide (a5.2.2.1 = 1) then (Option.bind (U74.f k a3) fun r3 => Option.bind (U136.f k a3 a5.2.2.2.1 a4 r3.1.1.1) fun r4 => some (((r4.1.1.1, ()), ()), ())) else (bif !(decide (a5.2.2.1 = 3)) then (some (((true, ()), ()), ())) else (Option.bind (U74.f k a3) fun r5 => Option.bind (U136.f k a3 a5.2.2.2.1 a4 r5.1.1.1) fun r6 => some (((r6.1.1.1, ()), ()), ()))))
def all : Nat → (T0) × (T1) × (T2) × Unit
 | 0 => (fun _ _ _ _ _ _ _ _ => none, fun _ _ _ _ _ _ _ _ _ _ _ => none, fun _ _ _ _ _ _ _ => none, ())
 | k + 1 => (l0_ k (all k).1 (all k).2.1 (all k).2.2.1, l1_ k (all k).1 (all k).2.1 (all k).2.2.1, l2_ k (all k).1 (all k).2.1 (all k).2.2.1, ())
def l0 (k : Nat) : T0 := (all k).1
def l1 (k : Nat) : T1 := (all k).2.1
def l2 (k : Nat) : T2 := (all k).2.2.1
def f (k : Nat) (a0 : tFuncD) (a1 : Int) (a2 : List Bool) : Option R := bif (decide (0 ≤ a1)) && (decide (a1 < ((List.length a0.2.2.1 : Nat) : Int))) then (Option.bind (U108.f k a0 a1) fun r1 => l0 k a2 ((List.getD a0.2.2.1 (Int.toNat a1) tBlockZ).1) ((List.length ((List.getD a0.2.2.1 (Int.toNat a1) tBlockZ).1) : Nat) : Int) 0 a0 a1 (List.getD a0.2.2.1 (Int.toNat a1) tBlockZ) r1.2.1) else none
abbrev S : ShapeParts := ⟨[⟨true, [.lst (.int .i64), .int .i64, .lst tBlock]⟩, ⟨false, [.int .i64]⟩, ⟨false, [.lst .bool]⟩], [], false, [⟨false, [.bool]⟩], [], []⟩
def s (k : Nat) : FS := S.fs fun x => f k x.1.1 x.1.2.1.1 x.1.2.2.1.1
def E (k : Nat) : Ents := [(⟨158, []⟩, U108.s k), (⟨166, []⟩, U134.s k), (⟨128, []⟩, U74.s k), (⟨165, []⟩, U136.s k), (⟨167, []⟩, U83.s k), (⟨150, [168]⟩, U139.s k)]
def L0 (l : T0) : LS R := ⟨[], [(2, ⟨false, [.lst .bool]⟩), (3, ⟨false, [.ptr 100000 0]⟩), (4, ⟨false, [.ptr 100001 0]⟩), (7, ⟨false, [.ptr 100002 0]⟩), (8, ⟨false, [.own 100003]⟩), (26, ⟨false, [.lst tPhi]⟩), (27, ⟨false, [.int .i64]⟩), (28, ⟨false, [.int .i64]⟩)], [(100000, .box [.lst (.int .i64), .int .i64, .lst tBlock]), (100001, .box [.int .i64]), (100002, .box [.lst tPhi, .lst tInst, .int .i64, .int .i64, .int .i64, .int .i64]), (100003, .row true (.int .i64))], fun x => l x.1.1.1 x.1.2.2.2.2.2.1.1 x.1.2.2.2.2.2.2.1.1 x.1.2.2.2.2.2.2.2.1.1 x.2.1 x.2.2.1.1 x.2.2.2.1 x.2.2.2.2.1⟩
def L1 (l : T1) : LS R := ⟨[], [(2, ⟨false, [.lst .bool]⟩), (3, ⟨false, [.ptr 100000 0]⟩), (4, ⟨false, [.ptr 100001 0]⟩), (7, ⟨false, [.ptr 100002 0]⟩), (8, ⟨false, [.own 100003]⟩), (26, ⟨false, [.lst tPhi]⟩), (27, ⟨false, [.int .i64]⟩), (28, ⟨false, [.int .i64]⟩), (33, ⟨false, [.lst (.int .i64)]⟩), (34, ⟨false, [.int .i64]⟩), (35, ⟨false, [.int .i64]⟩)], [(100000, .box [.lst (.int .i64), .int .i64, .lst tBlock]), (100001, .box [.int .i64]), (100002, .box [.lst tPhi, .lst tInst, .int .i64, .int .i64, .int .i64, .int .i64]), (100003, .row true (.int .i64))], fun x => l x.1.1.1 x.1.2.2.2.2.2.1.1 x.1.2.2.2.2.2.2.1.1 x.1.2.2.2.2.2.2.2.1.1 x.1.2.2.2.2.2.2.2.2.1.1 x.1.2.2.2.2.2.2.2.2.2.1.1 x.1.2.2.2.2.2.2.2.2.2.2.1.1 x.2.1 x.2.2.1.1 x.2.2.2.1 x.2.2.2.2.1⟩
def L2 (l : T2) : LS R := ⟨[], [(3, ⟨false, [.ptr 100000 0]⟩), (4, ⟨false, [.ptr 100001 0]⟩), (7, ⟨false, [.ptr 100002 0]⟩), (13, ⟨false, [.ptr 100003 0]⟩), (69, ⟨false, [.lst tInst]⟩), (70, ⟨false, [.int .i64]⟩), (71, ⟨false, [.int .i64]⟩)], [(100000, .box [.lst (.int .i64), .int .i64, .lst tBlock]), (100001, .box [.int .i64]), (100002, .box [.lst tPhi, .lst tInst, .int .i64, .int .i64, .int .i64, .int .i64]), (100003, .box [.int .i64])], fun x => l x.1.2.2.2.2.1.1 x.1.2.2.2.2.2.1.1 x.1.2.2.2.2.2.2.1.1 x.2.1 x.2.2.1.1 x.2.2.2.1 x.2.2.2.2.1.1⟩
def L (l0 : T0) (l1 : T1) (l2 : T2) : List (LS R) := [L0 l0, L1 l1, L2 l2]
def c : Code := Tryz.f146.body.getD .skip
theorem eq (k : Nat) (x) : (s k).pf x = execF tab (E k) Tryz.f146 c (s k) (L (l0 k) (l1 k) (l2 k)) x := by kernel_rfl
theorem r0 (l0 : T0) (l1 : T1) (l2 : T2) (k : Nat) (x) : (L0 (l0_ k l0 l1 l2)).l x = roundOf tab (E k) (L l0 l1 l2) c (fin tab Tryz.f146 (s k)) 0 (L0 l0) x := by kernel_rfl
theorem r1 (l0 : T0) (l1 : T1) (l2 : T2) (k : Nat) (x) : (L1 (l1_ k l0 l1 l2)).l x = roundOf tab (E k) (L l0 l1 l2) c (fin tab Tryz.f146 (s k)) 1 (L1 l1) x := by kernel_rfl
theorem r2 (l0 : T0) (l1 : T1) (l2 : T2) (k : Nat) (x) : (L2 (l2_ k l0 l1 l2)).l x = roundOf tab (E k) (L l0 l1 l2) c (fin tab Tryz.f146 (s k)) 2 (L2 l2) x := by kernel_rfl
theorem sound : ∀ k, Sound Tryz.prog 146 (s k) := snd S (fun k => (s k).pf) E (fun k => (EntsOK.cons (U108.sound k) (EntsOK.cons (U134.sound k) (EntsOK.cons (U74.sound k) (EntsOK.cons (U136.sound k) (EntsOK.cons (U83.sound k) (EntsOK.cons (U139.sound k) EntsOK.nil))))))) (fun k => L (l0 k) (l1 k) (l2 k)) (fun k => ⟨⟨(L0 (l0 (k + 1))).l, rfl, fun x => r0 (l0 k) (l1 k) (l2 k) k x⟩, ⟨(L1 (l1 (k + 1))).l, rfl, fun x => r1 (l0 k) (l1 k) (l2 k) k x⟩, ⟨(L2 (l2 (k + 1))).l, rfl, fun x => r2 (l0 k) (l1 k) (l2 k) k x⟩, trivial⟩) eq
end U140
namespace U141
abbrev R := (((Int × Unit) × Unit) × Unit)
abbrev T0 : Type := (List tBlockD) → Int → Int → (List tFuncD) → tFuncD → Option R
abbrev T1 : Type := Int → Int → tFuncD → (List Bool) → Option R
def l0_ (k : Nat) (l0 : T0) (l1 : T1) (a0 : List tBlockD) (a1 : Int) (a2 : Int) (a3 : List tFuncD) (a4 : tFuncD) : Option R := bif decide (a2 < a1) then (bif (decide (0 ≤ a2)) && (decide (a2 < ((List.length a0 : Nat) : Int))) then (Option.bind (U132.f k ((List.getD a0 (Int.toNat a2) tBlockZ).2.1) a3 a4) fun r1 => bif r1.1.1.1 then (some (((5, ()), ()), ())) else (l0 a0 a1 (IntKind.wrap .i64 (a2 + 1)) a3 a4)) else none) else (Option.bind (U133.f k a4 (-1)) fun r2 => l1 ((List.length r2.2.1 : Nat) : Int) 0 a4 r2.2.1)
def l1_ (k : Nat) (l0 : T0) (l1 : T1) (a0 : Int) (a1 : Int) (a2 : tFuncD) (a3 : List Bool) : Option R := bif decide (a1 < a0) then (bif (decide (0 ≤ a1)) && (decide (a1 < ((List.length a3 : Nat) : Int))) then (bif List.getD a3 (Int.toNat a1) false then (Option.bind (U140.f k a2 a1 a3) fun r1 => bif !r1.1.1.1 then (some (((6, ()), ()), ())) else (l1 a0 (IntKind.wrap .i64 (a1 + 1)) a2 a3)) else (l1 a0 (IntKind.wrap .i64 (a1 + 1)) a2 a3)) else none) else (some (((0, ()), ()), ()))
def all : Nat → (T0) × (T1) × Unit
 | 0 => (fun _ _ _ _ _ => none, fun _ _ _ _ => none, ())
 | k + 1 => (l0_ k (all k).1 (all k).2.1, l1_ k (all k).1 (all k).2.1, ())
def l0 (k : Nat) : T0 := (all k).1
def l1 (k : Nat) : T1 := (all k).2.1
def f (k : Nat) (a0 : tModuleD) (a1 : tFuncD) : Option R := Option.bind (U109.f k a1) fun r1 => bif !r1.1.1.1 then (some (((2, ()), ()), ())) else (Option.bind (U113.f k a1) fun r2 => bif !r2.1.1.1 then (some (((3, ()), ()), ())) else (Option.bind (U128.f k a1) fun r3 => bif !r3.1.1.1 then (some (((4, ()), ()), ())) else (l0 k a1.2.2.1 ((List.length a1.2.2.1 : Nat) : Int) 0 a0.1 a1)))
abbrev S : ShapeParts := ⟨[⟨true, [.lst tFunc]⟩, ⟨true, [.lst (.int .i64), .int .i64, .lst tBlock]⟩], [], false, [⟨false, [.int .i64]⟩], [], []⟩
def s (k : Nat) : FS := S.fs fun x => f k x.1.1 x.1.2.1
def E (k : Nat) : Ents := [(⟨139, []⟩, U109.s k), (⟨140, []⟩, U113.s k), (⟨141, []⟩, U128.s k), (⟨142, [143]⟩, U132.s k), (⟨145, []⟩, U133.s k), (⟨146, []⟩, U140.s k)]
def L0 (l : T0) : LS R := ⟨[], [(2, ⟨false, [.ptr 100000 0]⟩), (3, ⟨false, [.ptr 100001 0]⟩), (23, ⟨false, [.lst tBlock]⟩), (24, ⟨false, [.int .i64]⟩), (25, ⟨false, [.int .i64]⟩)], [(100000, .box [.lst tFunc]), (100001, .box [.lst (.int .i64), .int .i64, .lst tBlock])], fun x => l x.1.2.2.1.1 x.1.2.2.2.1.1 x.1.2.2.2.2.1.1 x.2.1.1 x.2.2.1⟩
def L1 (l : T1) : LS R := ⟨[], [(3, ⟨false, [.ptr 100000 0]⟩), (7, ⟨false, [.own 100001]⟩), (36, ⟨false, [.own 100001]⟩), (37, ⟨false, [.int .i64]⟩), (38, ⟨false, [.int .i64]⟩)], [(100000, .box [.lst (.int .i64), .int .i64, .lst tBlock]), (100001, .row true .bool)], fun x => l x.1.2.2.2.1.1 x.1.2.2.2.2.1.1 x.2.1 x.2.2.1⟩
def L (l0 : T0) (l1 : T1) : List (LS R) := [L0 l0, L1 l1]
def c : Code := Tryz.f123.body.getD .skip
theorem eq (k : Nat) (x) : (s k).pf x = execF tab (E k) Tryz.f123 c (s k) (L (l0 k) (l1 k)) x := by kernel_rfl
theorem r0 (l0 : T0) (l1 : T1) (k : Nat) (x) : (L0 (l0_ k l0 l1)).l x = roundOf tab (E k) (L l0 l1) c (fin tab Tryz.f123 (s k)) 0 (L0 l0) x := by kernel_rfl
theorem r1 (l0 : T0) (l1 : T1) (k : Nat) (x) : (L1 (l1_ k l0 l1)).l x = roundOf tab (E k) (L l0 l1) c (fin tab Tryz.f123 (s k)) 1 (L1 l1) x := by kernel_rfl
theorem sound : ∀ k, Sound Tryz.prog 123 (s k) := snd S (fun k => (s k).pf) E (fun k => (EntsOK.cons (U109.sound k) (EntsOK.cons (U113.sound k) (EntsOK.cons (U128.sound k) (EntsOK.cons (U132.sound k) (EntsOK.cons (U133.sound k) (EntsOK.cons (U140.sound k) EntsOK.nil))))))) (fun k => L (l0 k) (l1 k)) (fun k => ⟨⟨(L0 (l0 (k + 1))).l, rfl, fun x => r0 (l0 k) (l1 k) k x⟩, ⟨(L1 (l1 (k + 1))).l, rfl, fun x => r1 (l0 k) (l1 k) k x⟩, trivial⟩) eq
end U141
namespace U142
abbrev R := (((Int × Unit) × Unit) × Unit)
abbrev T0 : Type := (List tFuncD) → Int → Int → (List tFuncD) → Option R
def l0_ (k : Nat) (l0 : T0) (a0 : List tFuncD) (a1 : Int) (a2 : Int) (a3 : List tFuncD) : Option R := bif decide (a2 < a1) then (bif (decide (0 ≤ a2)) && (decide (a2 < ((List.length a0 : Nat) : Int))) then (Option.bind (U141.f k (a3, ()) (List.getD a0 (Int.toNat a2) tFuncZ)) fun r1 => bif !decide (r1.1.1.1 = 0) then (some (((r1.1.1.1, ()), ()), ())) else (l0 a0 a1 (IntKind.wrap .i64 (a2 + 1)) a3)) else none) else (some (((0, ()), ()), ()))
def all : Nat → (T0) × Unit
 | 0 => (fun _ _ _ _ => none, ())
 | k + 1 => (l0_ k (all k).1, ())
def l0 (k : Nat) : T0 := (all k).1
def f (k : Nat) (a0 : tModuleD) : Option R := Option.bind (U104.f k (a0.1, ())) fun r1 => bif !r1.1.1.1 then (some (((1, ()), ()), ())) else (l0 k a0.1 ((List.length a0.1 : Nat) : Int) 0 a0.1)
abbrev S : ShapeParts := ⟨[⟨true, [.lst tFunc]⟩], [], false, [⟨false, [.int .i64]⟩], [], []⟩
def s (k : Nat) : FS := S.fs fun x => f k x.1.1
def E (k : Nat) : Ents := [(⟨122, []⟩, U104.s k), (⟨123, []⟩, U141.s k)]
def L0 (l : T0) : LS R := ⟨[], [(1, ⟨false, [.ptr 100000 0]⟩), (10, ⟨false, [.lst tFunc]⟩), (11, ⟨false, [.int .i64]⟩), (12, ⟨false, [.int .i64]⟩)], [(100000, .box [.lst tFunc])], fun x => l x.1.2.1.1 x.1.2.2.1.1 x.1.2.2.2.1.1 x.2.1.1⟩
def L (l0 : T0) : List (LS R) := [L0 l0]
def c : Code := Tryz.f104.body.getD .skip
theorem eq (k : Nat) (x) : (s k).pf x = execF tab (E k) Tryz.f104 c (s k) (L (l0 k)) x := by kernel_rfl
theorem r0 (l0 : T0) (k : Nat) (x) : (L0 (l0_ k l0)).l x = roundOf tab (E k) (L l0) c (fin tab Tryz.f104 (s k)) 0 (L0 l0) x := by kernel_rfl
theorem sound : ∀ k, Sound Tryz.prog 104 (s k) := snd S (fun k => (s k).pf) E (fun k => (EntsOK.cons (U104.sound k) (EntsOK.cons (U141.sound k) EntsOK.nil))) (fun k => L (l0 k)) (fun k => ⟨⟨(L0 (l0 (k + 1))).l, rfl, fun x => r0 (l0 k) k x⟩, trivial⟩) eq
end U142
namespace U143
abbrev R := (((Bool × Unit) × Unit) × Unit)
def f (k : Nat) (a0 : tModuleD) : Option R := Option.bind (U142.f k (a0.1, ())) fun r1 => some (((decide (r1.1.1.1 = 0), ()), ()), ())
abbrev S : ShapeParts := ⟨[⟨true, [.lst tFunc]⟩], [], false, [⟨false, [.bool]⟩], [], []⟩
def s (k : Nat) : FS := S.fs fun x => f k x.1.1
def E (k : Nat) : Ents := [(⟨104, []⟩, U142.s k)]
def L : List (LS R) := []
def c : Code := Tryz.f66.body.getD .skip
theorem eq (k : Nat) (x) : (s k).pf x = execF tab (E k) Tryz.f66 c (s k) L x := by kernel_rfl
theorem sound : ∀ k, Sound Tryz.prog 66 (s k) := snd S (fun k => (s k).pf) E (fun k => (EntsOK.cons (U142.sound k) EntsOK.nil)) (fun k => L) (fun k => trivial) eq
end U143
namespace U144
abbrev R := (((Int × Int × Int × Int × Int × Int × Unit × Unit) × Unit) × ((List Int) × Unit))
def f (k : Nat) (a0 : tInstD) : Option R := Option.bind (slices_Clone_int64_int64.f k a0.2.2.2.2.2.2.1) fun r1 => some (((a0.1, a0.2.1, a0.2.2.1, a0.2.2.2.1, a0.2.2.2.2.1, a0.2.2.2.2.2.1, (), ()), ()), (r1.2.1, ()))
abbrev S : ShapeParts := ⟨[⟨true, [.int .i64, .int .i64, .int .i64, .int .i64, .int .i64, .int .i64, .lst (.int .i64)]⟩], [], false, [⟨true, [.int .i64, .int .i64, .int .i64, .int .i64, .int .i64, .int .i64, .own 100]⟩], [(100, .row true (.int .i64))], []⟩
def s (k : Nat) : FS := S.fs fun x => f k x.1.1
def E (k : Nat) : Ents := [(⟨105, []⟩, slices_Clone_int64_int64.s k)]
def L : List (LS R) := []
def c : Code := Tryz.f124.body.getD .skip
theorem eq (k : Nat) (x) : (s k).pf x = execF tab (E k) Tryz.f124 c (s k) L x := by kernel_rfl
theorem sound : ∀ k, Sound Tryz.prog 124 (s k) := snd S (fun k => (s k).pf) E (fun k => (EntsOK.cons (slices_Clone_int64_int64.sound k) EntsOK.nil)) (fun k => L) (fun k => trivial) eq
end U144
namespace U145
abbrev R := (((Unit × Unit × Int × Int × Int × Int × Unit) × Unit) × ((List tPhiD) × (List tInstD) × Unit))
abbrev T0 : Type := (List tPhiD) → Int → Int → tBlockD → Int → Int → Int → Int → (List tPhiD) → (List tInstD) → Int → Int → Int → Int → (List tPhiD) → (List tInstD) → Option R
abbrev T1 : Type := (List tInstD) → Int → Int → Int → Int → Int → Int → (List tPhiD) → (List tInstD) → Int → Int → Int → Int → (List tPhiD) → (List tInstD) → Option R
def l0_ (k : Nat) (l0 : T0) (l1 : T1) (a0 : List tPhiD) (a1 : Int) (a2 : Int) (a3 : tBlockD) (a4 : Int) (a5 : Int) (a6 : Int) (a7 : Int) (a8 : List tPhiD) (a9 : List tInstD) (a10 : Int) (a11 : Int) (a12 : Int) (a13 : Int) (a14 : List tPhiD) (a15 : List tInstD) : Option R := bif decide (a2 < a1) then (bif (decide (0 ≤ a2)) && (decide (a2 < ((List.length a0 : Nat) : Int))) then (Option.bind (slices_Clone_int64_int64.f k ((List.getD a0 (Int.toNat a2) tPhiZ).2.1)) fun r1 => bif decide ((List.length a14 + List.length [(((List.getD a0 (Int.toNat a2) tPhiZ).1, r1.2.1, ()) : tPhiD)]) * 32 ≤ 140737488355328) then (l0 a0 a1 (IntKind.wrap .i64 (a2 + 1)) a3 a4 a5 a6 a7 a8 a9 a10 a11 a12 a13 (a14 ++ [(((List.getD a0 (Int.toNat a2) tPhiZ).1, r1.2.1, ()) : tPhiD)]) a15) else none) else none) else (l1 a3.2.1 ((List.length a3.2.1 : Nat) : Int) 0 a4 a5 a6 a7 a8 a9 a10 a11 a12 a13 a14 a15)
def l1_ (k : Nat) (l0 : T0) (l1 : T1) (a0 : List tInstD) (a1 : Int) (a2 : Int) (a3 : Int) (a4 : Int) (a5 : Int) (a6 : Int) (a7 : List tPhiD) (a8 : List tInstD) (a9 : Int) (a10 : Int) (a11 : Int) (a12 : Int) (a13 : List tPhiD) (a14 : List tInstD) : Option R := bif decide (a2 < a1) then (bif (decide (0 ≤ a2)) && (decide (a2 < ((List.length a0 : Nat) : Int))) then (Option.bind (U144.f k (List.getD a0 (Int.toNat a2) tInstZ)) fun r1 => bif decide ((List.length a14 + List.length [((r1.1.1.1, r1.1.1.2.1, r1.1.1.2.2.1, r1.1.1.2.2.2.1, r1.1.1.2.2.2.2.1, r1.1.1.2.2.2.2.2.1, r1.2.1, ()) : tInstD)]) * 72 ≤ 140737488355328) then (l1 a0 a1 (IntKind.wrap .i64 (a2 + 1)) a3 a4 a5 a6 a7 a8 a9 a10 a11 a12 a13 (a14 ++ [((r1.1.1.1, r1.1.1.2.1, r1.1.1.2.2.1, r1.1.1.2.2.2.1, r1.1.1.2.2.2.2.1, r1.1.1.2.2.2.2.2.1, r1.2.1, ()) : tInstD)])) else none) else none) else (some ((((), (), a9, a10, a11, a12, ()), ()), (a13, a14, ())))
def all : Nat → (T0) × (T1) × Unit
 | 0 => (fun _ _ _ _ _ _ _ _ _ _ _ _ _ _ _ _ => none, fun _ _ _ _ _ _ _ _ _ _ _ _ _ _ _ => none, ())
 | k + 1 => (l0_ k (all k).1 (all k).2.1, l1_ k (all k).1 (all k).2.1, ())
def l0 (k : Nat) : T0 := (all k).1
def l1 (k : Nat) : T1 := (all k).2.1
def f (k : Nat) (a0 : tBlockD) : Option R := l0 k a0.1 ((List.length a0.1 : Nat) : Int) 0 a0 0 0 0 0 ([] : List tPhiD) ([] : List tInstD) a0.2.2.1 a0.2.2.2.1 a0.2.2.2.2.1 a0.2.2.2.2.2.1 ([] : List tPhiD) ([] : List tInstD)
abbrev S : ShapeParts := ⟨[⟨true, [.lst tPhi, .lst tInst, .int .i64, .int .i64, .int .i64, .int .i64]⟩], [], false, [⟨true, [.own 100, .own 101, .int .i64, .int .i64, .int .i64, .int .i64]⟩], [(100, .row true tPhi), (101, .row true tInst)], []⟩
def s (k : Nat) : FS := S.fs fun x => f k x.1.1
def E (k : Nat) : Ents := [(⟨105, []⟩, slices_Clone_int64_int64.s k), (⟨124, []⟩, U144.s k)]
def L0 (l : T0) : LS R := ⟨[], [(1, ⟨false, [.ptr 100000 0]⟩), (2, ⟨false, [.ptr 100001 0]⟩), (3, ⟨false, [.ptr 100004 0]⟩), (12, ⟨false, [.lst tPhi]⟩), (13, ⟨false, [.int .i64]⟩), (14, ⟨false, [.int .i64]⟩)], [(100000, .box [.lst tPhi, .lst tInst, .int .i64, .int .i64, .int .i64, .int .i64]), (100001, .box [.own 100002, .own 100003, .int .i64, .int .i64, .int .i64, .int .i64]), (100002, .row true tPhi), (100003, .row true tInst), (100004, .box [.own 100005, .own 100006, .int .i64, .int .i64, .int .i64, .int .i64]), (100005, .row true tPhi), (100006, .row true tInst)], fun x => l x.1.2.2.2.1.1 x.1.2.2.2.2.1.1 x.1.2.2.2.2.2.1.1 x.2.1 x.2.2.1.2.2.1 x.2.2.1.2.2.2.1 x.2.2.1.2.2.2.2.1 x.2.2.1.2.2.2.2.2.1 x.2.2.2.1 x.2.2.2.2.1 x.2.2.2.2.2.1.2.2.1 x.2.2.2.2.2.1.2.2.2.1 x.2.2.2.2.2.1.2.2.2.2.1 x.2.2.2.2.2.1.2.2.2.2.2.1 x.2.2.2.2.2.2.1 x.2.2.2.2.2.2.2.1⟩
def L1 (l : T1) : LS R := ⟨[], [(2, ⟨false, [.ptr 100000 0]⟩), (3, ⟨false, [.ptr 100003 0]⟩), (31, ⟨false, [.lst tInst]⟩), (32, ⟨false, [.int .i64]⟩), (33, ⟨false, [.int .i64]⟩)], [(100000, .box [.own 100001, .own 100002, .int .i64, .int .i64, .int .i64, .int .i64]), (100001, .row true tPhi), (100002, .row true tInst), (100003, .box [.own 100004, .own 100005, .int .i64, .int .i64, .int .i64, .int .i64]), (100004, .row true tPhi), (100005, .row true tInst)], fun x => l x.1.2.2.1.1 x.1.2.2.2.1.1 x.1.2.2.2.2.1.1 x.2.1.2.2.1 x.2.1.2.2.2.1 x.2.1.2.2.2.2.1 x.2.1.2.2.2.2.2.1 x.2.2.1 x.2.2.2.1 x.2.2.2.2.1.2.2.1 x.2.2.2.2.1.2.2.2.1 x.2.2.2.2.1.2.2.2.2.1 x.2.2.2.2.1.2.2.2.2.2.1 x.2.2.2.2.2.1 x.2.2.2.2.2.2.1⟩
def L (l0 : T0) (l1 : T1) : List (LS R) := [L0 l0, L1 l1]
def c : Code := Tryz.f106.body.getD .skip
theorem eq (k : Nat) (x) : (s k).pf x = execF tab (E k) Tryz.f106 c (s k) (L (l0 k) (l1 k)) x := by kernel_rfl
theorem r0 (l0 : T0) (l1 : T1) (k : Nat) (x) : (L0 (l0_ k l0 l1)).l x = roundOf tab (E k) (L l0 l1) c (fin tab Tryz.f106 (s k)) 0 (L0 l0) x := by kernel_rfl
theorem r1 (l0 : T0) (l1 : T1) (k : Nat) (x) : (L1 (l1_ k l0 l1)).l x = roundOf tab (E k) (L l0 l1) c (fin tab Tryz.f106 (s k)) 1 (L1 l1) x := by kernel_rfl
theorem sound : ∀ k, Sound Tryz.prog 106 (s k) := snd S (fun k => (s k).pf) E (fun k => (EntsOK.cons (slices_Clone_int64_int64.sound k) (EntsOK.cons (U144.sound k) EntsOK.nil))) (fun k => L (l0 k) (l1 k)) (fun k => ⟨⟨(L0 (l0 (k + 1))).l, rfl, fun x => r0 (l0 k) (l1 k) k x⟩, ⟨(L1 (l1 (k + 1))).l, rfl, fun x => r1 (l0 k) (l1 k) k x⟩, trivial⟩) eq
end U145
namespace U146
abbrev R := (((Unit × Int × Unit × Unit) × Unit) × ((List Int) × (List tBlockD) × Unit))
abbrev T0 : Type := (List tBlockD) → Int → Int → Int → (List Int) → (List tBlockD) → Int → (List Int) → (List tBlockD) → Option R
def l0_ (k : Nat) (l0 : T0) (a0 : List tBlockD) (a1 : Int) (a2 : Int) (a3 : Int) (a4 : List Int) (a5 : List tBlockD) (a6 : Int) (a7 : List Int) (a8 : List tBlockD) : Option R := bif decide (a2 < a1) then (bif (decide (0 ≤ a2)) && (decide (a2 < ((List.length a0 : Nat) : Int))) then (Option.bind (U145.f k (List.getD a0 (Int.toNat a2) tBlockZ)) fun r1 => bif decide ((List.length a8 + List.length [((r1.2.1, r1.2.2.1, r1.1.1.2.2.1, r1.1.1.2.2.2.1, r1.1.1.2.2.2.2.1, r1.1.1.2.2.2.2.2.1, ()) : tBlockD)]) * 80 ≤ 140737488355328) then (l0 a0 a1 (IntKind.wrap .i64 (a2 + 1)) a3 a4 a5 a6 a7 (a8 ++ [((r1.2.1, r1.2.2.1, r1.1.1.2.2.1, r1.1.1.2.2.2.1, r1.1.1.2.2.2.2.1, r1.1.1.2.2.2.2.2.1, ()) : tBlockD)])) else none) else none) else (some ((((), a6, (), ()), ()), (a7, a8, ())))
def all : Nat → (T0) × Unit
 | 0 => (fun _ _ _ _ _ _ _ _ _ => none, ())
 | k + 1 => (l0_ k (all k).1, ())
def l0 (k : Nat) : T0 := (all k).1
def f (k : Nat) (a0 : tFuncD) : Option R := Option.bind (slices_Clone_int64_int64.f k a0.1) fun r1 => l0 k a0.2.2.1 ((List.length a0.2.2.1 : Nat) : Int) 0 0 ([] : List Int) ([] : List tBlockD) a0.2.1 r1.2.1 ([] : List tBlockD)
abbrev S : ShapeParts := ⟨[⟨true, [.lst (.int .i64), .int .i64, .lst tBlock]⟩], [], false, [⟨true, [.own 100, .int .i64, .own 101]⟩], [(100, .row true (.int .i64)), (101, .row true tBlock)], []⟩
def s (k : Nat) : FS := S.fs fun x => f k x.1.1
def E (k : Nat) : Ents := [(⟨105, []⟩, slices_Clone_int64_int64.s k), (⟨106, []⟩, U145.s k)]
def L0 (l : T0) : LS R := ⟨[], [(2, ⟨false, [.ptr 100000 0]⟩), (3, ⟨false, [.ptr 100003 0]⟩), (13, ⟨false, [.lst tBlock]⟩), (14, ⟨false, [.int .i64]⟩), (15, ⟨false, [.int .i64]⟩)], [(100000, .box [.own 100001, .int .i64, .own 100002]), (100001, .row true (.int .i64)), (100002, .row true tBlock), (100003, .box [.own 100004, .int .i64, .own 100005]), (100004, .row true (.int .i64)), (100005, .row true tBlock)], fun x => l x.1.2.2.1.1 x.1.2.2.2.1.1 x.1.2.2.2.2.1.1 x.2.1.2.1 x.2.2.1 x.2.2.2.1 x.2.2.2.2.1.2.1 x.2.2.2.2.2.1 x.2.2.2.2.2.2.1⟩
def L (l0 : T0) : List (LS R) := [L0 l0]
def c : Code := Tryz.f67.body.getD .skip
theorem eq (k : Nat) (x) : (s k).pf x = execF tab (E k) Tryz.f67 c (s k) (L (l0 k)) x := by kernel_rfl
theorem r0 (l0 : T0) (k : Nat) (x) : (L0 (l0_ k l0)).l x = roundOf tab (E k) (L l0) c (fin tab Tryz.f67 (s k)) 0 (L0 l0) x := by kernel_rfl
theorem sound : ∀ k, Sound Tryz.prog 67 (s k) := snd S (fun k => (s k).pf) E (fun k => (EntsOK.cons (slices_Clone_int64_int64.sound k) (EntsOK.cons (U145.sound k) EntsOK.nil))) (fun k => L (l0 k)) (fun k => ⟨⟨(L0 (l0 (k + 1))).l, rfl, fun x => r0 (l0 k) k x⟩, trivial⟩) eq
end U146
namespace U147
abbrev R := (((Int × Unit) × (Bool × Unit) × Unit) × Unit)
def f (k : Nat) (a0 : tFuncD) (a1 : Int) : Option R := Option.bind (U116.f k a0 a1) fun r1 => bif !r1.1.2.1.1 then (some (((0, ()), (false, ()), ()), ())) else (bif !decide (r1.1.1.1 = 21) then (some (((0, ()), (false, ()), ()), ())) else (some (((r1.1.1.2.2.2.2.2.1, ()), (true, ()), ()), ())))
abbrev S : ShapeParts := ⟨[⟨true, [.lst (.int .i64), .int .i64, .lst tBlock]⟩, ⟨false, [.int .i64]⟩], [], true, [⟨false, [.int .i64]⟩, ⟨false, [.bool]⟩], [], []⟩
def s (k : Nat) : FS := S.fs fun x => f k x.1.1 x.1.2.1.1
def E (k : Nat) : Ents := [(⟨68, []⟩, U116.s k)]
def L : List (LS R) := []
def c : Code := Tryz.f29.body.getD .skip
theorem eq (k : Nat) (x) : (s k).pf x = execF tab (E k) Tryz.f29 c (s k) L x := by kernel_rfl
theorem sound : ∀ k, Sound Tryz.prog 29 (s k) := snd S (fun k => (s k).pf) E (fun k => (EntsOK.cons (U116.sound k) EntsOK.nil)) (fun k => L) (fun k => trivial) eq
end U147
namespace U155
abbrev R := (((Int × Int × Int × Int × Int × Int × Unit × Unit) × Unit) × Unit)
def f (k : Nat) (a0 : tInstD) (a1 : Int) : Option R := Option.bind (U118.f k a0) fun r1 => some (((21, r1.1.1.1, 0, 0, 0, a1, (), ()), ()), ())
abbrev S : ShapeParts := ⟨[⟨true, [.int .i64, .int .i64, .int .i64, .int .i64, .int .i64, .int .i64, .lst (.int .i64)]⟩, ⟨false, [.int .i64]⟩], [], false, [⟨true, [.int .i64, .int .i64, .int .i64, .int .i64, .int .i64, .int .i64, .nilc]⟩], [], []⟩
def s (k : Nat) : FS := S.fs fun x => f k x.1.1 x.1.2.1.1
def E (k : Nat) : Ents := [(⟨76, []⟩, U118.s k)]
def L : List (LS R) := []
def c : Code := Tryz.f35.body.getD .skip
theorem eq (k : Nat) (x) : (s k).pf x = execF tab (E k) Tryz.f35 c (s k) L x := by kernel_rfl
theorem sound : ∀ k, Sound Tryz.prog 35 (s k) := snd S (fun k => (s k).pf) E (fun k => (EntsOK.cons (U118.sound k) EntsOK.nil)) (fun k => L) (fun k => trivial) eq
end U155
namespace U157
abbrev R := (((Int × Int × Int × Int × Int × Int × Unit × Unit) × Unit) × Unit)
def f (k : Nat) (a0 : tInstD) (a1 : Int) : Option R := Option.bind (U118.f k a0) fun r1 => some (((27, r1.1.1.1, a1, 0, 0, 0, (), ()), ()), ())
abbrev S : ShapeParts := ⟨[⟨true, [.int .i64, .int .i64, .int .i64, .int .i64, .int .i64, .int .i64, .lst (.int .i64)]⟩, ⟨false, [.int .i64]⟩], [], false, [⟨true, [.int .i64, .int .i64, .int .i64, .int .i64, .int .i64, .int .i64, .nilc]⟩], [], []⟩
def s (k : Nat) : FS := S.fs fun x => f k x.1.1 x.1.2.1.1
def E (k : Nat) : Ents := [(⟨76, []⟩, U118.s k)]
def L : List (LS R) := []
def c : Code := Tryz.f36.body.getD .skip
theorem eq (k : Nat) (x) : (s k).pf x = execF tab (E k) Tryz.f36 c (s k) L x := by kernel_rfl
theorem sound : ∀ k, Sound Tryz.prog 36 (s k) := snd S (fun k => (s k).pf) E (fun k => (EntsOK.cons (U118.sound k) EntsOK.nil)) (fun k => L) (fun k => trivial) eq
end U157
namespace U148
abbrev R := (((Bool × Unit) × Unit) × Unit)
def f (k : Nat) (a0 : Int) : Option R := Option.bind (U69.f k a0 4 7) fun r1 => some (((r1.1.1.1, ()), ()), ())
abbrev S : ShapeParts := ⟨[⟨false, [.int .i64]⟩], [], false, [⟨false, [.bool]⟩], [], []⟩
def s (k : Nat) : FS := S.fs fun x => f k x.1.1.1
def E (k : Nat) : Ents := [(⟨69, []⟩, U69.s k)]
def L : List (LS R) := []
def c : Code := Tryz.f107.body.getD .skip
theorem eq (k : Nat) (x) : (s k).pf x = execF tab (E k) Tryz.f107 c (s k) L x := by kernel_rfl
theorem sound : ∀ k, Sound Tryz.prog 107 (s k) := snd S (fun k => (s k).pf) E (fun k => (EntsOK.cons (U69.sound k) EntsOK.nil)) (fun k => L) (fun k => trivial) eq
end U148
namespace U149
abbrev R := (((Int × Unit) × Unit) × Unit)
def f (k : Nat) (a0 : Int) (a1 : Int) : Option R := bif decide (0 ≤ IntKind.wrap .i64 (a0 - 1)) then (bif decide (band .i64 (V.shr .i64 a1 (IntKind.wrap .i64 (a0 - 1))) 1 = 1) then (Option.bind (U91.f k a0) fun r1 => some (((IntKind.wrap .i64 ((IntKind.wrap .i64 (a1 - r1.1.1.1)) - 1), ()), ()), ())) else (some (((a1, ()), ()), ()))) else none
abbrev S : ShapeParts := ⟨[⟨false, [.int .i64]⟩, ⟨false, [.int .i64]⟩], [], false, [⟨false, [.int .i64]⟩], [], []⟩
def s (k : Nat) : FS := S.fs fun x => f k x.1.1.1 x.1.2.1.1
def E (k : Nat) : Ents := [(⟨77, []⟩, U91.s k)]
def L : List (LS R) := []
def c : Code := Tryz.f74.body.getD .skip
theorem eq (k : Nat) (x) : (s k).pf x = execF tab (E k) Tryz.f74 c (s k) L x := by kernel_rfl
theorem sound : ∀ k, Sound Tryz.prog 74 (s k) := snd S (fun k => (s k).pf) E (fun k => (EntsOK.cons (U91.sound k) EntsOK.nil)) (fun k => L) (fun k => trivial) eq
end U149
namespace U150
abbrev R := (((Int × Unit) × Unit) × Unit)
def f (k : Nat) (a0 : Bool) : Option R := bif a0 then (some (((1, ()), ()), ())) else (some (((0, ()), ()), ()))
abbrev S : ShapeParts := ⟨[⟨false, [.bool]⟩], [], false, [⟨false, [.int .i64]⟩], [], []⟩
def s (k : Nat) : FS := S.fs fun x => f k x.1.1.1
def E (k : Nat) : Ents := []
def L : List (LS R) := []
def c : Code := Tryz.f125.body.getD .skip
theorem eq (k : Nat) (x) : (s k).pf x = execF tab (E k) Tryz.f125 c (s k) L x := by kernel_rfl
theorem sound : ∀ k, Sound Tryz.prog 125 (s k) := snd S (fun k => (s k).pf) E (fun k => EntsOK.nil) (fun k => L) (fun k => trivial) eq
end U150
namespace U151
abbrev R := (((Int × Unit) × Unit) × Unit)
def f (k : Nat) (a0 : Int) (a1 : Int) (a2 : Int) (a3 : Int) : Option R := bif decide (a0 = 13) then (Option.bind (U149.f k a1 a2) fun r1 => bif decide (0 ≤ bif decide (63 < a3) then 63 else a3) then (some (((V.shr .i64 r1.1.1.1 (bif decide (63 < a3) then 63 else a3), ()), ()), ())) else none) else (bif decide (a1 ≤ a3) then (some (((0, ()), ()), ())) else (bif decide (a0 = 11) then (bif decide (0 ≤ a3) then (some (((V.shl .i64 a2 a3, ()), ()), ())) else none) else (bif decide (0 ≤ a3) then (some (((V.shr .i64 a2 a3, ()), ()), ())) else none)))
abbrev S : ShapeParts := ⟨[⟨false, [.int .i64]⟩, ⟨false, [.int .i64]⟩, ⟨false, [.int .i64]⟩, ⟨false, [.int .i64]⟩], [], false, [⟨false, [.int .i64]⟩], [], []⟩
def s (k : Nat) : FS := S.fs fun x => f k x.1.1.1 x.1.2.1.1 x.1.2.2.1.1 x.1.2.2.2.1.1
def E (k : Nat) : Ents := [(⟨74, []⟩, U149.s k)]
def L : List (LS R) := []
def c : Code := Tryz.f126.body.getD .skip
theorem eq (k : Nat) (x) : (s k).pf x = execF tab (E k) Tryz.f126 c (s k) L x := by kernel_rfl
theorem sound : ∀ k, Sound Tryz.prog 126 (s k) := snd S (fun k => (s k).pf) E (fun k => (EntsOK.cons (U149.sound k) EntsOK.nil)) (fun k => L) (fun k => trivial) eq
end U151
namespace U152
abbrev R := (((Int × Unit) × Unit) × Unit)
def f (k : Nat) (a0 : Int) (a1 : Int) (a2 : Int) (a3 : Int) : Option R := Option.bind (U149.f k a1 a2) fun r1 => Option.bind (U149.f k a1 a3) fun r2 => bif decide (a0 = 1) then (some (((IntKind.wrap .i64 (a2 + a3), ()), ()), ())) else (bif decide (a0 = 2) then (some (((IntKind.wrap .i64 (a2 - a3), ()), ()), ())) else (bif decide (a0 = 3) then (some (((IntKind.wrap .i64 (a2 * a3), ()), ()), ())) else (bif decide (a0 = 4) then (bif !decide (a3 = 0) then (some (((IntKind.wrap .i64 (Int.tdiv a2 a3), ()), ()), ())) else none) else (bif decide (a0 = 5) then (bif !decide (r2.1.1.1 = 0) then (some (((IntKind.wrap .i64 (Int.tdiv r1.1.1.1 r2.1.1.1), ()), ()), ())) else none) else (bif decide (a0 = 6) then (bif !decide (a3 = 0) then (some (((Int.tmod a2 a3, ()), ()), ())) else none) else (bif decide (a0 = 7) then (bif !decide (r2.1.1.1 = 0) then (some (((Int.tmod r1.1.1.1 r2.1.1.1, ()), ()), ())) else none) else (bif decide (a0 = 8) then (some (((band .i64 a2 a3, ()), ()), ())) else (bif decide (a0 = 9) then (some (((bor .i64 a2 a3, ()), ()), ())) else (bif decide (a0 = 10) then (some (((bxor .i64 a2 a3, ()), ()), ())) else (bif decide (a0 = 14) then (Option.bind (U150.f k (decide (a2 = a3))) fun r3 => some (((r3.1.1.1, ()), ()), ())) else (bif decide (a0 = 15) then (Option.bind (U150.f k (!decide (a2 = a3))) fun r4 => some (((r4.1.1.1, ()), ()), ())) else (bif decide (a0 = 16) then (Option.bind (U150.f k (decide (a2 < a3))) fun r5 => some (((r5.1.1.1, ()), ()), ())) else (bif decide (a0 = 17) then (Option.bind (U150.f k (decide (r1.1.1.1 < r2.1.1.1))) fun r6 => some (((r6.1.1.1, ()), ()), ())) else (Option.bind (U151.f k a0 a1 a2 a3) fun r7 => some (((r7.1.1.1, ()), ()), ())))))))))))))))
abbrev S : ShapeParts := ⟨[⟨false, [.int .i64]⟩, ⟨false, [.int .i64]⟩, ⟨false, [.int .i64]⟩, ⟨false, [.int .i64]⟩], [], false, [⟨false, [.int .i64]⟩], [], []⟩
def s (k : Nat) : FS := S.fs fun x => f k x.1.1.1 x.1.2.1.1 x.1.2.2.1.1 x.1.2.2.2.1.1
def E (k : Nat) : Ents := [(⟨74, []⟩, U149.s k), (⟨125, []⟩, U150.s k), (⟨126, []⟩, U151.s k)]
def L : List (LS R) := []
def c : Code := Tryz.f108.body.getD .skip
theorem eq (k : Nat) (x) : (s k).pf x = execF tab (E k) Tryz.f108 c (s k) L x := by kernel_rfl
theorem sound : ∀ k, Sound Tryz.prog 108 (s k) := snd S (fun k => (s k).pf) E (fun k => (EntsOK.cons (U149.sound k) (EntsOK.cons (U150.sound k) (EntsOK.cons (U151.sound k) EntsOK.nil)))) (fun k => L) (fun k => trivial) eq
end U152
namespace U153
abbrev R := (((Int × Unit) × Unit) × Unit)
def f (k : Nat) (a0 : Int) (a1 : Int) : Option R := Option.bind (U70.f k a0) fun r1 => bif !r1.1.1.1 then (some (((0, ()), ()), ())) else (Option.bind (U91.f k a0) fun r2 => some (((band .i64 a1 r2.1.1.1, ()), ()), ()))
abbrev S : ShapeParts := ⟨[⟨false, [.int .i64]⟩, ⟨false, [.int .i64]⟩], [], false, [⟨false, [.int .i64]⟩], [], []⟩
def s (k : Nat) : FS := S.fs fun x => f k x.1.1.1 x.1.2.1.1
def E (k : Nat) : Ents := [(⟨72, []⟩, U70.s k), (⟨77, []⟩, U91.s k)]
def L : List (LS R) := []
def c : Code := Tryz.f73.body.getD .skip
theorem eq (k : Nat) (x) : (s k).pf x = execF tab (E k) Tryz.f73 c (s k) L x := by kernel_rfl
theorem sound : ∀ k, Sound Tryz.prog 73 (s k) := snd S (fun k => (s k).pf) E (fun k => (EntsOK.cons (U70.sound k) (EntsOK.cons (U91.sound k) EntsOK.nil))) (fun k => L) (fun k => trivial) eq
end U153
namespace U154
abbrev R := (((Int × Unit) × (Int × Unit) × Unit) × Unit)
def f (k : Nat) (a0 : Int) (a1 : Int) (a2 : Int) (a3 : Int) : Option R := Option.bind (U81.f k a0) fun r1 => bif !r1.1.1.1 then (some (((0, ()), (2, ()), ()), ())) else (Option.bind (U92.f k a1 a2) fun r2 => bif !r2.1.1.1 then (some (((0, ()), (2, ()), ()), ())) else (Option.bind (U92.f k a1 a3) fun r3 => bif !r3.1.1.1 then (some (((0, ()), (2, ()), ()), ())) else (Option.bind (U148.f k a0) fun r4 => bif r4.1.1.1 then (bif decide (a3 = 0) then (some (((0, ()), (1, ()), ()), ())) else (Option.bind (U152.f k a0 a1 a2 a3) fun r5 => Option.bind (U153.f k a1 r5.1.1.1) fun r6 => some (((r6.1.1.1, ()), (0, ()), ()), ()))) else (Option.bind (U152.f k a0 a1 a2 a3) fun r7 => Option.bind (U153.f k a1 r7.1.1.1) fun r8 => some (((r8.1.1.1, ()), (0, ()), ()), ())))))
abbrev S : ShapeParts := ⟨[⟨false, [.int .i64]⟩, ⟨false, [.int .i64]⟩, ⟨false, [.int .i64]⟩, ⟨false, [.int .i64]⟩], [], true, [⟨false, [.int .i64]⟩, ⟨false, [.int .i64]⟩], [], []⟩
def s (k : Nat) : FS := S.fs fun x => f k x.1.1.1 x.1.2.1.1 x.1.2.2.1.1 x.1.2.2.2.1.1
def E (k : Nat) : Ents := [(⟨30, []⟩, U81.s k), (⟨37, []⟩, U92.s k), (⟨107, []⟩, U148.s k), (⟨108, []⟩, U152.s k), (⟨73, []⟩, U153.s k)]
def L : List (LS R) := []
def c : Code := Tryz.f70.body.getD .skip
theorem eq (k : Nat) (x) : (s k).pf x = execF tab (E k) Tryz.f70 c (s k) L x := by kernel_rfl
theorem sound : ∀ k, Sound Tryz.prog 70 (s k) := snd S (fun k => (s k).pf) E (fun k => (EntsOK.cons (U81.sound k) (EntsOK.cons (U92.sound k) (EntsOK.cons (U148.sound k) (EntsOK.cons (U152.sound k) (EntsOK.cons (U153.sound k) EntsOK.nil)))))) (fun k => L) (fun k => trivial) eq
end U154
namespace U156
abbrev R := (((Bool × Unit) × Unit) × Unit)
def f (k : Nat) (a0 : Int) (a1 : List Int) : Option R := Option.bind (U107.f k a1 a0) fun r1 => some (((r1.1.1.1, ()), ()), ())
abbrev S : ShapeParts := ⟨[⟨false, [.int .i64]⟩, ⟨false, [.lst (.int .i64)]⟩], [], false, [⟨false, [.bool]⟩], [], []⟩
def s (k : Nat) : FS := S.fs fun x => f k x.1.1.1 x.1.2.1.1
def E (k : Nat) : Ents := [(⟨109, []⟩, U107.s k)]
def L : List (LS R) := []
def c : Code := Tryz.f71.body.getD .skip
theorem eq (k : Nat) (x) : (s k).pf x = execF tab (E k) Tryz.f71 c (s k) L x := by kernel_rfl
theorem sound : ∀ k, Sound Tryz.prog 71 (s k) := snd S (fun k => (s k).pf) E (fun k => (EntsOK.cons (U107.sound k) EntsOK.nil)) (fun k => L) (fun k => trivial) eq
end U156
namespace U158
abbrev R := (((Int × Int × Int × Int × Int × Int × Bool × Unit) × Unit) × ((List Int) × Unit))
def f (k : Nat) (a0 : tFuncD) (a1 : Int) (a2 : Int) (a3 : Int) (a4 : Int) (a5 : Int) (a6 : Int) (a7 : List Int) : Option R := Option.bind (U147.f k a0 a3) fun r1 => Option.bind (U147.f k a0 a4) fun r2 => bif r1.1.2.1.1 then (bif r2.1.2.1.1 then (Option.bind (U154.f k a1 a2 r1.1.1.1 r2.1.1.1) fun r3 => bif decide (r3.1.2.1.1 = 0) then (Option.bind (U155.f k (a1, a2, a3, a4, a5, a6, a7, ()) r3.1.1.1) fun r4 => some (((r4.1.1.1, r4.1.1.2.1, r4.1.1.2.2.1, r4.1.1.2.2.2.1, r4.1.1.2.2.2.2.1, r4.1.1.2.2.2.2.2.1, false, ()), ()), (a7, ()))) else (some (((a1, a2, a3, a4, a5, a6, true, ()), ()), (a7, ())))) else (Option.bind (bif r2.1.2.1.1 then (bif decide (r2.1.1.1 = 0) then (Option.bind (U156.f k a1 [1, 2, 9, 10, 11, 12, 13]) fun r5 => some r5.1.1.1) else (some false)) else (some false)) fun r6 => bif r6 then (Option.bind (U157.f k (a1, a2, a3, a4, a5, a6, a7, ()) a3) fun r7 => some (((r7.1.1.1, r7.1.1.2.1, r7.1.1.2.2.1, r7.1.1.2.2.2.1, r7.1.1.2.2.2.2.1, r7.1.1.2.2.2.2.2.1, false, ()), ()), (a7, ()))) else (Option.bind (bif r1.1.2.1.1 then (bif decide (r1.1.1.1 = 0) then (Option.bind (U156.f k a1 [1, 9, 10]) fun r8 => some r8.1.1.1) else (some false)) else (some false)) fun r9 => bif r9 then (Option.bind (U157.f k (a1, a2, a3, a4, a5, a6, a7, ()) a4) fun r10 => some (((r10.1.1.1, r10.1.1.2.1, r10.1.1.2.2.1, r10.1.1.2.2.2.1, r10.1.1.2.2.2.2.1, r10.1.1.2.2.2.2.2.1, false, ()), ()), (a7, ()))) else (Option.bind (bif r2.1.2.1.1 then (bif decide (r2.1.1.1 = 1) then (Option.bind (U156.f k a1 [3, 4]) fun r11 => some r11.1.1.1) else (some false)) else (some false)) fun r12 => bif r12 then (Option.bind (U157.f k (a1, a2, a3, a4, a5, a6, a7, ()) a3) fun r13 => some (((r13.1.1.1, r13.1.1.2.1, r13.1.1.2.2.1, r13.1.1.2.2.2.1, r13.1.1.2.2.2.2.1, r13.1.1.2.2.2.2.2.1, false, ()), ()), (a7, ()))) else (Option.bind (bif r1.1.2.1.1 then (bif decide (r1.1.1.1 = 1) then (some (decide (a1 = 3))) else (some false)) else (some false)) fun r14 => bif r14 then (Option.bind (U157.f k (a1, a2, a3, a4, a5, a6, a7, ()) a4) fun r15 => some (((r15.1.1.1, r15.1.1.2.1, r15.1.1.2.2.1, r15.1.1.2.2.2.1, r15.1.1.2.2.2.2.1, r15.1.1.2.2.2.2.2.1, false, ()), ()), (a7, ()))) else (Option.bind (bif r1.1.2.1.1 then (bif decide (r1.1.1.1 = 0) then (Option.bind (U156.f k a1 [3, 8]) fun r16 => some r16.1.1.1) else (bif r2.1.2.1.1 then (bif decide (r2.1.1.1 = 0) then (Option.bind (U156.f k a1 [3, 8]) fun r17 => some r17.1.1.1) else (some false)) else (some false))) else (bif r2.1.2.1.1 then (bif decide (r2.1.1.1 = 0) then (Option.bind (U156.f k a1 [3, 8]) fun r18 => some r18.1.1.1) else (some false)) else (some false))) fun r19 => bif r19 then (Option.bind (U155.f k (a1, a2, a3, a4, a5, a6, a7, ()) 0) fun r20 => some (((r20.1.1.1, r20.1.1.2.1, r20.1.1.2.2.1, r20.1.1.2.2.2.1, r20.1.1.2.2.2.2.1, r20.1.1.2.2.2.2.2.1, false, ()), ()), (a7, ()))) else (bif !decide (a3 = a4) then (some (((a1, a2, a3, a4, a5, a6, true, ()), ()), (a7, ()))) else (Option.bind (U156.f k a1 [2, 10, 15, 16, 17]) fun r21 => bif r21.1.1.1 then (Option.bind (U155.f k (a1, a2, a3, a4, a5, a6, a7, ()) 0) fun r22 => some (((r22.1.1.1, r22.1.1.2.1, r22.1.1.2.2.1, r22.1.1.2.2.2.1, r22.1.1.2.2.2.2.1, r22.1.1.2.2.2.2.2.1, false, ()), ()), (a7, ()))) else (bif decide (a1 = 14) then (Option.bind (U155.f k (a1, a2, a3, a4, a5, a6, a7, ()) 1) fun r23 => some (((r23.1.1.1, r23.1.1.2.1, r23.1.1.2.2.1, r23.1.1.2.2.2.1, r23.1.1.2.2.2.2.1, r23.1.1.2.2.2.2.2.1, false, ()), ()), (a7, ()))) else (Option.bind (U156.f k a1 [8, 9]) fun r24 => bif r24.1.1.1 then (Option.bind (U157.f k (a1, a2, a3, a4, a5, a6, a7, ()) a3) fun r25 => some (((r25.1.1.1, r25.1.1.2.1, r25.1.1.2.2.1, r25.1.1.2.2.2.1, r25.1.1.2.2.2.2.1, r25.1.1.2.2.2.2.2.1, false, ()), ()), (a7, ()))) else (some (((a1, a2, a3, a4, a5, a6, true, ()), ()), (a7, ()))))))))))))) else (Option.bind (bif r2.1.2.1.1 then (bif decide (r2.1.1.1 = 0) then (Option.bind (U156.f k a1 [1, 2, 9, 10, 11, 12, 13]) fun r26 => some r26.1.1.1) else (some false)) else (some false)) fun r27 => bif r27 then (Option.bind (U157.f k (a1, a2, a3, a4, a5, a6, a7, ()) a3) fun r28 => some (((r28.1.1.1, r28.1.1.2.1, r28.1.1.2.2.1, r28.1.1.2.2.2.1, r28.1.1.2.2.2.2.1, r28.1.1.2.2.2.2.2.1, false, ()), ()), (a7, ()))) else (Option.bind (bif r1.1.2.1.1 then (bif decide (r1.1.1.1 = 0) then (Option.bind (U156.f k a1 [1, 9, 10]) fun r29 => some r29.1.1.1) else (some false)) else (some false)) fun r30 => bif r30 then (Option.bind (U157.f k (a1, a2, a3, a4, a5, a6, a7, ()) a4) fun r31 => some (((r31.1.1.1, r31.1.1.2.1, r31.1.1.2.2.1, r31.1.1.2.2.2.1, r31.1.1.2.2.2.2.1, r31.1.1.2.2.2.2.2.1, false, ()), ()), (a7, ()))) else (Option.bind (bif r2.1.2.1.1 then (bif decide (r2.1.1.1 = 1) then (Option.bind (U156.f k a1 [3, 4]) fun r32 => some r32.1.1.1) else (some false)) else (some false)) fun r33 => bif r33 then (Option.bind (U157.f k (a1, a2, a3, a4, a5, a6, a7, ()) a3) fun r34 => some (((r34.1.1.1, r34.1.1.2.1, r34.1.1.2.2.1, r34.1.1.2.2.2.1, r34.1.1.2.2.2.2.1, r34.1.1.2.2.2.2.2.1, false, ()), ()), (a7, ()))) else (Option.bind (bif r1.1.2.1.1 then (bif decide (r1.1.1.1 = 1) then (some (decide (a1 = 3))) else (some false)) else (some false)) fun r35 => bif r35 then (Option.bind (U157.f k (a1, a2, a3, a4, a5, a6, a7, ()) a4) fun r36 => some (((r36.1.1.1, r36.1.1.2.1, r36.1.1.2.2.1, r36.1.1.2.2.2.1, r36.1.1.2.2.2.2.1, r36.1.1.2.2.2.2.2.1, false, ()), ()), (a7, ()))) else (Option.bind (bif r1.1.2.1.1 then (bif decide (r1.1.1.1 = 0) then (Option.bind (U156.f k a1 [3, 8]) fun r37 => some r37.1.1.1) else (bif r2.1.2.1.1 then (bif decide (r2.1.1.1 = 0) then (Option.bind (U156.f k a1 [3, 8]) fun r38 => some r38.1.1.1) else (some false)) else (some false))) else (bif r2.1.2.1.1 then (bif decide (r2.1.1.1 = 0) then (Option.bind (U156.f k a1 [3, 8]) fun r39 => some r39.1.1.1) else (some false)) else (some false))) fun r40 => bif r40 then (Option.bind (U155.f k (a1, a2, a3, a4, a5, a6, a7, ()) 0) fun r41 => some (((r41.1.1.1, r41.1.1.2.1, r41.1.1.2.2.1, r41.1.1.2.2.2.1, r41.1.1.2.2.2.2.1, r41.1.1.2.2.2.2.2.1, false, ()), ()), (a7, ()))) else (bif !decide (a3 = a4) then (some (((a1, a2, a3, a4, a5, a6, true, ()), ()), (a7, ()))) else (Option.bind (U156.f k a1 [2, 10, 15, 16, 17]) fun r42 => bif r42.1.1.1 then (Option.bind (U155.f k (a1, a2, a3, a4, a5, a6, a7, ()) 0) fun r43 => some (((r43.1.1.1, r43.1.1.2.1, r43.1.1.2.2.1, r43.1.1.2.2.2.1, r43.1.1.2.2.2.2.1, r43.1.1.2.2.2.2.2.1, false, ()), ()), (a7, ()))) else (bif decide (a1 = 14) then (Option.bind (U155.f k (a1, a2, a3, a4, a5, a6, a7, ()) 1) fun r44 => some (((r44.1.1.1, r44.1.1.2.1, r44.1.1.2.2.1, r44.1.1.2.2.2.1, r44.1.1.2.2.2.2.1, r44.1.1.2.2.2.2.2.1, false, ()), ()), (a7, ()))) else (Option.bind (U156.f k a1 [8, 9]) fun r45 => bif r45.1.1.1 then (Option.bind (U157.f k (a1, a2, a3, a4, a5, a6, a7, ()) a3) fun r46 => some (((r46.1.1.1, r46.1.1.2.1, r46.1.1.2.2.1, r46.1.1.2.2.2.1, r46.1.1.2.2.2.2.1, r46.1.1.2.2.2.2.2.1, false, ()), ()), (a7, ()))) else (some (((a1, a2, a3, a4, a5, a6, true, ()), ()), (a7, ()))))))))))))
abbrev S : ShapeParts := ⟨[⟨true, [.lst (.int .i64), .int .i64, .lst tBlock]⟩, ⟨true, [.int .i64, .int .i64, .int .i64, .int .i64, .int .i64, .int .i64, .own 0]⟩], [(0, .crow (.int .i64))], false, [⟨true, [.int .i64, .int .i64, .int .i64, .int .i64, .int .i64, .int .i64, .ownq 0]⟩], [(0, .crow (.int .i64))], [0]⟩
def s (k : Nat) : FS := S.fs fun x => f k x.1.1 x.1.2.1.1 x.1.2.1.2.1 x.1.2.1.2.2.1 x.1.2.1.2.2.2.1 x.1.2.1.2.2.2.2.1 x.1.2.1.2.2.2.2.2.1 x.2.1
def E (k : Nat) : Ents := [(⟨29, []⟩, U147.s k), (⟨70, []⟩, U154.s k), (⟨35, []⟩, U155.s k), (⟨71, []⟩, U156.s k), (⟨36, []⟩, U157.s k), (⟨29, [999999]⟩, U147.s k)]
def L : List (LS R) := []
def c : Code := Tryz.f31.body.getD .skip
theorem eq (k : Nat) (x) : (s k).pf x = execF tab (E k) Tryz.f31 c (s k) L x := by kernel_rfl
theorem sound : ∀ k, Sound Tryz.prog 31 (s k) := snd S (fun k => (s k).pf) E (fun k => (EntsOK.cons (U147.sound k) (EntsOK.cons (U154.sound k) (EntsOK.cons (U155.sound k) (EntsOK.cons (U156.sound k) (EntsOK.cons (U157.sound k) (EntsOK.cons (U147.sound k) EntsOK.nil))))))) (fun k => L) (fun k => trivial) eq
end U158
namespace U159
abbrev R := (((Int × Unit) × (Bool × Unit) × Unit) × Unit)
def f (k : Nat) (a0 : Int) (a1 : Int) (a2 : Int) (a3 : Int) : Option R := Option.bind (U92.f k a1 a3) fun r1 => bif !r1.1.1.1 then (some (((0, ()), (false, ()), ()), ())) else (Option.bind (U70.f k a2) fun r2 => bif !r2.1.1.1 then (some (((0, ()), (false, ()), ()), ())) else (bif decide (a0 = 18) then (bif decide (a1 < a2) then (some (((a3, ()), (true, ()), ()), ())) else (bif decide (a0 = 19) then (bif decide (a1 < a2) then (Option.bind (U149.f k a1 a3) fun r3 => Option.bind (U153.f k a2 r3.1.1.1) fun r4 => some (((r4.1.1.1, ()), (true, ()), ()), ())) else (bif decide (a0 = 20) then (bif decide (a2 < a1) then (Option.bind (U153.f k a2 a3) fun r5 => some (((r5.1.1.1, ()), (true, ()), ()), ())) else (some (((0, ()), (false, ()), ()), ()))) else (some (((0, ()), (false, ()), ()), ())))) else (bif decide (a0 = 20) then (bif decide (a2 < a1) then (Option.bind (U153.f k a2 a3) fun r6 => some (((r6.1.1.1, ()), (true, ()), ()), ())) else (some (((0, ()), (false, ()), ()), ()))) else (some (((0, ()), (false, ()), ()), ()))))) else (bif decide (a0 = 19) then (bif decide (a1 < a2) then (Option.bind (U149.f k a1 a3) fun r7 => Option.bind (U153.f k a2 r7.1.1.1) fun r8 => some (((r8.1.1.1, ()), (true, ()), ()), ())) else (bif decide (a0 = 20) then (bif decide (a2 < a1) then (Option.bind (U153.f k a2 a3) fun r9 => some (((r9.1.1.1, ()), (true, ()), ()), ())) else (some (((0, ()), (false, ()), ()), ()))) else (some (((0, ()), (false, ()), ()), ())))) else (bif decide (a0 = 20) then (bif decide (a2 < a1) then (Option.bind (U153.f k a2 a3) fun r10 => some (((r10.1.1.1, ()), (true, ()), ()), ())) else (some (((0, ()), (false, ()), ()), ()))) else (some (((0, ()), (false, ()), ()), ()))))))
abbrev S : ShapeParts := ⟨[⟨false, [.int .i64]⟩, ⟨false, [.int .i64]⟩, ⟨false, [.int .i64]⟩, ⟨false, [.int .i64]⟩], [], true, [⟨false, [.int .i64]⟩, ⟨false, [.bool]⟩], [], []⟩
def s (k : Nat) : FS := S.fs fun x => f k x.1.1.1 x.1.2.1.1 x.1.2.2.1.1 x.1.2.2.2.1.1
def E (k : Nat) : Ents := [(⟨37, []⟩, U92.s k), (⟨72, []⟩, U70.s k), (⟨74, []⟩, U149.s k), (⟨73, []⟩, U153.s k)]
def L : List (LS R) := []
def c : Code := Tryz.f33.body.getD .skip
theorem eq (k : Nat) (x) : (s k).pf x = execF tab (E k) Tryz.f33 c (s k) L x := by kernel_rfl
theorem sound : ∀ k, Sound Tryz.prog 33 (s k) := snd S (fun k => (s k).pf) E (fun k => (EntsOK.cons (U92.sound k) (EntsOK.cons (U70.sound k) (EntsOK.cons (U149.sound k) (EntsOK.cons (U153.sound k) EntsOK.nil))))) (fun k => L) (fun k => trivial) eq
end U159
namespace U160
abbrev R := (((Int × Int × Int × Int × Int × Int × Bool × Unit) × Unit) × ((List Int) × Unit))
def f (k : Nat) (a0 : tFuncD) (a1 : Int) (a2 : Int) (a3 : Int) (a4 : Int) (a5 : Int) (a6 : Int) (a7 : List Int) : Option R := Option.bind (U147.f k a0 a3) fun r1 => Option.bind (U81.f k a1) fun r2 => bif r2.1.1.1 then (Option.bind (U158.f k a0 a1 a2 a3 a4 a5 a6 a7) fun r3 => bif r3.1.1.2.2.2.2.2.2.1 then (some (((r3.1.1.1, r3.1.1.2.1, r3.1.1.2.2.1, r3.1.1.2.2.2.1, r3.1.1.2.2.2.2.1, r3.1.1.2.2.2.2.2.1, true, ()), ()), (a7, ()))) else (some (((r3.1.1.1, r3.1.1.2.1, r3.1.1.2.2.1, r3.1.1.2.2.2.1, r3.1.1.2.2.2.2.1, r3.1.1.2.2.2.2.2.1, false, ()), ()), (a7, ())))) else (Option.bind (Option.bind (U82.f k a1) fun r4 => bif r4.1.1.1 then (some r1.1.2.1.1) else (some false)) fun r5 => bif r5 then (Option.bind (U119.f k a0 a3) fun r6 => Option.bind (U159.f k a1 r6.1.1.1 a2 r1.1.1.1) fun r7 => bif r7.1.2.1.1 then (Option.bind (U155.f k (a1, a2, a3, a4, a5, a6, a7, ()) r7.1.1.1) fun r8 => some (((r8.1.1.1, r8.1.1.2.1, r8.1.1.2.2.1, r8.1.1.2.2.2.1, r8.1.1.2.2.2.2.1, r8.1.1.2.2.2.2.2.1, false, ()), ()), (a7, ()))) else (some (((a1, a2, a3, a4, a5, a6, true, ()), ()), (a7, ())))) else (Option.bind (bif decide (a1 = 22) then (bif r1.1.2.1.1 then (bif decide (r1.1.1.1 = 1) then (some true) else (some (decide (a4 = a5)))) else (some (decide (a4 = a5)))) else (some false)) fun r9 => bif r9 then (Option.bind (U157.f k (a1, a2, a3, a4, a5, a6, a7, ()) a4) fun r10 => some (((r10.1.1.1, r10.1.1.2.1, r10.1.1.2.2.1, r10.1.1.2.2.2.1, r10.1.1.2.2.2.2.1, r10.1.1.2.2.2.2.2.1, false, ()), ()), (a7, ()))) else (Option.bind (bif decide (a1 = 22) then (some r1.1.2.1.1) else (some false)) fun r11 => bif r11 then (Option.bind (U157.f k (a1, a2, a3, a4, a5, a6, a7, ()) a5) fun r12 => some (((r12.1.1.1, r12.1.1.2.1, r12.1.1.2.2.1, r12.1.1.2.2.2.1, r12.1.1.2.2.2.2.1, r12.1.1.2.2.2.2.2.1, false, ()), ()), (a7, ()))) else (Option.bind (bif decide (a1 = 27) then (bif r1.1.2.1.1 then (Option.bind (U92.f k a2 r1.1.1.1) fun r13 => some r13.1.1.1) else (some false)) else (some false)) fun r14 => bif r14 then (Option.bind (U155.f k (a1, a2, a3, a4, a5, a6, a7, ()) r1.1.1.1) fun r15 => some (((r15.1.1.1, r15.1.1.2.1, r15.1.1.2.2.1, r15.1.1.2.2.2.1, r15.1.1.2.2.2.2.1, r15.1.1.2.2.2.2.2.1, false, ()), ()), (a7, ()))) else (some (((a1, a2, a3, a4, a5, a6, true, ()), ()), (a7, ())))))))
abbrev S : ShapeParts := ⟨[⟨true, [.lst (.int .i64), .int .i64, .lst tBlock]⟩, ⟨true, [.int .i64, .int .i64, .int .i64, .int .i64, .int .i64, .int .i64, .own 0]⟩], [(0, .crow (.int .i64))], false, [⟨true, [.int .i64, .int .i64, .int .i64, .int .i64, .int .i64, .int .i64, .ownq 0]⟩], [(0, .crow (.int .i64))], [0]⟩
def s (k : Nat) : FS := S.fs fun x => f k x.1.1 x.1.2.1.1 x.1.2.1.2.1 x.1.2.1.2.2.1 x.1.2.1.2.2.2.1 x.1.2.1.2.2.2.2.1 x.1.2.1.2.2.2.2.2.1 x.2.1
def E (k : Nat) : Ents := [(⟨29, []⟩, U147.s k), (⟨30, []⟩, U81.s k), (⟨31, []⟩, U158.s k), (⟨32, []⟩, U82.s k), (⟨34, []⟩, U119.s k), (⟨33, []⟩, U159.s k), (⟨35, []⟩, U155.s k), (⟨36, []⟩, U157.s k), (⟨37, []⟩, U92.s k), (⟨29, [999999]⟩, U147.s k)]
def L : List (LS R) := []
def c : Code := Tryz.f17.body.getD .skip
theorem eq (k : Nat) (x) : (s k).pf x = execF tab (E k) Tryz.f17 c (s k) L x := by kernel_rfl
theorem sound : ∀ k, Sound Tryz.prog 17 (s k) := snd S (fun k => (s k).pf) E (fun k => (EntsOK.cons (U147.sound k) (EntsOK.cons (U81.sound k) (EntsOK.cons (U158.sound k) (EntsOK.cons (U82.sound k) (EntsOK.cons (U119.sound k) (EntsOK.cons (U159.sound k) (EntsOK.cons (U155.sound k) (EntsOK.cons (U157.sound k) (EntsOK.cons (U92.sound k) (EntsOK.cons (U147.sound k) EntsOK.nil))))))))))) (fun k => L) (fun k => trivial) eq
end U160
namespace U161
abbrev R := (((Unit × Int × Unit × Unit) × Unit) × ((List Int) × (List tBlockD) × Unit))
abbrev T0 : Type := Int → Int → (List Int) → (List tBlockD) → Int → Int → (List Int) → (List tBlockD) → Option R
abbrev T1 : Type := Int → Int → Int → Int → (List Int) → (List tBlockD) → Nat → Int → Int → Int → Int → (List tPhiD) → (List tInstD) → Int → Int → (List Int) → (List tBlockD) → Int → Int → Int → Int → Option R
def l0_ (k : Nat) (l0 : T0) (l1 : T1) (a0 : Int) (a1 : Int) (a2 : List Int) (a3 : List tBlockD) (a4 : Int) (a5 : Int) (a6 : List Int) (a7 : List tBlockD) : Option R := bif decide (a1 < a0) then (bif (decide (0 ≤ a1)) && (decide (a1 < ((List.length a3 : Nat) : Int))) then (bif (decide (0 ≤ a1)) && (decide (a1 < ((List.length a3 : Nat) : Int))) then (bif decide (Int.toNat a1 = Int.toNat a1) then (l1 a0 a1 ((List.length ((List.getD a3 (Int.toNat a1) tBlockZ).2.1) : Nat) : Int) 0 a2 a3 (Int.toNat a1) ((List.getD a3 (Int.toNat a1) tBlockZ).2.2.1) ((List.getD a3 (Int.toNat a1) tBlockZ).2.2.2.1) ((List.getD a3 (Int.toNat a1) tBlockZ).2.2.2.2.1) ((List.getD a3 (Int.toNat a1) tBlockZ).2.2.2.2.2.1) ((List.getD a3 (Int.toNat a1) tBlockZ).1) ((List.getD a3 (Int.toNat a1) tBlockZ).2.1) a4 a5 a6 a7 ((List.getD a3 (Int.toNat a1) tBlockZ).2.2.1) ((List.getD a3 (Int.toNat a1) tBlockZ).2.2.2.1) ((List.getD a3 (Int.toNat a1) tBlockZ).2.2.2.2.1) ((List.getD a3 (Int.toNat a1) tBlockZ).2.2.2.2.2.1)) else none) else none) else none) else (some ((((), a4, (), ()), ()), (a2, a3, ())))
def l1_ (k : Nat) (l0 : T0) (l1 : T1) (a0 : Int) (a1 : Int) (a2 : Int) (a3 : Int) (a4 : List Int) (a5 : List tBlockD) (a6 : Nat) (a7 : Int) (a8 : Int) (a9 : Int) (a10 : Int) (a11 : List tPhiD) (a12 : List tInstD) (a13 : Int) (a14 : Int) (a15 : List Int) (a16 : List tBlockD) (a17 : Int) (a18 : Int) (a19 : Int) (a20 : Int) : Option R := bif decide (a3 < a2) then (bif (decide (0 ≤ a3)) && (decide (a3 < ((List.length a12 : Nat) : Int))) then (bif (decide (0 ≤ a3)) && (decide (a3 < ((List.length a12 : Nat) : Int))) then (bif decide (Int.toNat a3 = Int.toNat a3) then (Option.bind (U160.f k (a4, a13, List.set a5 a6 (a11, List.set a12 (Int.toNat a3) (List.getD a12 (Int.toNat a3) tInstZ), a7, a8, a9, a10, ()), ()) ((List.getD a12 (Int.toNat a3) tInstZ).1) ((List.getD a12 (Int.toNat a3) tInstZ).2.1) ((List.getD a12 (Int.toNat a3) tInstZ).2.2.1) ((List.getD a12 (Int.toNat a3) tInstZ).2.2.2.1) ((List.getD a12 (Int.toNat a3) tInstZ).2.2.2.2.1) ((List.getD a12 (Int.toNat a3) tInstZ).2.2.2.2.2.1) ((List.getD a12 (Int.toNat a3) tInstZ).2.2.2.2.2.2.1)) fun r1 => bif r1.1.1.2.2.2.2.2.2.1 then (bif (decide (0 ≤ a3)) && (decide (a3 < ((List.length a12 : Nat) : Int))) then (bif decide (Int.toNat a3 = Int.toNat a3) then (l1 a0 a1 a2 (IntKind.wrap .i64 (a3 + 1)) a4 a5 a6 a7 a8 a9 a10 a11 (List.set a12 (Int.toNat a3) (r1.1.1.1, r1.1.1.2.1, r1.1.1.2.2.1, r1.1.1.2.2.2.1, r1.1.1.2.2.2.2.1, r1.1.1.2.2.2.2.2.1, (List.getD a12 (Int.toNat a3) tInstZ).2.2.2.2.2.2.1, ())) a13 a14 a15 a16 a17 a18 a19 a20) else none) else none) else (bif (decide (0 ≤ a3)) && (decide (a3 < ((List.length a12 : Nat) : Int))) then (bif decide (Int.toNat a3 = Int.toNat a3) then (l1 a0 a1 a2 (IntKind.wrap .i64 (a3 + 1)) a4 a5 a6 a7 a8 a9 a10 a11 (List.set a12 (Int.toNat a3) (r1.1.1.1, r1.1.1.2.1, r1.1.1.2.2.1, r1.1.1.2.2.2.1, r1.1.1.2.2.2.2.1, r1.1.1.2.2.2.2.2.1, ([] : List Int), ())) a13 a14 a15 a16 a17 a18 a19 a20) else none) else none)) else none) else none) else none) else (l0 a0 (IntKind.wrap .i64 (a1 + 1)) a4 (List.set a5 a6 (a11, a12, a7, a8, a9, a10, ())) a13 a14 a15 a16)
def all : Nat → (T0) × (T1) × Unit
 | 0 => (fun _ _ _ _ _ _ _ _ => none, fun _ _ _ _ _ _ _ _ _ _ _ _ _ _ _ _ _ _ _ _ _ => none, ())
 | k + 1 => (l0_ k (all k).1 (all k).2.1, l1_ k (all k).1 (all k).2.1, ())
def l0 (k : Nat) : T0 := (all k).1
def l1 (k : Nat) : T1 := (all k).2.1
def f (k : Nat) (a0 : Int) (a1 : List Int) (a2 : List tBlockD) : Option R := l0 k ((List.length a2 : Nat) : Int) 0 a1 a2 a0 0 ([] : List Int) ([] : List tBlockD)
abbrev S : ShapeParts := ⟨[⟨true, [.own 0, .int .i64, .own 1]⟩], [(0, .row true (.int .i64)), (1, .row true tBlock)], false, [⟨true, [.own 0, .int .i64, .own 1]⟩], [(0, .row true (.int .i64)), (1, .row true tBlock)], [0, 1]⟩
def s (k : Nat) : FS := S.fs fun x => f k x.1.1.2.1 x.2.1 x.2.2.1
def E (k : Nat) : Ents := [(⟨17, []⟩, U160.s k), (⟨17, [999998, 3, 1, 1, 10, 2000000]⟩, U160.s k), (⟨17, [999998, 6, 1, 100003, 17, 2000100]⟩, U160.s k), (⟨17, [999998, 8, 2, 100003]⟩, U160.s k), (⟨17, [999998, 9, 2, 1]⟩, U160.s k)]
def L0 (l : T0) : LS R := ⟨[0, 1], [(1, ⟨false, [.ptr 100002 0]⟩), (2, ⟨false, [.ptr 100003 0]⟩), (8, ⟨false, [.own 1]⟩), (9, ⟨false, [.int .i64]⟩), (10, ⟨false, [.int .i64]⟩)], [(0, .row true (.int .i64)), (1, .row true tBlock), (100002, .box [.own 0, .int .i64, .own 1]), (100003, .box [.own 100004, .int .i64, .own 100005]), (100004, .row true (.int .i64)), (100005, .row true tBlock)], fun x => l x.1.2.2.2.1.1 x.1.2.2.2.2.1.1 x.2.1 x.2.2.1 x.2.2.2.1.2.1 x.2.2.2.2.1.2.1 x.2.2.2.2.2.1 x.2.2.2.2.2.2.1⟩
def L1 (l : T1) : LS R := ⟨[0, 1], [(1, ⟨false, [.ptr 100004 0]⟩), (2, ⟨false, [.ptr 100005 0]⟩), (4, ⟨false, [.ptr 100008 0]⟩), (8, ⟨false, [.own 1]⟩), (9, ⟨false, [.int .i64]⟩), (10, ⟨false, [.int .i64]⟩), (15, ⟨false, [.own 100003]⟩), (16, ⟨false, [.int .i64]⟩), (17, ⟨false, [.int .i64]⟩)], [(0, .row true (.int .i64)), (1, .orow tBlock [.own 100002, .own 100003, .int .i64, .int .i64, .int .i64, .int .i64]), (100002, .row true tPhi), (100003, .row true tInst), (100004, .box [.own 0, .int .i64, .own 1]), (100005, .box [.own 100006, .int .i64, .own 100007]), (100006, .row true (.int .i64)), (100007, .row true tBlock), (100008, .box [.own 100002, .own 100003, .int .i64, .int .i64, .int .i64, .int .i64])], fun x => l x.1.2.2.2.2.1.1 x.1.2.2.2.2.2.1.1 x.1.2.2.2.2.2.2.2.1.1 x.1.2.2.2.2.2.2.2.2.1.1 x.2.1 x.2.2.1.1.1 x.2.2.1.1.2 x.2.2.1.2.2.2.1 x.2.2.1.2.2.2.2.1 x.2.2.1.2.2.2.2.2.1 x.2.2.1.2.2.2.2.2.2.1 x.2.2.2.1 x.2.2.2.2.1 x.2.2.2.2.2.1.2.1 x.2.2.2.2.2.2.1.2.1 x.2.2.2.2.2.2.2.1 x.2.2.2.2.2.2.2.2.1 x.2.2.2.2.2.2.2.2.2.1.2.2.1 x.2.2.2.2.2.2.2.2.2.1.2.2.2.1 x.2.2.2.2.2.2.2.2.2.1.2.2.2.2.1 x.2.2.2.2.2.2.2.2.2.1.2.2.2.2.2.1⟩
def L (l0 : T0) (l1 : T1) : List (LS R) := [L0 l0, L1 l1]
def c : Code := Tryz.f16.body.getD .skip
theorem eq (k : Nat) (x) : (s k).pf x = execF tab (E k) Tryz.f16 c (s k) (L (l0 k) (l1 k)) x := by kernel_rfl
theorem r0 (l0 : T0) (l1 : T1) (k : Nat) (x) : (L0 (l0_ k l0 l1)).l x = roundOf tab (E k) (L l0 l1) c (fin tab Tryz.f16 (s k)) 0 (L0 l0) x := by kernel_rfl
theorem r1 (l0 : T0) (l1 : T1) (k : Nat) (x) : (L1 (l1_ k l0 l1)).l x = roundOf tab (E k) (L l0 l1) c (fin tab Tryz.f16 (s k)) 1 (L1 l1) x := by kernel_rfl
theorem sound : ∀ k, Sound Tryz.prog 16 (s k) := snd S (fun k => (s k).pf) E (fun k => (EntsOK.cons (U160.sound k) (EntsOK.cons (U160.sound k) (EntsOK.cons (U160.sound k) (EntsOK.cons (U160.sound k) (EntsOK.cons (U160.sound k) EntsOK.nil)))))) (fun k => L (l0 k) (l1 k)) (fun k => ⟨⟨(L0 (l0 (k + 1))).l, rfl, fun x => r0 (l0 k) (l1 k) k x⟩, ⟨(L1 (l1 (k + 1))).l, rfl, fun x => r1 (l0 k) (l1 k) k x⟩, trivial⟩) eq
end U161
namespace U162
abbrev R := (((Unit × Int × Unit × Unit) × (Bool × Unit) × Unit) × ((List Int) × (List tBlockD) × Unit))
def f (k : Nat) (a0 : Int) (a1 : List Int) (a2 : List tBlockD) : Option R := Option.bind (U161.f k a0 a1 a2) fun r1 => some ((((), r1.1.1.2.1, (), ()), (true, ()), ()), (r1.2.1, r1.2.2.1, ()))
abbrev S : ShapeParts := ⟨[⟨true, [.own 0, .int .i64, .own 1]⟩, ⟨false, [.ptr 2 0]⟩], [(0, .row true (.int .i64)), (1, .row true tBlock), (2, .cbox [.fn 16 []])], true, [⟨true, [.own 0, .int .i64, .own 1]⟩, ⟨false, [.bool]⟩], [(0, .row true (.int .i64)), (1, .row true tBlock)], [0, 1]⟩
def s (k : Nat) : FS := S.fs fun x => f k x.1.1.2.1 x.2.1 x.2.2.1
def E (k : Nat) : Ents := [(⟨16, []⟩, U161.s k)]
def L : List (LS R) := []
def c : Code := Tryz.f28.body.getD .skip
theorem eq (k : Nat) (x) : (s k).pf x = execF tab (E k) Tryz.f28 c (s k) L x := by kernel_rfl
theorem sound : ∀ k, Sound Tryz.prog 28 (s k) := snd S (fun k => (s k).pf) E (fun k => (EntsOK.cons (U161.sound k) EntsOK.nil)) (fun k => L) (fun k => trivial) eq
end U162
namespace U163
abbrev R := (((Unit × Unit) × (Bool × Unit) × Unit) × ((List tFuncD) × Unit))
abbrev T0 : Type := (List tFuncD) → Int → Int → (List tFuncD) → (List tFuncD) → Option R
def l0_ (k : Nat) (l0 : T0) (a0 : List tFuncD) (a1 : Int) (a2 : Int) (a3 : List tFuncD) (a4 : List tFuncD) : Option R := bif decide (a2 < a1) then (bif (decide (0 ≤ a2)) && (decide (a2 < ((List.length a0 : Nat) : Int))) then (Option.bind (U146.f k (List.getD a0 (Int.toNat a2) tFuncZ)) fun r1 => Option.bind (U162.f k r1.1.1.2.1 r1.2.1 r1.2.2.1) fun r2 => bif !r2.1.2.1.1 then (some ((((), ()), (false, ()), ()), (([] : List tFuncD), ()))) else (bif decide ((List.length a4 + List.length [((r2.2.1, r2.1.1.2.1, r2.2.2.1, ()) : tFuncD)]) * 56 ≤ 140737488355328) then (l0 a0 a1 (IntKind.wrap .i64 (a2 + 1)) a3 (a4 ++ [((r2.2.1, r2.1.1.2.1, r2.2.2.1, ()) : tFuncD)])) else none)) else none) else (some ((((), ()), (true, ()), ()), (a4, ())))
def all : Nat → (T0) × Unit
 | 0 => (fun _ _ _ _ _ => none, ())
 | k + 1 => (l0_ k (all k).1, ())
def l0 (k : Nat) : T0 := (all k).1
def f (k : Nat) (a0 : tModuleD) : Option R := Option.bind (U143.f k (a0.1, ())) fun r1 => bif !r1.1.1.1 then (some ((((), ()), (false, ()), ()), (([] : List tFuncD), ()))) else (l0 k a0.1 ((List.length a0.1 : Nat) : Int) 0 ([] : List tFuncD) ([] : List tFuncD))
abbrev S : ShapeParts := ⟨[⟨true, [.lst tFunc]⟩, ⟨false, [.fn 28 [(0, 0)]]⟩], [(0, .cbox [.fn 16 []])], true, [⟨true, [.own 100]⟩, ⟨false, [.bool]⟩], [(100, .row true tFunc)], []⟩
def s (k : Nat) : FS := S.fs fun x => f k x.1.1
def E (k : Nat) : Ents := [(⟨66, []⟩, U143.s k), (⟨67, []⟩, U146.s k), (⟨28, []⟩, U162.s k)]
def L0 (l : T0) : LS R := ⟨[], [(1, ⟨false, [.fn 28 [(0, 0)]]⟩), (4, ⟨false, [.ptr 100001 0]⟩), (6, ⟨false, [.ptr 100003 0]⟩), (17, ⟨false, [.lst tFunc]⟩), (18, ⟨false, [.int .i64]⟩), (19, ⟨false, [.int .i64]⟩)], [(0, .cbox [.fn 16 []]), (100001, .box [.own 100002]), (100002, .row true tFunc), (100003, .box [.own 100004]), (100004, .row true tFunc)], fun x => l x.1.2.2.2.1.1 x.1.2.2.2.2.1.1 x.1.2.2.2.2.2.1.1 x.2.2.2.1 x.2.2.2.2.2.1⟩
def L (l0 : T0) : List (LS R) := [L0 l0]
def c : Code := Tryz.f27.body.getD .skip
theorem eq (k : Nat) (x) : (s k).pf x = execF tab (E k) Tryz.f27 c (s k) (L (l0 k)) x := by kernel_rfl
theorem r0 (l0 : T0) (k : Nat) (x) : (L0 (l0_ k l0)).l x = roundOf tab (E k) (L l0) c (fin tab Tryz.f27 (s k)) 0 (L0 l0) x := by kernel_rfl
theorem sound : ∀ k, Sound Tryz.prog 27 (s k) := snd S (fun k => (s k).pf) E (fun k => (EntsOK.cons (U143.sound k) (EntsOK.cons (U146.sound k) (EntsOK.cons (U162.sound k) EntsOK.nil)))) (fun k => L (l0 k)) (fun k => ⟨⟨(L0 (l0 (k + 1))).l, rfl, fun x => r0 (l0 k) k x⟩, trivial⟩) eq
end U163
namespace U164
abbrev R := (((Unit × Unit) × (Bool × Unit) × Unit) × ((List tFuncD) × Unit))
def f (k : Nat) (a0 : tModuleD) : Option R := Option.bind (U163.f k (a0.1, ())) fun r1 => some ((((), ()), (r1.1.2.1.1, ()), ()), (r1.2.1, ()))
abbrev S : ShapeParts := ⟨[⟨true, [.lst tFunc]⟩, ⟨false, [.fn 16 []]⟩], [], true, [⟨true, [.own 100]⟩, ⟨false, [.bool]⟩], [(100, .row true tFunc)], []⟩
def s (k : Nat) : FS := S.fs fun x => f k x.1.1
def E (k : Nat) : Ents := [(⟨27, [28]⟩, U163.s k)]
def L : List (LS R) := []
def c : Code := Tryz.f15.body.getD .skip
theorem eq (k : Nat) (x) : (s k).pf x = execF tab (E k) Tryz.f15 c (s k) L x := by kernel_rfl
theorem sound : ∀ k, Sound Tryz.prog 15 (s k) := snd S (fun k => (s k).pf) E (fun k => (EntsOK.cons (U163.sound k) EntsOK.nil)) (fun k => L) (fun k => trivial) eq
end U164
namespace U165
abbrev R := (((Unit × Unit) × (Bool × Unit) × Unit) × ((List tFuncD) × Unit))
def f (k : Nat) (a0 : tModuleD) : Option R := Option.bind (U164.f k (a0.1, ())) fun r1 => some ((((), ()), (r1.1.2.1.1, ()), ()), (r1.2.1, ()))
abbrev S : ShapeParts := ⟨[⟨true, [.lst tFunc]⟩], [], true, [⟨true, [.own 100]⟩, ⟨false, [.bool]⟩], [(100, .row true tFunc)], []⟩
def s (k : Nat) : FS := S.fs fun x => f k x.1.1
def E (k : Nat) : Ents := [(⟨15, [16]⟩, U164.s k)]
def L : List (LS R) := []
def c : Code := Tryz.f7.body.getD .skip
theorem eq (k : Nat) (x) : (s k).pf x = execF tab (E k) Tryz.f7 c (s k) L x := by kernel_rfl
theorem sound : ∀ k, Sound Tryz.prog 7 (s k) := snd S (fun k => (s k).pf) E (fun k => (EntsOK.cons (U164.sound k) EntsOK.nil)) (fun k => L) (fun k => trivial) eq
end U165
namespace U166
abbrev R := (((Bool × Unit) × Unit) × Unit)
abbrev T0 : Type := (List Int) → (List Int) → Int → Option R
def l0_ (k : Nat) (l0 : T0) (a0 : List Int) (a1 : List Int) (a2 : Int) : Option R := bif decide (a2 < ((List.length a0 : Nat) : Int)) then (bif (decide (0 ≤ a2)) && (decide (a2 < ((List.length a0 : Nat) : Int))) then (bif (decide (0 ≤ a2)) && (decide (a2 < ((List.length a1 : Nat) : Int))) then (bif !decide (List.getD a0 (Int.toNat a2) 0 = List.getD a1 (Int.toNat a2) 0) then (some (((false, ()), ()), ())) else (l0 a0 a1 (IntKind.wrap .i64 (a2 + 1)))) else none) else none) else (some (((true, ()), ()), ()))
def all : Nat → (T0) × Unit
 | 0 => (fun _ _ _ => none, ())
 | k + 1 => (l0_ k (all k).1, ())
def l0 (k : Nat) : T0 := (all k).1
def f (k : Nat) (a0 : List Int) (a1 : List Int) : Option R := bif !decide (((List.length a0 : Nat) : Int) = ((List.length a1 : Nat) : Int)) then (some (((false, ()), ()), ())) else (l0 k a0 a1 0)
abbrev S : ShapeParts := ⟨[⟨false, [.lst (.int .i64)]⟩, ⟨false, [.lst (.int .i64)]⟩], [], false, [⟨false, [.bool]⟩], [], []⟩
def s (k : Nat) : FS := S.fs fun x => f k x.1.1.1 x.1.2.1.1
def E (k : Nat) : Ents := []
def L0 (l : T0) : LS R := ⟨[], [(0, ⟨false, [.lst (.int .i64)]⟩), (1, ⟨false, [.lst (.int .i64)]⟩), (5, ⟨false, [.int .i64]⟩)], [], fun x => l x.1.1.1 x.1.2.1.1 x.1.2.2.1.1⟩
def L (l0 : T0) : List (LS R) := [L0 l0]
def c : Code := Tryz.f78.body.getD .skip
theorem eq (k : Nat) (x) : (s k).pf x = execF tab (E k) Tryz.f78 c (s k) (L (l0 k)) x := by kernel_rfl
theorem r0 (l0 : T0) (k : Nat) (x) : (L0 (l0_ k l0)).l x = roundOf tab (E k) (L l0) c (fin tab Tryz.f78 (s k)) 0 (L0 l0) x := by kernel_rfl
theorem sound : ∀ k, Sound Tryz.prog 78 (s k) := snd S (fun k => (s k).pf) E (fun k => EntsOK.nil) (fun k => L (l0 k)) (fun k => ⟨⟨(L0 (l0 (k + 1))).l, rfl, fun x => r0 (l0 k) k x⟩, trivial⟩) eq
end U166
namespace U167
abbrev R := (((Bool × Unit) × Unit) × Unit)
def f (k : Nat) (a0 : tPhiD) (a1 : tPhiD) : Option R := bif !decide (a0.1 = a1.1) then (some (((false, ()), ()), ())) else (Option.bind (U166.f k a0.2.1 a1.2.1) fun r1 => bif !r1.1.1.1 then (some (((false, ()), ()), ())) else (some (((true, ()), ()), ())))
abbrev S : ShapeParts := ⟨[⟨true, [.int .i64, .lst (.int .i64)]⟩, ⟨true, [.int .i64, .lst (.int .i64)]⟩], [], false, [⟨false, [.bool]⟩], [], []⟩
def s (k : Nat) : FS := S.fs fun x => f k x.1.1 x.1.2.1
def E (k : Nat) : Ents := [(⟨78, []⟩, U166.s k)]
def L : List (LS R) := []
def c : Code := Tryz.f147.body.getD .skip
theorem eq (k : Nat) (x) : (s k).pf x = execF tab (E k) Tryz.f147 c (s k) L x := by kernel_rfl
theorem sound : ∀ k, Sound Tryz.prog 147 (s k) := snd S (fun k => (s k).pf) E (fun k => (EntsOK.cons (U166.sound k) EntsOK.nil)) (fun k => L) (fun k => trivial) eq
end U167
namespace U168
abbrev R := (((Bool × Unit) × Unit) × Unit)
abbrev T0 : Type := (List tPhiD) → (List tPhiD) → Int → Option R
def l0_ (k : Nat) (l0 : T0) (a0 : List tPhiD) (a1 : List tPhiD) (a2 : Int) : Option R := bif decide (a2 < ((List.length a0 : Nat) : Int)) then (bif (decide (0 ≤ a2)) && (decide (a2 < ((List.length a0 : Nat) : Int))) then (bif (decide (0 ≤ a2)) && (decide (a2 < ((List.length a1 : Nat) : Int))) then (Option.bind (U167.f k (List.getD a0 (Int.toNat a2) tPhiZ) (List.getD a1 (Int.toNat a2) tPhiZ)) fun r1 => bif !r1.1.1.1 then (some (((false, ()), ()), ())) else (l0 a0 a1 (IntKind.wrap .i64 (a2 + 1)))) else none) else none) else (some (((true, ()), ()), ()))
def all : Nat → (T0) × Unit
 | 0 => (fun _ _ _ => none, ())
 | k + 1 => (l0_ k (all k).1, ())
def l0 (k : Nat) : T0 := (all k).1
def f (k : Nat) (a0 : List tPhiD) (a1 : List tPhiD) : Option R := bif !decide (((List.length a0 : Nat) : Int) = ((List.length a1 : Nat) : Int)) then (some (((false, ()), ()), ())) else (l0 k a0 a1 0)
abbrev S : ShapeParts := ⟨[⟨false, [.lst tPhi]⟩, ⟨false, [.lst tPhi]⟩], [], false, [⟨false, [.bool]⟩], [], []⟩
def s (k : Nat) : FS := S.fs fun x => f k x.1.1.1 x.1.2.1.1
def E (k : Nat) : Ents := [(⟨147, []⟩, U167.s k)]
def L0 (l : T0) : LS R := ⟨[], [(0, ⟨false, [.lst tPhi]⟩), (1, ⟨false, [.lst tPhi]⟩), (5, ⟨false, [.int .i64]⟩)], [], fun x => l x.1.1.1 x.1.2.1.1 x.1.2.2.1.1⟩
def L (l0 : T0) : List (LS R) := [L0 l0]
def c : Code := Tryz.f129.body.getD .skip
theorem eq (k : Nat) (x) : (s k).pf x = execF tab (E k) Tryz.f129 c (s k) (L (l0 k)) x := by kernel_rfl
theorem r0 (l0 : T0) (k : Nat) (x) : (L0 (l0_ k l0)).l x = roundOf tab (E k) (L l0) c (fin tab Tryz.f129 (s k)) 0 (L0 l0) x := by kernel_rfl
theorem sound : ∀ k, Sound Tryz.prog 129 (s k) := snd S (fun k => (s k).pf) E (fun k => (EntsOK.cons (U167.sound k) EntsOK.nil)) (fun k => L (l0 k)) (fun k => ⟨⟨(L0 (l0 (k + 1))).l, rfl, fun x => r0 (l0 k) k x⟩, trivial⟩) eq
end U168
namespace U169
abbrev R := (((Bool × Unit) × Unit) × Unit)
def f (k : Nat) (a0 : tInstD) (a1 : tInstD) : Option R := bif !decide (a0.1 = a1.1) then (some (((false, ()), ()), ())) else (bif !decide (a0.2.1 = a1.2.1) then (some (((false, ()), ()), ())) else (bif !decide (a0.2.2.1 = a1.2.2.1) then (some (((false, ()), ()), ())) else (bif !decide (a0.2.2.2.1 = a1.2.2.2.1) then (some (((false, ()), ()), ())) else (bif !decide (a0.2.2.2.2.1 = a1.2.2.2.2.1) then (some (((false, ()), ()), ())) else (bif !decide (a0.2.2.2.2.2.1 = a1.2.2.2.2.2.1) then (some (((false, ()), ()), ())) else (Option.bind (U166.f k a0.2.2.2.2.2.2.1 a1.2.2.2.2.2.2.1) fun r1 => bif !r1.1.1.1 then (some (((false, ()), ()), ())) else (some (((true, ()), ()), ()))))))))
abbrev S : ShapeParts := ⟨[⟨true, [.int .i64, .int .i64, .int .i64, .int .i64, .int .i64, .int .i64, .lst (.int .i64)]⟩, ⟨true, [.int .i64, .int .i64, .int .i64, .int .i64, .int .i64, .int .i64, .lst (.int .i64)]⟩], [], false, [⟨false, [.bool]⟩], [], []⟩
def s (k : Nat) : FS := S.fs fun x => f k x.1.1 x.1.2.1
def E (k : Nat) : Ents := [(⟨78, []⟩, U166.s k)]
def L : List (LS R) := []
def c : Code := Tryz.f148.body.getD .skip
theorem eq (k : Nat) (x) : (s k).pf x = execF tab (E k) Tryz.f148 c (s k) L x := by kernel_rfl
theorem sound : ∀ k, Sound Tryz.prog 148 (s k) := snd S (fun k => (s k).pf) E (fun k => (EntsOK.cons (U166.sound k) EntsOK.nil)) (fun k => L) (fun k => trivial) eq
end U169
namespace U170
abbrev R := (((Bool × Unit) × Unit) × Unit)
abbrev T0 : Type := (List tInstD) → (List tInstD) → Int → Option R
def l0_ (k : Nat) (l0 : T0) (a0 : List tInstD) (a1 : List tInstD) (a2 : Int) : Option R := bif decide (a2 < ((List.length a0 : Nat) : Int)) then (bif (decide (0 ≤ a2)) && (decide (a2 < ((List.length a0 : Nat) : Int))) then (bif (decide (0 ≤ a2)) && (decide (a2 < ((List.length a1 : Nat) : Int))) then (Option.bind (U169.f k (List.getD a0 (Int.toNat a2) tInstZ) (List.getD a1 (Int.toNat a2) tInstZ)) fun r1 => bif !r1.1.1.1 then (some (((false, ()), ()), ())) else (l0 a0 a1 (IntKind.wrap .i64 (a2 + 1)))) else none) else none) else (some (((true, ()), ()), ()))
def all : Nat → (T0) × Unit
 | 0 => (fun _ _ _ => none, ())
 | k + 1 => (l0_ k (all k).1, ())
def l0 (k : Nat) : T0 := (all k).1
def f (k : Nat) (a0 : List tInstD) (a1 : List tInstD) : Option R := bif !decide (((List.length a0 : Nat) : Int) = ((List.length a1 : Nat) : Int)) then (some (((false, ()), ()), ())) else (l0 k a0 a1 0)
abbrev S : ShapeParts := ⟨[⟨false, [.lst tInst]⟩, ⟨false, [.lst tInst]⟩], [], false, [⟨false, [.bool]⟩], [], []⟩
def s (k : Nat) : FS := S.fs fun x => f k x.1.1.1 x.1.2.1.1
def E (k : Nat) : Ents := [(⟨148, []⟩, U169.s k)]
def L0 (l : T0) : LS R := ⟨[], [(0, ⟨false, [.lst tInst]⟩), (1, ⟨false, [.lst tInst]⟩), (5, ⟨false, [.int .i64]⟩)], [], fun x => l x.1.1.1 x.1.2.1.1 x.1.2.2.1.1⟩
def L (l0 : T0) : List (LS R) := [L0 l0]
def c : Code := Tryz.f130.body.getD .skip
theorem eq (k : Nat) (x) : (s k).pf x = execF tab (E k) Tryz.f130 c (s k) (L (l0 k)) x := by kernel_rfl
theorem r0 (l0 : T0) (k : Nat) (x) : (L0 (l0_ k l0)).l x = roundOf tab (E k) (L l0) c (fin tab Tryz.f130 (s k)) 0 (L0 l0) x := by kernel_rfl
theorem sound : ∀ k, Sound Tryz.prog 130 (s k) := snd S (fun k => (s k).pf) E (fun k => (EntsOK.cons (U169.sound k) EntsOK.nil)) (fun k => L (l0 k)) (fun k => ⟨⟨(L0 (l0 (k + 1))).l, rfl, fun x => r0 (l0 k) k x⟩, trivial⟩) eq
end U170
namespace U171
abbrev R := (((Bool × Unit) × Unit) × Unit)
def f (k : Nat) (a0 : tTermD) (a1 : tTermD) : Option R := bif !decide (a0.1 = a1.1) then (some (((false, ()), ()), ())) else (bif !decide (a0.2.1 = a1.2.1) then (some (((false, ()), ()), ())) else (bif !decide (a0.2.2.1 = a1.2.2.1) then (some (((false, ()), ()), ())) else (bif !decide (a0.2.2.2.1 = a1.2.2.2.1) then (some (((false, ()), ()), ())) else (some (((true, ()), ()), ())))))
abbrev S : ShapeParts := ⟨[⟨true, [.int .i64, .int .i64, .int .i64, .int .i64]⟩, ⟨true, [.int .i64, .int .i64, .int .i64, .int .i64]⟩], [], false, [⟨false, [.bool]⟩], [], []⟩
def s (k : Nat) : FS := S.fs fun x => f k x.1.1 x.1.2.1
def E (k : Nat) : Ents := []
def L : List (LS R) := []
def c : Code := Tryz.f131.body.getD .skip
theorem eq (k : Nat) (x) : (s k).pf x = execF tab (E k) Tryz.f131 c (s k) L x := by kernel_rfl
theorem sound : ∀ k, Sound Tryz.prog 131 (s k) := snd S (fun k => (s k).pf) E (fun k => EntsOK.nil) (fun k => L) (fun k => trivial) eq
end U171
namespace U172
abbrev R := (((Bool × Unit) × Unit) × Unit)
def f (k : Nat) (a0 : tBlockD) (a1 : tBlockD) : Option R := Option.bind (U168.f k a0.1 a1.1) fun r1 => bif !r1.1.1.1 then (some (((false, ()), ()), ())) else (Option.bind (U170.f k a0.2.1 a1.2.1) fun r2 => bif !r2.1.1.1 then (some (((false, ()), ()), ())) else (Option.bind (U171.f k a0.2.2 a1.2.2) fun r3 => bif !r3.1.1.1 then (some (((false, ()), ()), ())) else (some (((true, ()), ()), ()))))
abbrev S : ShapeParts := ⟨[⟨true, [.lst tPhi, .lst tInst, .int .i64, .int .i64, .int .i64, .int .i64]⟩, ⟨true, [.lst tPhi, .lst tInst, .int .i64, .int .i64, .int .i64, .int .i64]⟩], [], false, [⟨false, [.bool]⟩], [], []⟩
def s (k : Nat) : FS := S.fs fun x => f k x.1.1 x.1.2.1
def E (k : Nat) : Ents := [(⟨129, []⟩, U168.s k), (⟨130, []⟩, U170.s k), (⟨131, []⟩, U171.s k)]
def L : List (LS R) := []
def c : Code := Tryz.f112.body.getD .skip
theorem eq (k : Nat) (x) : (s k).pf x = execF tab (E k) Tryz.f112 c (s k) L x := by kernel_rfl
theorem sound : ∀ k, Sound Tryz.prog 112 (s k) := snd S (fun k => (s k).pf) E (fun k => (EntsOK.cons (U168.sound k) (EntsOK.cons (U170.sound k) (EntsOK.cons (U171.sound k) EntsOK.nil)))) (fun k => L) (fun k => trivial) eq
end U172
namespace U173
abbrev R := (((Bool × Unit) × Unit) × Unit)
abbrev T0 : Type := (List tBlockD) → (List tBlockD) → Int → Option R
def l0_ (k : Nat) (l0 : T0) (a0 : List tBlockD) (a1 : List tBlockD) (a2 : Int) : Option R := bif decide (a2 < ((List.length a0 : Nat) : Int)) then (bif (decide (0 ≤ a2)) && (decide (a2 < ((List.length a0 : Nat) : Int))) then (bif (decide (0 ≤ a2)) && (decide (a2 < ((List.length a1 : Nat) : Int))) then (Option.bind (U172.f k (List.getD a0 (Int.toNat a2) tBlockZ) (List.getD a1 (Int.toNat a2) tBlockZ)) fun r1 => bif !r1.1.1.1 then (some (((false, ()), ()), ())) else (l0 a0 a1 (IntKind.wrap .i64 (a2 + 1)))) else none) else none) else (some (((true, ()), ()), ()))
def all : Nat → (T0) × Unit
 | 0 => (fun _ _ _ => none, ())
 | k + 1 => (l0_ k (all k).1, ())
def l0 (k : Nat) : T0 := (all k).1
def f (k : Nat) (a0 : List tBlockD) (a1 : List tBlockD) : Option R := bif !decide (((List.length a0 : Nat) : Int) = ((List.length a1 : Nat) : Int)) then (some (((false, ()), ()), ())) else (l0 k a0 a1 0)
abbrev S : ShapeParts := ⟨[⟨false, [.lst tBlock]⟩, ⟨false, [.lst tBlock]⟩], [], false, [⟨false, [.bool]⟩], [], []⟩
def s (k : Nat) : FS := S.fs fun x => f k x.1.1.1 x.1.2.1.1
def E (k : Nat) : Ents := [(⟨112, []⟩, U172.s k)]
def L0 (l : T0) : LS R := ⟨[], [(0, ⟨false, [.lst tBlock]⟩), (1, ⟨false, [.lst tBlock]⟩), (5, ⟨false, [.int .i64]⟩)], [], fun x => l x.1.1.1 x.1.2.1.1 x.1.2.2.1.1⟩
def L (l0 : T0) : List (LS R) := [L0 l0]
def c : Code := Tryz.f79.body.getD .skip
theorem eq (k : Nat) (x) : (s k).pf x = execF tab (E k) Tryz.f79 c (s k) (L (l0 k)) x := by kernel_rfl
theorem r0 (l0 : T0) (k : Nat) (x) : (L0 (l0_ k l0)).l x = roundOf tab (E k) (L l0) c (fin tab Tryz.f79 (s k)) 0 (L0 l0) x := by kernel_rfl
theorem sound : ∀ k, Sound Tryz.prog 79 (s k) := snd S (fun k => (s k).pf) E (fun k => (EntsOK.cons (U172.sound k) EntsOK.nil)) (fun k => L (l0 k)) (fun k => ⟨⟨(L0 (l0 (k + 1))).l, rfl, fun x => r0 (l0 k) k x⟩, trivial⟩) eq
end U173
namespace U174
abbrev R := (((Bool × Unit) × Unit) × Unit)
def f (k : Nat) (a0 : tFuncD) (a1 : tFuncD) : Option R := Option.bind (U166.f k a0.1 a1.1) fun r1 => bif !r1.1.1.1 then (some (((false, ()), ()), ())) else (bif !decide (a0.2.1 = a1.2.1) then (some (((false, ()), ()), ())) else (Option.bind (U173.f k a0.2.2.1 a1.2.2.1) fun r2 => bif !r2.1.1.1 then (some (((false, ()), ()), ())) else (some (((true, ()), ()), ()))))
abbrev S : ShapeParts := ⟨[⟨true, [.lst (.int .i64), .int .i64, .lst tBlock]⟩, ⟨true, [.lst (.int .i64), .int .i64, .lst tBlock]⟩], [], false, [⟨false, [.bool]⟩], [], []⟩
def s (k : Nat) : FS := S.fs fun x => f k x.1.1 x.1.2.1
def E (k : Nat) : Ents := [(⟨78, []⟩, U166.s k), (⟨79, []⟩, U173.s k)]
def L : List (LS R) := []
def c : Code := Tryz.f38.body.getD .skip
theorem eq (k : Nat) (x) : (s k).pf x = execF tab (E k) Tryz.f38 c (s k) L x := by kernel_rfl
theorem sound : ∀ k, Sound Tryz.prog 38 (s k) := snd S (fun k => (s k).pf) E (fun k => (EntsOK.cons (U166.sound k) (EntsOK.cons (U173.sound k) EntsOK.nil))) (fun k => L) (fun k => trivial) eq
end U174
namespace U175
abbrev R := (((Bool × Unit) × Unit) × Unit)
abbrev T0 : Type := (List tFuncD) → (List tFuncD) → Int → Option R
def l0_ (k : Nat) (l0 : T0) (a0 : List tFuncD) (a1 : List tFuncD) (a2 : Int) : Option R := bif decide (a2 < ((List.length a0 : Nat) : Int)) then (bif (decide (0 ≤ a2)) && (decide (a2 < ((List.length a0 : Nat) : Int))) then (bif (decide (0 ≤ a2)) && (decide (a2 < ((List.length a1 : Nat) : Int))) then (Option.bind (U174.f k (List.getD a0 (Int.toNat a2) tFuncZ) (List.getD a1 (Int.toNat a2) tFuncZ)) fun r1 => bif !r1.1.1.1 then (some (((false, ()), ()), ())) else (l0 a0 a1 (IntKind.wrap .i64 (a2 + 1)))) else none) else none) else (some (((true, ()), ()), ()))
def all : Nat → (T0) × Unit
 | 0 => (fun _ _ _ => none, ())
 | k + 1 => (l0_ k (all k).1, ())
def l0 (k : Nat) : T0 := (all k).1
def f (k : Nat) (a0 : List tFuncD) (a1 : List tFuncD) : Option R := bif !decide (((List.length a0 : Nat) : Int) = ((List.length a1 : Nat) : Int)) then (some (((false, ()), ()), ())) else (l0 k a0 a1 0)
abbrev S : ShapeParts := ⟨[⟨false, [.lst tFunc]⟩, ⟨false, [.lst tFunc]⟩], [], false, [⟨false, [.bool]⟩], [], []⟩
def s (k : Nat) : FS := S.fs fun x => f k x.1.1.1 x.1.2.1.1
def E (k : Nat) : Ents := [(⟨38, []⟩, U174.s k)]
def L0 (l : T0) : LS R := ⟨[], [(0, ⟨false, [.lst tFunc]⟩), (1, ⟨false, [.lst tFunc]⟩), (5, ⟨false, [.int .i64]⟩)], [], fun x => l x.1.1.1 x.1.2.1.1 x.1.2.2.1.1⟩
def L (l0 : T0) : List (LS R) := [L0 l0]
def c : Code := Tryz.f18.body.getD .skip
theorem eq (k : Nat) (x) : (s k).pf x = execF tab (E k) Tryz.f18 c (s k) (L (l0 k)) x := by kernel_rfl
theorem r0 (l0 : T0) (k : Nat) (x) : (L0 (l0_ k l0)).l x = roundOf tab (E k) (L l0) c (fin tab Tryz.f18 (s k)) 0 (L0 l0) x := by kernel_rfl
theorem sound : ∀ k, Sound Tryz.prog 18 (s k) := snd S (fun k => (s k).pf) E (fun k => (EntsOK.cons (U174.sound k) EntsOK.nil)) (fun k => L (l0 k)) (fun k => ⟨⟨(L0 (l0 (k + 1))).l, rfl, fun x => r0 (l0 k) k x⟩, trivial⟩) eq
end U175
namespace U176
abbrev R := (((Bool × Unit) × Unit) × Unit)
def f (k : Nat) (a0 : tModuleD) (a1 : tModuleD) : Option R := Option.bind (U175.f k a0.1 a1.1) fun r1 => bif !r1.1.1.1 then (some (((false, ()), ()), ())) else (some (((true, ()), ()), ()))
abbrev S : ShapeParts := ⟨[⟨true, [.lst tFunc]⟩, ⟨true, [.lst tFunc]⟩], [], false, [⟨false, [.bool]⟩], [], []⟩
def s (k : Nat) : FS := S.fs fun x => f k x.1.1 x.1.2.1
def E (k : Nat) : Ents := [(⟨18, []⟩, U175.s k)]
def L : List (LS R) := []
def c : Code := Tryz.f8.body.getD .skip
theorem eq (k : Nat) (x) : (s k).pf x = execF tab (E k) Tryz.f8 c (s k) L x := by kernel_rfl
theorem sound : ∀ k, Sound Tryz.prog 8 (s k) := snd S (fun k => (s k).pf) E (fun k => (EntsOK.cons (U175.sound k) EntsOK.nil)) (fun k => L) (fun k => trivial) eq
end U176
namespace U177
abbrev R := (((Int × Unit) × Unit) × ((List Int) × Unit))
abbrev T0 : Type := Int → Int → (List Int) → Option R
def l0_ (k : Nat) (l0 : T0) (a0 : Int) (a1 : Int) (a2 : List Int) : Option R := bif decide (a1 < ((List.length a2 : Nat) : Int)) then (bif (decide (0 ≤ a1)) && (decide (a1 < ((List.length a2 : Nat) : Int))) then (l0 (IntKind.wrap .i64 (a0 + 1)) (IntKind.wrap .i64 (a1 + 1)) (List.set a2 (Int.toNat a1) a0)) else none) else (some (((a0, ()), ()), (a2, ())))
def all : Nat → (T0) × Unit
 | 0 => (fun _ _ _ => none, ())
 | k + 1 => (l0_ k (all k).1, ())
def l0 (k : Nat) : T0 := (all k).1
def f (k : Nat) (a0 : Int) (a1 : List Int) : Option R := l0 k a0 0 a1
abbrev S : ShapeParts := ⟨[⟨false, [.own 0]⟩, ⟨false, [.int .i64]⟩], [(0, .row true (.int .i64))], false, [⟨false, [.int .i64]⟩], [(0, .row true (.int .i64))], [0]⟩
def s (k : Nat) : FS := S.fs fun x => f k x.1.2.1.1 x.2.1
def E (k : Nat) : Ents := []
def L0 (l : T0) : LS R := ⟨[0], [(0, ⟨false, [.own 0]⟩), (1, ⟨false, [.int .i64]⟩), (5, ⟨false, [.int .i64]⟩)], [(0, .row true (.int .i64))], fun x => l x.1.2.1.1 x.1.2.2.1.1 x.2.1⟩
def L (l0 : T0) : List (LS R) := [L0 l0]
def c : Code := Tryz.f39.body.getD .skip
theorem eq (k : Nat) (x) : (s k).pf x = execF tab (E k) Tryz.f39 c (s k) (L (l0 k)) x := by kernel_rfl
theorem r0 (l0 : T0) (k : Nat) (x) : (L0 (l0_ k l0)).l x = roundOf tab (E k) (L l0) c (fin tab Tryz.f39 (s k)) 0 (L0 l0) x := by kernel_rfl
theorem sound : ∀ k, Sound Tryz.prog 39 (s k) := snd S (fun k => (s k).pf) E (fun k => EntsOK.nil) (fun k => L (l0 k)) (fun k => ⟨⟨(L0 (l0 (k + 1))).l, rfl, fun x => r0 (l0 k) k x⟩, trivial⟩) eq
end U177
namespace U178
abbrev R := (((Int × Unit) × Unit) × ((List tPhiD) × Unit))
abbrev T0 : Type := Int → Int → (List tPhiD) → Option R
def l0_ (k : Nat) (l0 : T0) (a0 : Int) (a1 : Int) (a2 : List tPhiD) : Option R := bif decide (a1 < ((List.length a2 : Nat) : Int)) then (bif (decide (0 ≤ a1)) && (decide (a1 < ((List.length a2 : Nat) : Int))) then (bif (decide (0 ≤ a1)) && (decide (a1 < ((List.length (updAt tPhiZ a2 (Int.toNat a1) (fun q_ => (a0, q_.2))) : Nat) : Int))) then (Option.bind (U177.f k (IntKind.wrap .i64 (a0 + 1)) ((List.getD (updAt tPhiZ a2 (Int.toNat a1) (fun q_ => (a0, q_.2))) (Int.toNat a1) tPhiZ).2.1)) fun r1 => l0 r1.1.1.1 (IntKind.wrap .i64 (a1 + 1)) (updAt tPhiZ (updAt tPhiZ a2 (Int.toNat a1) (fun q_ => (a0, q_.2))) (Int.toNat a1) (fun q_ => (q_.1, r1.2.1, q_.2.2)))) else none) else none) else (some (((a0, ()), ()), (a2, ())))
def all : Nat → (T0) × Unit
 | 0 => (fun _ _ _ => none, ())
 | k + 1 => (l0_ k (all k).1, ())
def l0 (k : Nat) : T0 := (all k).1
def f (k : Nat) (a0 : Int) (a1 : List tPhiD) : Option R := l0 k a0 0 a1
abbrev S : ShapeParts := ⟨[⟨false, [.own 0]⟩, ⟨false, [.int .i64]⟩], [(0, .row true tPhi)], false, [⟨false, [.int .i64]⟩], [(0, .row true tPhi)], [0]⟩
def s (k : Nat) : FS := S.fs fun x => f k x.1.2.1.1 x.2.1
def E (k : Nat) : Ents := [(⟨39, []⟩, U177.s k)]
def L0 (l : T0) : LS R := ⟨[0], [(0, ⟨false, [.own 0]⟩), (1, ⟨false, [.int .i64]⟩), (5, ⟨false, [.int .i64]⟩)], [(0, .row true tPhi)], fun x => l x.1.2.1.1 x.1.2.2.1.1 x.2.1⟩
def L (l0 : T0) : List (LS R) := [L0 l0]
def c : Code := Tryz.f80.body.getD .skip
theorem eq (k : Nat) (x) : (s k).pf x = execF tab (E k) Tryz.f80 c (s k) (L (l0 k)) x := by kernel_rfl
theorem r0 (l0 : T0) (k : Nat) (x) : (L0 (l0_ k l0)).l x = roundOf tab (E k) (L l0) c (fin tab Tryz.f80 (s k)) 0 (L0 l0) x := by kernel_rfl
theorem sound : ∀ k, Sound Tryz.prog 80 (s k) := snd S (fun k => (s k).pf) E (fun k => (EntsOK.cons (U177.sound k) EntsOK.nil)) (fun k => L (l0 k)) (fun k => ⟨⟨(L0 (l0 (k + 1))).l, rfl, fun x => r0 (l0 k) k x⟩, trivial⟩) eq
end U178
end
end Go.Proofs.YtbkpngmpdnnloaaGreat.V
