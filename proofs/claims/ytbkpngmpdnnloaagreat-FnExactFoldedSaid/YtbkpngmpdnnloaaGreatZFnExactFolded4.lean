/- PROVED HERE: what the functions that the law FnExactFolded reaches do in memory, each as a plain Lean function, and what these tell: part 5 of 7 of the proof of that law; no condition beyond those written out at each theorem. -/
import Derived.Deep.Slices
import Derived.ProofKit
import Derived.Test.YtbkpngmpdnnloaaGreatZFnExactFolded0
import Derived.Test.YtbkpngmpdnnloaaGreatZFnExactFolded2
import Derived.Test.YtbkpngmpdnnloaaGreatZFnExactFolded3
namespace Go.Proofs.YtbkpngmpdnnloaaGreat.V
open Go
set_option linter.unusedVariables false
set_option linter.unusedSimpArgs false
noncomputable section
namespace U179
abbrev R := (((Int × Unit) × Unit) × ((List tInstD) × Unit))
abbrev T0 : Type := Int → Int → (List tInstD) → Option R
def l0_ (k : Nat) (l0 : T0) (a0 : Int) (a1 : Int) (a2 : List tInstD) : Option R := bif decide (a1 < ((List.length a2 : Nat) : Int)) then (bif (decide (0 ≤ a1)) && (decide (a1 < ((List.length a2 : Nat) : Int))) then (bif (decide (0 ≤ a1)) && (decide (a1 < ((List.length (updAt tInstZ a2 (Int.toNat a1) (fun q_ => (a0, q_.2))) : Nat) : Int))) then (bif (decide (0 ≤ a1)) && (decide (a1 < ((List.length (updAt tInstZ (updAt tInstZ a2 (Int.toNat a1) (fun q_ => (a0, q_.2))) (Int.toNat a1) (fun q_ => (q_.1, IntKind.wrap .i64 (a0 + 1), q_.2.2))) : Nat) : Int))) then (bif (decide (0 ≤ a1)) && (decide (a1 < ((List.length (updAt tInstZ (updAt tInstZ (updAt tInstZ a2 (Int.toNat a1) (fun q_ => (a0, q_.2))) (Int.toNat a1) (fun q_ => (q_.1, IntKind.wrap .i64 (a0 + 1), q_.2.2))) (Int.toNat a1) (fun q_ => (q_.1, q_.2.1, IntKind.wrap .i64 ((IntKind.wrap .i64 (a0 + 1)) + 1), q_.2.2.2))) : Nat) : Int))) then (bif (decide (0 ≤ a1)) && (decide (a1 < ((List.length (updAt tInstZ (updAt tInstZ (updAt tInstZ (updAt tInstZ a2 (Int.toNat a1) (fun q_ => (a0, q_.2))) (Int.toNat a1) (fun q_ => (q_.1, IntKind.wrap .i64 (a0 + 1), q_.2.2))) (Int.toNat a1) (fun q_ => (q_.1, q_.2.1, IntKind.wrap .i64 ((IntKind.wrap .i64 (a0 + 1)) + 1), q_.2.2.2))) (Int.toNat a1) (fun q_ => (q_.1, q_.2.1, q_.2.2.1, IntKind.wrap .i64 ((IntKind.wrap .i64 ((IntKind.wrap .i64 (a0 + 1)) + 1)) + 1), q_.2.2.2.2))) : Nat) : Int))) then (bif (decide (0 ≤ a1)) && (decide (a1 < ((List.length (updAt tInstZ (updAt tInstZ (updAt tInstZ (updAt tInstZ (updAt tInstZ a2 (Int.toNat a1) (fun q_ => (a0, q_.2))) (Int.toNat a1) (fun q_ => (q_.1, IntKind.wrap .i64 (a0 + 1), q_.2.2))) (Int.toNat a1) (fun q_ => (q_.1, q_.2.1, IntKind.wrap .i64 ((IntKind.wrap .i64 (a0 + 1)) + 1), q_.2.2.2))) (Int.toNat a1) (fun q_ => (q_.1, q_.2.1, q_.2.2.1, IntKind.wrap .i64 ((IntKind.wrap .i64 ((IntKind.wrap .i64 (a0 + 1)) + 1)) + 1), q_.2.2.2.2))) (Int.toNat a1) (fun q_ => (q_.1, q_.2.1, q_.2.2.1, q_.2.2.2.1, IntKind.wrap .i64 ((IntKind.wrap .i64 ((IntKind.wrap .i64 ((IntKind.wrap .i64 (a0 + 1)) + 1)) + 1)) + 1), q_.2.2.2.2.2))) : Nat) : Int))) then (bif (decide (0 ≤ a1)) && (decide (a1 < ((List.length (updAt tInstZ (updAt tInstZ (updAt tInstZ (updAt tInstZ (updAt tInstZ (updAt tInstZ a2 (Int.toNat a1) (fun q_ => (a0, q_.2))) (Int.toNat a1) (fun q_ => (q_.1, IntKind.wrap .i64 (a0 + 1), q_.2.2))) (Int.toNat a1) (fun q_ => (q_.1, q_.2.1, IntKind.wrap .i64 ((IntKind.wrap .i64 (a0 + 1)) + 1), q_.2.2.2))) (Int.toNat a1) (fun q_ => (q_.1, q_.2.1, q_.2.2.1, IntKind.wrap .i64 ((IntKind.wrap .i64 ((IntKind.wrap .i64 (a0 + 1)) + 1)) + 1), q_.2.2.2.2))) (Int.toNat a1) (fun q_ => (q_.1, q_.2.1, q_.2.2.1, q_.2.2.2.1, IntKind.wrap .i64 ((IntKind.wrap .i64 ((IntKind.wrap .i64 ((IntKind.wrap .i64 (a0 + 1)) + 1)) + 1)) + 1), q_.2.2.2.2.2))) (Int.toNat a1) (fun q_ => (q_.1, q_.2.1, q_.2.2.1, q_.2.2.2.1, q_.2.2.2.2.1, IntKind.wrap .i64 ((IntKind.wrap .i64 ((IntKind.wrap .i64 ((IntKind.wrap .i64 ((IntKind.wrap .i64 (a0 + 1)) + 1)) + 1)) + 1)) + 1), q_.2.2.2.2.2.2))) : Nat) : Int))) then (Option.bind (U177.f k (IntKind.wrap .i64 ((IntKind.wrap .i64 ((IntKind.wrap .i64 ((IntKind.wrap .i64 ((IntKind.wrap .i64 ((IntKind.wrap .i64 (a0 + 1)) + 1)) + 1)) + 1)) + 1)) + 1)) ((List.getD (updAt tInstZ (updAt tInstZ (updAt tInstZ (updAt tInstZ (updAt tInstZ (updAt tInstZ a2 (Int.toNat a1) (fun q_ => (a0, q_.2))) (Int.toNat a1) (fun q_ => (q_.1, IntKind.wrap .i64 (a0 + 1), q_.2.2))) (Int.toNat a1) (fun q_ => (q_.1, q_.2.1, IntKind.wrap .i64 ((IntKind.wrap .i64 (a0 + 1)) + 1), q_.2.2.2))) (Int.toNat a1) (fun q_ => (q_.1, q_.2.1, q_.2.2.1, IntKind.wrap .i64 ((IntKind.wrap .i64 ((IntKind.wrap .i64 (a0 + 1)) + 1)) + 1), q_.2.2.2.2))) (Int.toNat a1) (fun q_ => (q_.1, q_.2.1, q_.2.2.1, q_.2.2.2.1, IntKind.wrap .i64 ((IntKind.wrap .i64 ((IntKind.wrap .i64 ((IntKind.wrap .i64 (a0 + 1)) + 1)) + 1)) + 1), q_.2.2.2.2.2))) (Int.toNat a1) (fun q_ => (q_.1, q_.2.1, q_.2.2.1, q_.2.2.2.1, q_.2.2.2.2.1, IntKind.wrap .i64 ((IntKind.wrap .i64 ((IntKind.wrap .i64 ((IntKind.wrap .i64 ((IntKind.wrap .i64 (a0 + 1)) + 1)) + 1)) + 1)) + 1), q_.2.2.2.2.2.2))) (Int.toNat a1) tInstZ).2.2.2.2.2.2.1)) fun r1 => l0 r1.1.1.1 (IntKind.wrap .i64 (a1 + 1)) (updAt tInstZ (updAt tInstZ (updAt tInstZ (updAt tInstZ (updAt tInstZ (updAt tInstZ (updAt tInstZ a2 (Int.toNat a1) (fun q_ => (a0, q_.2))) (Int.toNat a1) (fun q_ => (q_.1, IntKind.wrap .i64 (a0 + 1), q_.2.2))) (Int.toNat a1) (fun q_ => (q_.1, q_.2.1, IntKind.wrap .i64 ((IntKind.wrap .i64 (a0 + 1)) + 1), q_.2.2.2))) (Int.toNat a1) (fun q_ => (q_.1, q_.2.1, q_.2.2.1, IntKind.wrap .i64 ((IntKind.wrap .i64 ((IntKind.wrap .i64 (a0 + 1)) + 1)) + 1), q_.2.2.2.2))) (Int.toNat a1) (fun q_ => (q_.1, q_.2.1, q_.2.2.1, q_.2.2.2.1, IntKind.wrap .i64 ((IntKind.wrap .i64 ((IntKind.wrap .i64 ((IntKind.wrap .i64 (a0 + 1)) + 1)) + 1)) + 1), q_.2.2.2.2.2))) (Int.toNat a1) (fun q_ => (q_.1, q_.2.1, q_.2.2.1, q_.2.2.2.1, q_.2.2.2.2.1, IntKind.wrap .i64 ((IntKind.wrap .i64 ((IntKind.wrap .i64 ((IntKind.wrap .i64 ((IntKind.wrap .i64 (a0 + 1)) + 1)) + 1)) + 1)) + 1), q_.2.2.2.2.2.2))) (Int.toNat a1) (fun q_ => (q_.1, q_.2.1, q_.2.2.1, q_.2.2.2.1, q_.2.2.2.2.1, q_.2.2.2.2.2.1, r1.2.1, q_.2.2.2.2.2.2.2)))) else none) else none) else none) else none) else none) else none) else none) else (some (((a0, ()), ()), (a2, ())))
def all : Nat → (T0) × Unit
 | 0 => (fun _ _ _ => none, ())
 | k + 1 => (l0_ k (all k).1, ())
def l0 (k : Nat) : T0 := (all k).1
def f (k : Nat) (a0 : Int) (a1 : List tInstD) : Option R := l0 k a0 0 a1
abbrev S : ShapeParts := ⟨[⟨false, [.own 0]⟩, ⟨false, [.int .i64]⟩], [(0, .row true tInst)], false, [⟨false, [.int .i64]⟩], [(0, .row true tInst)], [0]⟩
def s (k : Nat) : FS := S.fs fun x => f k x.1.2.1.1 x.2.1
def E (k : Nat) : Ents := [(⟨39, []⟩, U177.s k)]
def L0 (l : T0) : LS R := ⟨[0], [(0, ⟨false, [.own 0]⟩), (1, ⟨false, [.int .i64]⟩), (5, ⟨false, [.int .i64]⟩)], [(0, .row true tInst)], fun x => l x.1.2.1.1 x.1.2.2.1.1 x.2.1⟩
def L (l0 : T0) : List (LS R) := [L0 l0]
def c : Code := Tryz.f81.body.getD .skip
theorem eq (k : Nat) (x) : (s k).pf x = execF tab (E k) Tryz.f81 c (s k) (L (l0 k)) x := by kernel_rfl
theorem r0 (l0 : T0) (k : Nat) (x) : (L0 (l0_ k l0)).l x = roundOf tab (E k) (L l0) c (fin tab Tryz.f81 (s k)) 0 (L0 l0) x := by kernel_rfl
theorem sound : ∀ k, Sound Tryz.prog 81 (s k) := snd S (fun k => (s k).pf) E (fun k => (EntsOK.cons (U177.sound k) EntsOK.nil)) (fun k => L (l0 k)) (fun k => ⟨⟨(L0 (l0 (k + 1))).l, rfl, fun x => r0 (l0 k) k x⟩, trivial⟩) eq
end U179
namespace U180
abbrev R := (((Int × Unit) × Unit) × ((List tBlockD) × Unit))
abbrev T0 : Type := Int → Int → (List tBlockD) → Option R
def l0_ (k : Nat) (l0 : T0) (a0 : Int) (a1 : Int) (a2 : List tBlockD) : Option R := bif decide (a1 < ((List.length a2 : Nat) : Int)) then (bif (decide (0 ≤ a1)) && (decide (a1 < ((List.length a2 : Nat) : Int))) then (Option.bind (U178.f k a0 ((List.getD a2 (Int.toNat a1) tBlockZ).1)) fun r1 => bif (decide (0 ≤ a1)) && (decide (a1 < ((List.length (updAt tBlockZ a2 (Int.toNat a1) (fun q_ => (r1.2.1, q_.2))) : Nat) : Int))) then (Option.bind (U179.f k r1.1.1.1 ((List.getD (updAt tBlockZ a2 (Int.toNat a1) (fun q_ => (r1.2.1, q_.2))) (Int.toNat a1) tBlockZ).2.1)) fun r2 => bif (decide (0 ≤ a1)) && (decide (a1 < ((List.length (updAt tBlockZ (updAt tBlockZ a2 (Int.toNat a1) (fun q_ => (r1.2.1, q_.2))) (Int.toNat a1) (fun q_ => (q_.1, r2.2.1, q_.2.2))) : Nat) : Int))) then (bif (decide (0 ≤ a1)) && (decide (a1 < ((List.length (updAt tBlockZ (updAt tBlockZ (updAt tBlockZ a2 (Int.toNat a1) (fun q_ => (r1.2.1, q_.2))) (Int.toNat a1) (fun q_ => (q_.1, r2.2.1, q_.2.2))) (Int.toNat a1) (fun q_ => (q_.1, q_.2.1, r2.1.1.1, q_.2.2.2))) : Nat) : Int))) then (bif (decide (0 ≤ a1)) && (decide (a1 < ((List.length (updAt tBlockZ (updAt tBlockZ (updAt tBlockZ (updAt tBlockZ a2 (Int.toNat a1) (fun q_ => (r1.2.1, q_.2))) (Int.toNat a1) (fun q_ => (q_.1, r2.2.1, q_.2.2))) (Int.toNat a1) (fun q_ => (q_.1, q_.2.1, r2.1.1.1, q_.2.2.2))) (Int.toNat a1) (fun q_ => (q_.1, q_.2.1, q_.2.2.1, IntKind.wrap .i64 (r2.1.1.1 + 1), q_.2.2.2.2))) : Nat) : Int))) then (bif (decide (0 ≤ a1)) && (decide (a1 < ((List.length (updAt tBlockZ (updAt tBlockZ (updAt tBlockZ (updAt tBlockZ (updAt tBlockZ a2 (Int.toNat a1) (fun q_ => (r1.2.1, q_.2))) (Int.toNat a1) (fun q_ => (q_.1, r2.2.1, q_.2.2))) (Int.toNat a1) (fun q_ => (q_.1, q_.2.1, r2.1.1.1, q_.2.2.2))) (Int.toNat a1) (fun q_ => (q_.1, q_.2.1, q_.2.2.1, IntKind.wrap .i64 (r2.1.1.1 + 1), q_.2.2.2.2))) (Int.toNat a1) (fun q_ => (q_.1, q_.2.1, q_.2.2.1, q_.2.2.2.1, IntKind.wrap .i64 ((IntKind.wrap .i64 (r2.1.1.1 + 1)) + 1), q_.2.2.2.2.2))) : Nat) : Int))) then (l0 (IntKind.wrap .i64 ((IntKind.wrap .i64 ((IntKind.wrap .i64 ((IntKind.wrap .i64 (r2.1.1.1 + 1)) + 1)) + 1)) + 1)) (IntKind.wrap .i64 (a1 + 1)) (updAt tBlockZ (updAt tBlockZ (updAt tBlockZ (updAt tBlockZ (updAt tBlockZ (updAt tBlockZ a2 (Int.toNat a1) (fun q_ => (r1.2.1, q_.2))) (Int.toNat a1) (fun q_ => (q_.1, r2.2.1, q_.2.2))) (Int.toNat a1) (fun q_ => (q_.1, q_.2.1, r2.1.1.1, q_.2.2.2))) (Int.toNat a1) (fun q_ => (q_.1, q_.2.1, q_.2.2.1, IntKind.wrap .i64 (r2.1.1.1 + 1), q_.2.2.2.2))) (Int.toNat a1) (fun q_ => (q_.1, q_.2.1, q_.2.2.1, q_.2.2.2.1, IntKind.wrap .i64 ((IntKind.wrap .i64 (r2.1.1.1 + 1)) + 1), q_.2.2.2.2.2))) (Int.toNat a1) (fun q_ => (q_.1, q_.2.1, q_.2.2.1, q_.2.2.2.1, q_.2.2.2.2.1, IntKind.wrap .i64 ((IntKind.wrap .i64 ((IntKind.wrap .i64 (r2.1.1.1 + 1)) + 1)) + 1), q_.2.2.2.2.2.2)))) else none) else none) else none) else none) else none) else none) else (some (((a0, ()), ()), (a2, ())))
def all : Nat → (T0) × Unit
 | 0 => (fun _ _ _ => none, ())
 | k + 1 => (l0_ k (all k).1, ())
def l0 (k : Nat) : T0 := (all k).1
def f (k : Nat) (a0 : Int) (a1 : List tBlockD) : Option R := l0 k a0 0 a1
abbrev S : ShapeParts := ⟨[⟨false, [.own 0]⟩, ⟨false, [.int .i64]⟩], [(0, .row true tBlock)], false, [⟨false, [.int .i64]⟩], [(0, .row true tBlock)], [0]⟩
def s (k : Nat) : FS := S.fs fun x => f k x.1.2.1.1 x.2.1
def E (k : Nat) : Ents := [(⟨80, []⟩, U178.s k), (⟨81, []⟩, U179.s k)]
def L0 (l : T0) : LS R := ⟨[0], [(0, ⟨false, [.own 0]⟩), (1, ⟨false, [.int .i64]⟩), (5, ⟨false, [.int .i64]⟩)], [(0, .row true tBlock)], fun x => l x.1.2.1.1 x.1.2.2.1.1 x.2.1⟩
def L (l0 : T0) : List (LS R) := [L0 l0]
def c : Code := Tryz.f40.body.getD .skip
theorem eq (k : Nat) (x) : (s k).pf x = execF tab (E k) Tryz.f40 c (s k) (L (l0 k)) x := by kernel_rfl
theorem r0 (l0 : T0) (k : Nat) (x) : (L0 (l0_ k l0)).l x = roundOf tab (E k) (L l0) c (fin tab Tryz.f40 (s k)) 0 (L0 l0) x := by kernel_rfl
theorem sound : ∀ k, Sound Tryz.prog 40 (s k) := snd S (fun k => (s k).pf) E (fun k => (EntsOK.cons (U178.sound k) (EntsOK.cons (U179.sound k) EntsOK.nil))) (fun k => L (l0 k)) (fun k => ⟨⟨(L0 (l0 (k + 1))).l, rfl, fun x => r0 (l0 k) k x⟩, trivial⟩) eq
end U180
namespace U181
abbrev R := (((Int × Unit) × Unit) × ((List tFuncD) × Unit))
abbrev T0 : Type := Int → Int → (List tFuncD) → Option R
def l0_ (k : Nat) (l0 : T0) (a0 : Int) (a1 : Int) (a2 : List tFuncD) : Option R := bif decide (a1 < ((List.length a2 : Nat) : Int)) then (bif (decide (0 ≤ a1)) && (decide (a1 < ((List.length a2 : Nat) : Int))) then (Option.bind (U177.f k a0 ((List.getD a2 (Int.toNat a1) tFuncZ).1)) fun r1 => bif (decide (0 ≤ a1)) && (decide (a1 < ((List.length (updAt tFuncZ a2 (Int.toNat a1) (fun q_ => (r1.2.1, q_.2))) : Nat) : Int))) then (bif (decide (0 ≤ a1)) && (decide (a1 < ((List.length (updAt tFuncZ (updAt tFuncZ a2 (Int.toNat a1) (fun q_ => (r1.2.1, q_.2))) (Int.toNat a1) (fun q_ => (q_.1, r1.1.1.1, q_.2.2))) : Nat) : Int))) then (Option.bind (U180.f k (IntKind.wrap .i64 (r1.1.1.1 + 1)) ((List.getD (updAt tFuncZ (updAt tFuncZ a2 (Int.toNat a1) (fun q_ => (r1.2.1, q_.2))) (Int.toNat a1) (fun q_ => (q_.1, r1.1.1.1, q_.2.2))) (Int.toNat a1) tFuncZ).2.2.1)) fun r2 => l0 r2.1.1.1 (IntKind.wrap .i64 (a1 + 1)) (updAt tFuncZ (updAt tFuncZ (updAt tFuncZ a2 (Int.toNat a1) (fun q_ => (r1.2.1, q_.2))) (Int.toNat a1) (fun q_ => (q_.1, r1.1.1.1, q_.2.2))) (Int.toNat a1) (fun q_ => (q_.1, q_.2.1, r2.2.1, q_.2.2.2)))) else none) else none) else none) else (some (((a0, ()), ()), (a2, ())))
def all : Nat → (T0) × Unit
 | 0 => (fun _ _ _ => none, ())
 | k + 1 => (l0_ k (all k).1, ())
def l0 (k : Nat) : T0 := (all k).1
def f (k : Nat) (a0 : Int) (a1 : List tFuncD) : Option R := l0 k a0 0 a1
abbrev S : ShapeParts := ⟨[⟨false, [.own 0]⟩, ⟨false, [.int .i64]⟩], [(0, .row true tFunc)], false, [⟨false, [.int .i64]⟩], [(0, .row true tFunc)], [0]⟩
def s (k : Nat) : FS := S.fs fun x => f k x.1.2.1.1 x.2.1
def E (k : Nat) : Ents := [(⟨39, []⟩, U177.s k), (⟨40, []⟩, U180.s k)]
def L0 (l : T0) : LS R := ⟨[0], [(0, ⟨false, [.own 0]⟩), (1, ⟨false, [.int .i64]⟩), (5, ⟨false, [.int .i64]⟩)], [(0, .row true tFunc)], fun x => l x.1.2.1.1 x.1.2.2.1.1 x.2.1⟩
def L (l0 : T0) : List (LS R) := [L0 l0]
def c : Code := Tryz.f19.body.getD .skip
theorem eq (k : Nat) (x) : (s k).pf x = execF tab (E k) Tryz.f19 c (s k) (L (l0 k)) x := by kernel_rfl
theorem r0 (l0 : T0) (k : Nat) (x) : (L0 (l0_ k l0)).l x = roundOf tab (E k) (L l0) c (fin tab Tryz.f19 (s k)) 0 (L0 l0) x := by kernel_rfl
theorem sound : ∀ k, Sound Tryz.prog 19 (s k) := snd S (fun k => (s k).pf) E (fun k => (EntsOK.cons (U177.sound k) (EntsOK.cons (U180.sound k) EntsOK.nil))) (fun k => L (l0 k)) (fun k => ⟨⟨(L0 (l0 (k + 1))).l, rfl, fun x => r0 (l0 k) k x⟩, trivial⟩) eq
end U181
namespace U182
abbrev R := (((Int × Unit) × Unit) × ((List tFuncD) × Unit))
def f (k : Nat) (a0 : Int) (a1 : List tFuncD) : Option R := Option.bind (U181.f k a0 a1) fun r1 => some (((r1.1.1.1, ()), ()), (r1.2.1, ()))
abbrev S : ShapeParts := ⟨[⟨true, [.own 0]⟩, ⟨false, [.int .i64]⟩], [(0, .row true tFunc)], false, [⟨false, [.int .i64]⟩], [(0, .row true tFunc)], [0]⟩
def s (k : Nat) : FS := S.fs fun x => f k x.1.2.1.1 x.2.1
def E (k : Nat) : Ents := [(⟨19, []⟩, U181.s k)]
def L : List (LS R) := []
def c : Code := Tryz.f9.body.getD .skip
theorem eq (k : Nat) (x) : (s k).pf x = execF tab (E k) Tryz.f9 c (s k) L x := by kernel_rfl
theorem sound : ∀ k, Sound Tryz.prog 9 (s k) := snd S (fun k => (s k).pf) E (fun k => (EntsOK.cons (U181.sound k) EntsOK.nil)) (fun k => L) (fun k => trivial) eq
end U182
namespace U183
abbrev R := (((Int × Unit) × Unit) × Unit)
abbrev T0 : Type := (List Int) → Int → Int → Option R
def l0_ (k : Nat) (l0 : T0) (a0 : List Int) (a1 : Int) (a2 : Int) : Option R := bif decide (a2 < ((List.length a0 : Nat) : Int)) then (bif (decide (0 ≤ a2)) && (decide (a2 < ((List.length a0 : Nat) : Int))) then (bif !decide (List.getD a0 (Int.toNat a2) 0 = a1) then (some (((-1, ()), ()), ())) else (l0 a0 (IntKind.wrap .i64 (a1 + 1)) (IntKind.wrap .i64 (a2 + 1)))) else none) else (some (((a1, ()), ()), ()))
def all : Nat → (T0) × Unit
 | 0 => (fun _ _ _ => none, ())
 | k + 1 => (l0_ k (all k).1, ())
def l0 (k : Nat) : T0 := (all k).1
def f (k : Nat) (a0 : List Int) (a1 : Int) : Option R := l0 k a0 a1 0
abbrev S : ShapeParts := ⟨[⟨false, [.lst (.int .i64)]⟩, ⟨false, [.int .i64]⟩], [], false, [⟨false, [.int .i64]⟩], [], []⟩
def s (k : Nat) : FS := S.fs fun x => f k x.1.1.1 x.1.2.1.1
def E (k : Nat) : Ents := []
def L0 (l : T0) : LS R := ⟨[], [(0, ⟨false, [.lst (.int .i64)]⟩), (1, ⟨false, [.int .i64]⟩), (5, ⟨false, [.int .i64]⟩)], [], fun x => l x.1.1.1 x.1.2.1.1 x.1.2.2.1.1⟩
def L (l0 : T0) : List (LS R) := [L0 l0]
def c : Code := Tryz.f41.body.getD .skip
theorem eq (k : Nat) (x) : (s k).pf x = execF tab (E k) Tryz.f41 c (s k) (L (l0 k)) x := by kernel_rfl
theorem r0 (l0 : T0) (k : Nat) (x) : (L0 (l0_ k l0)).l x = roundOf tab (E k) (L l0) c (fin tab Tryz.f41 (s k)) 0 (L0 l0) x := by kernel_rfl
theorem sound : ∀ k, Sound Tryz.prog 41 (s k) := snd S (fun k => (s k).pf) E (fun k => EntsOK.nil) (fun k => L (l0 k)) (fun k => ⟨⟨(L0 (l0 (k + 1))).l, rfl, fun x => r0 (l0 k) k x⟩, trivial⟩) eq
end U183
namespace U184
abbrev R := (((Int × Unit) × Unit) × Unit)
abbrev T0 : Type := (List tPhiD) → Int → Int → Option R
def l0_ (k : Nat) (l0 : T0) (a0 : List tPhiD) (a1 : Int) (a2 : Int) : Option R := bif decide (a2 < ((List.length a0 : Nat) : Int)) then (bif (decide (0 ≤ a2)) && (decide (a2 < ((List.length a0 : Nat) : Int))) then (bif !decide ((List.getD a0 (Int.toNat a2) tPhiZ).1 = a1) then (some (((-1, ()), ()), ())) else (bif (decide (0 ≤ a2)) && (decide (a2 < ((List.length a0 : Nat) : Int))) then (Option.bind (U183.f k ((List.getD a0 (Int.toNat a2) tPhiZ).2.1) (IntKind.wrap .i64 (a1 + 1))) fun r1 => bif decide (r1.1.1.1 < 0) then (some (((-1, ()), ()), ())) else (l0 a0 r1.1.1.1 (IntKind.wrap .i64 (a2 + 1)))) else none)) else none) else (some (((a1, ()), ()), ()))
def all : Nat → (T0) × Unit
 | 0 => (fun _ _ _ => none, ())
 | k + 1 => (l0_ k (all k).1, ())
def l0 (k : Nat) : T0 := (all k).1
def f (k : Nat) (a0 : List tPhiD) (a1 : Int) : Option R := l0 k a0 a1 0
abbrev S : ShapeParts := ⟨[⟨false, [.lst tPhi]⟩, ⟨false, [.int .i64]⟩], [], false, [⟨false, [.int .i64]⟩], [], []⟩
def s (k : Nat) : FS := S.fs fun x => f k x.1.1.1 x.1.2.1.1
def E (k : Nat) : Ents := [(⟨41, []⟩, U183.s k)]
def L0 (l : T0) : LS R := ⟨[], [(0, ⟨false, [.lst tPhi]⟩), (1, ⟨false, [.int .i64]⟩), (5, ⟨false, [.int .i64]⟩)], [], fun x => l x.1.1.1 x.1.2.1.1 x.1.2.2.1.1⟩
def L (l0 : T0) : List (LS R) := [L0 l0]
def c : Code := Tryz.f82.body.getD .skip
theorem eq (k : Nat) (x) : (s k).pf x = execF tab (E k) Tryz.f82 c (s k) (L (l0 k)) x := by kernel_rfl
theorem r0 (l0 : T0) (k : Nat) (x) : (L0 (l0_ k l0)).l x = roundOf tab (E k) (L l0) c (fin tab Tryz.f82 (s k)) 0 (L0 l0) x := by kernel_rfl
theorem sound : ∀ k, Sound Tryz.prog 82 (s k) := snd S (fun k => (s k).pf) E (fun k => (EntsOK.cons (U183.sound k) EntsOK.nil)) (fun k => L (l0 k)) (fun k => ⟨⟨(L0 (l0 (k + 1))).l, rfl, fun x => r0 (l0 k) k x⟩, trivial⟩) eq
end U184
namespace U185
abbrev R := (((Int × Unit) × Unit) × Unit)
abbrev T0 : Type := (List tInstD) → Int → Int → Option R
def l0_ (k : Nat) (l0 : T0) (a0 : List tInstD) (a1 : Int) (a2 : Int) : Option R := bif decide (a2 < ((List.length a0 : Nat) : Int)) then (bif (decide (0 ≤ a2)) && (decide (a2 < ((List.length a0 : Nat) : Int))) then (bif !decide ((List.getD a0 (Int.toNat a2) tInstZ).1 = a1) then (some (((-1, ()), ()), ())) else (bif (decide (0 ≤ a2)) && (decide (a2 < ((List.length a0 : Nat) : Int))) then (bif !decide ((List.getD a0 (Int.toNat a2) tInstZ).2.1 = IntKind.wrap .i64 (a1 + 1)) then (some (((-1, ()), ()), ())) else (bif (decide (0 ≤ a2)) && (decide (a2 < ((List.length a0 : Nat) : Int))) then (bif !decide ((List.getD a0 (Int.toNat a2) tInstZ).2.2.1 = IntKind.wrap .i64 ((IntKind.wrap .i64 (a1 + 1)) + 1)) then (some (((-1, ()), ()), ())) else (bif (decide (0 ≤ a2)) && (decide (a2 < ((List.length a0 : Nat) : Int))) then (bif !decide ((List.getD a0 (Int.toNat a2) tInstZ).2.2.2.1 = IntKind.wrap .i64 ((IntKind.wrap .i64 ((IntKind.wrap .i64 (a1 + 1)) + 1)) + 1)) then (some (((-1, ()), ()), ())) else (bif (decide (0 ≤ a2)) && (decide (a2 < ((List.length a0 : Nat) : Int))) then (bif !decide ((List.getD a0 (Int.toNat a2) tInstZ).2.2.2.2.1 = IntKind.wrap .i64 ((IntKind.wrap .i64 ((IntKind.wrap .i64 ((IntKind.wrap .i64 (a1 + 1)) + 1)) + 1)) + 1)) then (some (((-1, ()), ()), ())) else (bif (decide (0 ≤ a2)) && (decide (a2 < ((List.length a0 : Nat) : Int))) then (bif !decide ((List.getD a0 (Int.toNat a2) tInstZ).2.2.2.2.2.1 = IntKind.wrap .i64 ((IntKind.wrap .i64 ((IntKind.wrap .i64 ((IntKind.wrap .i64 ((IntKind.wrap .i64 (a1 + 1)) + 1)) + 1)) + 1)) + 1)) then (some (((-1, ()), ()), ())) else (bif (decide (0 ≤ a2)) && (decide (a2 < ((List.length a0 : Nat) : Int))) then (Option.bind (U183.f k ((List.getD a0 (Int.toNat a2) tInstZ).2.2.2.2.2.2.1) (IntKind.wrap .i64 ((IntKind.wrap .i64 ((IntKind.wrap .i64 ((IntKind.wrap .i64 ((IntKind.wrap .i64 ((IntKind.wrap .i64 (a1 + 1)) + 1)) + 1)) + 1)) + 1)) + 1))) fun r1 => bif decide (r1.1.1.1 < 0) then (some (((-1, ()), ()), ())) else (l0 a0 r1.1.1.1 (IntKind.wrap .i64 (a2 + 1)))) else none)) else none)) else none)) else none)) else none)) else none)) else none) else (some (((a1, ()), ()), ()))
def all : Nat → (T0) × Unit
 | 0 => (fun _ _ _ => none, ())
 | k + 1 => (l0_ k (all k).1, ())
def l0 (k : Nat) : T0 := (all k).1
def f (k : Nat) (a0 : List tInstD) (a1 : Int) : Option R := l0 k a0 a1 0
abbrev S : ShapeParts := ⟨[⟨false, [.lst tInst]⟩, ⟨false, [.int .i64]⟩], [], false, [⟨false, [.int .i64]⟩], [], []⟩
def s (k : Nat) : FS := S.fs fun x => f k x.1.1.1 x.1.2.1.1
def E (k : Nat) : Ents := [(⟨41, []⟩, U183.s k)]
def L0 (l : T0) : LS R := ⟨[], [(0, ⟨false, [.lst tInst]⟩), (1, ⟨false, [.int .i64]⟩), (5, ⟨false, [.int .i64]⟩)], [], fun x => l x.1.1.1 x.1.2.1.1 x.1.2.2.1.1⟩
def L (l0 : T0) : List (LS R) := [L0 l0]
def c : Code := Tryz.f83.body.getD .skip
theorem eq (k : Nat) (x) : (s k).pf x = execF tab (E k) Tryz.f83 c (s k) (L (l0 k)) x := by kernel_rfl
theorem r0 (l0 : T0) (k : Nat) (x) : (L0 (l0_ k l0)).l x = roundOf tab (E k) (L l0) c (fin tab Tryz.f83 (s k)) 0 (L0 l0) x := by kernel_rfl
theorem sound : ∀ k, Sound Tryz.prog 83 (s k) := snd S (fun k => (s k).pf) E (fun k => (EntsOK.cons (U183.sound k) EntsOK.nil)) (fun k => L (l0 k)) (fun k => ⟨⟨(L0 (l0 (k + 1))).l, rfl, fun x => r0 (l0 k) k x⟩, trivial⟩) eq
end U185
namespace U186
abbrev R := (((Int × Unit) × Unit) × Unit)
abbrev T0 : Type := (List tBlockD) → Int → Int → Option R
def l0_ (k : Nat) (l0 : T0) (a0 : List tBlockD) (a1 : Int) (a2 : Int) : Option R := bif decide (a2 < ((List.length a0 : Nat) : Int)) then (bif (decide (0 ≤ a2)) && (decide (a2 < ((List.length a0 : Nat) : Int))) then (Option.bind (U184.f k ((List.getD a0 (Int.toNat a2) tBlockZ).1) a1) fun r1 => bif decide (r1.1.1.1 < 0) then (some (((-1, ()), ()), ())) else (bif (decide (0 ≤ a2)) && (decide (a2 < ((List.length a0 : Nat) : Int))) then (Option.bind (U185.f k ((List.getD a0 (Int.toNat a2) tBlockZ).2.1) r1.1.1.1) fun r2 => bif decide (r2.1.1.1 < 0) then (some (((-1, ()), ()), ())) else (bif (decide (0 ≤ a2)) && (decide (a2 < ((List.length a0 : Nat) : Int))) then (bif !decide ((List.getD a0 (Int.toNat a2) tBlockZ).2.2.1 = r2.1.1.1) then (some (((-1, ()), ()), ())) else (bif (decide (0 ≤ a2)) && (decide (a2 < ((List.length a0 : Nat) : Int))) then (bif !decide ((List.getD a0 (Int.toNat a2) tBlockZ).2.2.2.1 = IntKind.wrap .i64 (r2.1.1.1 + 1)) then (some (((-1, ()), ()), ())) else (bif (decide (0 ≤ a2)) && (decide (a2 < ((List.length a0 : Nat) : Int))) then (bif !decide ((List.getD a0 (Int.toNat a2) tBlockZ).2.2.2.2.1 = IntKind.wrap .i64 ((IntKind.wrap .i64 (r2.1.1.1 + 1)) + 1)) then (some (((-1, ()), ()), ())) else (bif (decide (0 ≤ a2)) && (decide (a2 < ((List.length a0 : Nat) : Int))) then (bif !decide ((List.getD a0 (Int.toNat a2) tBlockZ).2.2.2.2.2.1 = IntKind.wrap .i64 ((IntKind.wrap .i64 ((IntKind.wrap .i64 (r2.1.1.1 + 1)) + 1)) + 1)) then (some (((-1, ()), ()), ())) else (l0 a0 (IntKind.wrap .i64 ((IntKind.wrap .i64 ((IntKind.wrap .i64 ((IntKind.wrap .i64 (r2.1.1.1 + 1)) + 1)) + 1)) + 1)) (IntKind.wrap .i64 (a2 + 1)))) else none)) else none)) else none)) else none)) else none)) else none) else (some (((a1, ()), ()), ()))
def all : Nat → (T0) × Unit
 | 0 => (fun _ _ _ => none, ())
 | k + 1 => (l0_ k (all k).1, ())
def l0 (k : Nat) : T0 := (all k).1
def f (k : Nat) (a0 : List tBlockD) (a1 : Int) : Option R := l0 k a0 a1 0
abbrev S : ShapeParts := ⟨[⟨false, [.lst tBlock]⟩, ⟨false, [.int .i64]⟩], [], false, [⟨false, [.int .i64]⟩], [], []⟩
def s (k : Nat) : FS := S.fs fun x => f k x.1.1.1 x.1.2.1.1
def E (k : Nat) : Ents := [(⟨82, []⟩, U184.s k), (⟨83, []⟩, U185.s k)]
def L0 (l : T0) : LS R := ⟨[], [(0, ⟨false, [.lst tBlock]⟩), (1, ⟨false, [.int .i64]⟩), (5, ⟨false, [.int .i64]⟩)], [], fun x => l x.1.1.1 x.1.2.1.1 x.1.2.2.1.1⟩
def L (l0 : T0) : List (LS R) := [L0 l0]
def c : Code := Tryz.f42.body.getD .skip
theorem eq (k : Nat) (x) : (s k).pf x = execF tab (E k) Tryz.f42 c (s k) (L (l0 k)) x := by kernel_rfl
theorem r0 (l0 : T0) (k : Nat) (x) : (L0 (l0_ k l0)).l x = roundOf tab (E k) (L l0) c (fin tab Tryz.f42 (s k)) 0 (L0 l0) x := by kernel_rfl
theorem sound : ∀ k, Sound Tryz.prog 42 (s k) := snd S (fun k => (s k).pf) E (fun k => (EntsOK.cons (U184.sound k) (EntsOK.cons (U185.sound k) EntsOK.nil))) (fun k => L (l0 k)) (fun k => ⟨⟨(L0 (l0 (k + 1))).l, rfl, fun x => r0 (l0 k) k x⟩, trivial⟩) eq
end U186
namespace U187
abbrev R := (((Int × Unit) × Unit) × Unit)
abbrev T0 : Type := (List tFuncD) → Int → Int → Option R
def l0_ (k : Nat) (l0 : T0) (a0 : List tFuncD) (a1 : Int) (a2 : Int) : Option R := bif decide (a2 < ((List.length a0 : Nat) : Int)) then (bif (decide (0 ≤ a2)) && (decide (a2 < ((List.length a0 : Nat) : Int))) then (Option.bind (U183.f k ((List.getD a0 (Int.toNat a2) tFuncZ).1) a1) fun r1 => bif decide (r1.1.1.1 < 0) then (some (((-1, ()), ()), ())) else (bif (decide (0 ≤ a2)) && (decide (a2 < ((List.length a0 : Nat) : Int))) then (bif !decide ((List.getD a0 (Int.toNat a2) tFuncZ).2.1 = r1.1.1.1) then (some (((-1, ()), ()), ())) else (bif (decide (0 ≤ a2)) && (decide (a2 < ((List.length a0 : Nat) : Int))) then (Option.bind (U186.f k ((List.getD a0 (Int.toNat a2) tFuncZ).2.2.1) (IntKind.wrap .i64 (r1.1.1.1 + 1))) fun r2 => bif decide (r2.1.1.1 < 0) then (some (((-1, ()), ()), ())) else (l0 a0 r2.1.1.1 (IntKind.wrap .i64 (a2 + 1)))) else none)) else none)) else none) else (some (((a1, ()), ()), ()))
def all : Nat → (T0) × Unit
 | 0 => (fun _ _ _ => none, ())
 | k + 1 => (l0_ k (all k).1, ())
def l0 (k : Nat) : T0 := (all k).1
def f (k : Nat) (a0 : List tFuncD) (a1 : Int) : Option R := l0 k a0 a1 0
abbrev S : ShapeParts := ⟨[⟨false, [.lst tFunc]⟩, ⟨false, [.int .i64]⟩], [], false, [⟨false, [.int .i64]⟩], [], []⟩
def s (k : Nat) : FS := S.fs fun x => f k x.1.1.1 x.1.2.1.1
def E (k : Nat) : Ents := [(⟨41, []⟩, U183.s k), (⟨42, []⟩, U186.s k)]
def L0 (l : T0) : LS R := ⟨[], [(0, ⟨false, [.lst tFunc]⟩), (1, ⟨false, [.int .i64]⟩), (5, ⟨false, [.int .i64]⟩)], [], fun x => l x.1.1.1 x.1.2.1.1 x.1.2.2.1.1⟩
def L (l0 : T0) : List (LS R) := [L0 l0]
def c : Code := Tryz.f20.body.getD .skip
theorem eq (k : Nat) (x) : (s k).pf x = execF tab (E k) Tryz.f20 c (s k) (L (l0 k)) x := by kernel_rfl
theorem r0 (l0 : T0) (k : Nat) (x) : (L0 (l0_ k l0)).l x = roundOf tab (E k) (L l0) c (fin tab Tryz.f20 (s k)) 0 (L0 l0) x := by kernel_rfl
theorem sound : ∀ k, Sound Tryz.prog 20 (s k) := snd S (fun k => (s k).pf) E (fun k => (EntsOK.cons (U183.sound k) (EntsOK.cons (U186.sound k) EntsOK.nil))) (fun k => L (l0 k)) (fun k => ⟨⟨(L0 (l0 (k + 1))).l, rfl, fun x => r0 (l0 k) k x⟩, trivial⟩) eq
end U187
namespace U188
abbrev R := (((Int × Unit) × Unit) × Unit)
def f (k : Nat) (a0 : tModuleD) (a1 : Int) : Option R := Option.bind (U187.f k a0.1 a1) fun r1 => bif decide (r1.1.1.1 < 0) then (some (((-1, ()), ()), ())) else (some (((r1.1.1.1, ()), ()), ()))
abbrev S : ShapeParts := ⟨[⟨true, [.lst tFunc]⟩, ⟨false, [.int .i64]⟩], [], false, [⟨false, [.int .i64]⟩], [], []⟩
def s (k : Nat) : FS := S.fs fun x => f k x.1.1 x.1.2.1.1
def E (k : Nat) : Ents := [(⟨20, []⟩, U187.s k)]
def L : List (LS R) := []
def c : Code := Tryz.f10.body.getD .skip
theorem eq (k : Nat) (x) : (s k).pf x = execF tab (E k) Tryz.f10 c (s k) L x := by kernel_rfl
theorem sound : ∀ k, Sound Tryz.prog 10 (s k) := snd S (fun k => (s k).pf) E (fun k => (EntsOK.cons (U187.sound k) EntsOK.nil)) (fun k => L) (fun k => trivial) eq
end U188
namespace laws_FnExactFolded
abbrev R := (((Bool × Unit) × Unit) × Unit)
def f (k : Nat) (a0 : tModuleD) : Option R := Option.bind (U9.f k (a0.1, ()) 1048576) fun r1 => bif decide (r1.1.1.1 < 0) then (some (((true, ()), ()), ())) else (Option.bind (U20.f k (a0.1, ())) fun r2 => Option.bind (U68.f k (r2.2.1, ())) fun r3 => Option.bind (U20.f k (a0.1, ())) fun r4 => Option.bind (U165.f k (r4.2.1, ())) fun r5 => Option.bind (U176.f k (r5.2.1, ()) (r3.2.1, ())) fun r6 => bif !r6.1.1.1 then (some (((false, ()), ()), ())) else (bif !(r5.1.2.1.1 == r3.1.2.1.1) then (some (((false, ()), ()), ())) else (Option.bind (U20.f k (a0.1, ())) fun r7 => Option.bind (U176.f k (r4.2.1, ()) (r7.2.1, ())) fun r8 => bif !r8.1.1.1 then (some (((false, ()), ()), ())) else (Option.bind (U182.f k 1 r4.2.1) fun r9 => bif decide (r9.1.1.1 < 0) then (some (((false, ()), ()), ())) else (Option.bind (U176.f k (r5.2.1, ()) (r3.2.1, ())) fun r10 => bif !r10.1.1.1 then (some (((false, ()), ()), ())) else (bif !(r5.1.2.1.1 == r3.1.2.1.1) then (some (((false, ()), ()), ())) else (Option.bind (U182.f k 1 r5.2.1) fun r11 => Option.bind (U188.f k (r11.2.1, ()) 1) fun r12 => bif decide (r12.1.1.1 < 0) then (some (((false, ()), ()), ())) else (bif !decide (r12.1.1.1 = r11.1.1.1) then (some (((false, ()), ()), ())) else (Option.bind (U20.f k (a0.1, ())) fun r13 => Option.bind (U165.f k (r13.2.1, ())) fun r14 => Option.bind (U176.f k (r14.2.1, ()) (r3.2.1, ())) fun r15 => bif !r15.1.1.1 then (some (((false, ()), ()), ())) else (bif !(r14.1.2.1.1 == r3.1.2.1.1) then (some (((false, ()), ()), ())) else (Option.bind (U188.f k (r11.2.1, ()) 1) fun r16 => bif decide (r16.1.1.1 < 0) then (some (((false, ()), ()), ())) else (bif !decide (r16.1.1.1 = r11.1.1.1) then (some (((false, ()), ()), ())) else (some (((true, ()), ()), ()))))))))))))))
abbrev S : ShapeParts := ⟨[⟨true, [.lst tFunc]⟩], [], false, [⟨false, [.bool]⟩], [], []⟩
def s (k : Nat) : FS := S.fs fun x => f k x.1.1
def E (k : Nat) : Ents := [(⟨4, []⟩, U9.s k), (⟨6, []⟩, U20.s k), (⟨5, []⟩, U68.s k), (⟨7, []⟩, U165.s k), (⟨8, []⟩, U176.s k), (⟨9, []⟩, U182.s k), (⟨10, []⟩, U188.s k)]
def L : List (LS R) := []
def c : Code := Tryz.f3.body.getD .skip
theorem eq (k : Nat) (x) : (s k).pf x = execF tab (E k) Tryz.f3 c (s k) L x := by kernel_rfl
theorem sound : ∀ k, Sound Tryz.prog 3 (s k) := snd S (fun k => (s k).pf) E (fun k => (EntsOK.cons (U9.sound k) (EntsOK.cons (U20.sound k) (EntsOK.cons (U68.sound k) (EntsOK.cons (U165.sound k) (EntsOK.cons (U176.sound k) (EntsOK.cons (U182.sound k) (EntsOK.cons (U188.sound k) EntsOK.nil)))))))) (fun k => L) (fun k => trivial) eq
end laws_FnExactFolded
section
open Go Go.Deep Go.RowKit
/-- What is known of a datum that was read. -/
def Wf : (t : T) → t.Den → Prop
 | .int k, n => (Lit.int k n).wf = true
 | .bool, _ => True
 | .str, s => ByteArray.size s ≤ 9223372036854775807
 | .list t, xs => List.length (α := t.Den) xs ≤ 9223372036854775807 ∧ ∀ x : t.Den, List.Mem (α := t.Den) x xs → Wf t x
 | .pair a b, x => Wf a (Prod.fst (α := a.Den) (β := b.Den) x) ∧ Wf b (Prod.snd (α := a.Den) (β := b.Den) x)
 | .unit, _ => True
def OpensC (P : Program) (ty : TypeId) (t r : T) : Prop :=
 ∀ (H : Type) (enc : TypeId × Value → H) (w : World) (base : Nat) (spare : Nat → Bool) (held : Bool) (fuel : Nat) (cs : List Value) (x : DataW H × List MemPlace), DataW.trod enc P w base spare held fuel ty cs = some x →
  ∀ (y : r.Den) (us : List Value), Rd (fun b => b < w.heap.size) w r y us → Wf r y → ∃ a : t.Den, Rd (fun b => b < w.heap.size) w t a (cs ++ us) ∧ Wf t a
def Opens (P : Program) (ty : TypeId) (t : T) : Prop :=
 ∀ (H : Type) (enc : TypeId × Value → H) (w : World) (base : Nat) (spare : Nat → Bool) (held : Bool) (fuel : Nat) (cs : List Value) (x : DataW H × List MemPlace), DataW.trod enc P w base spare held fuel ty cs = some x →
  ∃ a : t.Den, Rd (fun b => b < w.heap.size) w t a cs ∧ Wf t a
theorem OpensC.whole {P : Program} {ty : TypeId} {t : T} (h : OpensC P ty t .unit) : Opens P ty t := by
 intro H enc w base spare held fuel cs x hx
 obtain ⟨a, h1, h2⟩ := h H enc w base spare held fuel cs x hx () [] rfl trivial
 rw [List.append_nil] at h1
 exact ⟨a, h1, h2⟩
theorem OpensC.one {P : Program} {ty : TypeId} {e : T} (h : OpensC P ty (.pair e .unit) .unit) : Opens P ty e := by
 intro H enc w base spare held fuel cs x hx
 obtain ⟨a, ⟨us, ws, h0, h1, h2⟩, h3⟩ := h H enc w base spare held fuel cs x hx () [] rfl trivial
 simp only [Rd] at h2
 subst h2
 simp only [List.append_nil] at h0
 subst h0
 exact ⟨_, h1, h3.1⟩
theorem OpensC.leaf {P : Program} {ty : TypeId} {e r : T} (h : Opens P ty e) : OpensC P ty (.pair e r) r := by
 intro H enc w base spare held fuel cs x hx y us hy hw
 obtain ⟨a, h1, h2⟩ := h H enc w base spare held fuel cs x hx
 exact ⟨(a, y), ⟨cs, us, rfl, h1, hy⟩, h2, hw⟩
theorem opens_list {P : Program} {ty el : TypeId} {e : T} (hu : P.underlying ty = some (.slice el)) (hc : P.cellsOf el = e.sz) (h1 : 1 ≤ e.sz) (h : Opens P el e) : Opens P ty (.list e) := by
 intro H enc w base spare held fuel cs x hx
 rcases open_slice hu hx with ⟨rfl, -⟩ | ⟨a, len, cap, m, n, D, Pl, rfl, hb, hl, hm, hmm, -, hel⟩
 ·exact ⟨([] : List e.Den), ⟨none, 0, rfl, Nat.le_refl _, fun h => absurd rfl h⟩, Nat.zero_le _, fun _ h => (List.not_mem_nil h).elim⟩
 ·have hlm : len ≤ m := by rw [hmm]; split <;> omega
  have hspot : len ≠ 0 → a.spot = none ∧ a.block < w.heap.size := by
   intro hn
   obtain ⟨cs', c1, c2⟩ := hel 0 (by omega)
   obtain ⟨-, l1, l2⟩ := World.cells?_some c1
   rw [hc] at l1 l2
   have h0 := l2 0 (by omega)
   simp only [Nat.zero_mul, Addr.add, if_true] at h0
   rw [List.getElem?_eq_getElem (by omega)] at h0
   unfold World.cell? at h0
   split at h0
   ·rename_i hh
    refine ⟨?_, (Array.getElem?_eq_some_iff.1 hh).1⟩
    split at h0
    ·cases h0
    ·rename_i hs
     simpa using hs
   ·cases h0
  have hadd : len ≠ 0 → ∀ n, a.add n = ⟨a.block, a.off + n, none⟩ := by
   intro hn n
   have hs := (hspot hn).1
   unfold Addr.add
   split
   ·rename_i h0
    subst h0
    cases a
    simp only at hs
    subst hs
    rfl
   ·rfl
  have each : ∀ n, n ≤ len → ∃ (xs : List e.Den) (us : List Value), xs.length = n ∧ (∀ x ∈ xs, Wf e x) ∧ At w a.block a.off us ∧ ELs (Rd (fun b => b < w.heap.size) w e) e.sz xs us := by
   intro n
   induction n with
   | zero => exact fun _ => ⟨[], [], rfl, fun _ h => (List.not_mem_nil h).elim, fun j v hj => by simp at hj, rfl⟩
   | succ n ih =>
    intro hn
    obtain ⟨xs, us, i1, i2, i4, i5⟩ := ih (by omega)
    obtain ⟨cs', c1, c2⟩ := hel n (by omega)
    obtain ⟨y, y1, y2⟩ := h H enc w base spare held _ cs' _ c2
    obtain ⟨-, l1, l2⟩ := World.cells?_some c1
    rw [hc] at l1 l2
    have hcell : ∀ j, j < e.sz → w.cell? ⟨a.block, a.off + (n * e.sz + j), none⟩ = cs'[j]? := by
     intro j hj
     have := l2 j hj
     rw [Deep.add_add, hadd (by omega)] at this
     exact this
    refine ⟨xs ++ [y], us ++ cs', by simp [i1], fun x hx => ?_, fun j v hj => ?_, ?_⟩
    ·rcases List.mem_append.1 hx with hx | hx
     ·exact i2 x hx
     ·simp only [List.mem_singleton] at hx; subst hx; exact y2
    ·have hul : us.length = n * e.sz := by have := i5.length; rw [i1] at this; exact this
     rcases Nat.lt_or_ge j us.length with hlt | hge
     ·rw [List.getElem?_append_left hlt] at hj
      exact i4 j v hj
     ·rw [List.getElem?_append_right hge] at hj
      have hlt := (List.getElem?_eq_some_iff.1 hj).1
      have := hcell (j - us.length) (by omega)
      rw [hj, show a.off + (n * e.sz + (j - us.length)) = a.off + j by omega] at this
      exact this
    ·refine i5.app ⟨cs', [], by simp, l1, y1, rfl⟩
  obtain ⟨xs, us, i1, i2, i4, i5⟩ := each len (Nat.le_refl _)
  refine ⟨xs, ⟨some a, cap, by rw [i1], by omega, fun hne => ?_⟩, ?_, i2⟩
  ·have hn : len ≠ 0 := fun h0 => hne (List.length_eq_zero_iff.1 (by omega))
   obtain ⟨s1, s2⟩ := hspot hn
   refine ⟨a.block, a.off, us, ?_, s2, i4, i5⟩
   cases a
   simp only at s1
   subst s1
   rfl
  ·have : cap ≤ maxLen := hm
   unfold maxLen at this
   show xs.length ≤ _
   omega
theorem opens_int {P : Program} {t : TypeId} {k : IntKind} (hu : P.underlying t = some (.int k)) : Opens P t (.int k) := by
 intro H enc w base spare held fuel cs x h
 obtain ⟨n, rfl, -, hw⟩ := DataW.trod_int hu h
 exact ⟨n, rfl, hw⟩
/-- Fields from place o on, of m cells. -/
def OpensF (P : Program) (o m : Nat) (fs : List Field) (t r : T) : Prop :=
 ∀ (H : Type) (enc : TypeId × Value → H) (w : World) (base : Nat) (spare : Nat → Bool) (held : Bool) (fuel : Nat) (cs : List Value),
  (∀ f ∈ fs, ∃ x, DataW.trod enc P w base spare held fuel f.type ((cs.drop f.offset).take (P.cellsOf f.type)) = some x) → cs.length = o + m →
  ∀ (y : r.Den) (us : List Value), Rd (fun b => b < w.heap.size) w r y us → Wf r y → ∃ a : t.Den, Rd (fun b => b < w.heap.size) w t a (cs.drop o ++ us) ∧ Wf t a
theorem opensF_nil {P : Program} {o : Nat} {t : T} : OpensF P o 0 [] t t := by
 intro H enc w base spare held fuel cs h hl y us hy hw
 refine ⟨y, ?_, hw⟩
 rw [List.drop_eq_nil_of_le (by omega), List.nil_append]
 exact hy
theorem opensF_cons {P : Program} {o m n : Nat} {f : Field} {fs : List Field} {t t1 r : T} (ho : f.offset = o) (hc : P.cellsOf f.type = m) (hd : OpensC P f.type t t1) (hs : OpensF P (o + m) n fs t1 r) : OpensF P o (m + n) (f :: fs) t r := by
 intro H enc w base spare held fuel cs h hl y us hy hw
 obtain ⟨x, hx⟩ := h f (by simp)
 obtain ⟨a1, q1, q2⟩ := hs H enc w base spare held fuel cs (fun f hf => h f (by simp [hf])) (by omega) y us hy hw
 rw [ho, hc] at hx
 obtain ⟨a, q3, q4⟩ := hd H enc w base spare held fuel _ _ hx a1 _ q1 q2
 refine ⟨a, ?_, q4⟩
 rw [← List.append_assoc, ← List.drop_drop, List.take_append_drop] at q3
 exact q3
theorem opensC_struct {P : Program} {ty : TypeId} {fs : Array Field} {m : Nat} {t r : T} (hu : P.underlying ty = some (.struct fs)) (hc : P.cellsOf ty = m) (hd : OpensF P 0 m fs.toList t r) : OpensC P ty t r := by
 intro H enc w base spare held fuel cs x h y us hy hw
 obtain ⟨xs, n, -, -, hl, hxs, hf⟩ := DataW.trod_struct hu h
 have := hd H enc w base spare held n cs (fun f hm => by
  obtain ⟨i, hi, rfl⟩ := List.getElem_of_mem hm
  have hi' : i < fs.size := by simpa using hi
  have := hf i fs[i] (by simp [hi'])
  rw [List.getElem?_eq_getElem (by omega)] at this
  exact ⟨_, by simpa using this⟩) (by rw [hl, hc, Nat.zero_add]) y us hy hw
 simpa using this
def gh0 (W : World) : Gh := ⟨fun _ => none, fun _ => none, fun b => b < W.heap.size⟩
theorem rval_struct {W : World} {t : T} {a : t.Den} {cs : Array Value} (h : Rd (fun b => b < W.heap.size) W t a cs.toList) : RVal (gh0 W) [] W true (cellsOf t a) (.agg cs) :=
 ⟨cs, rfl, rcs_cells (g := gh0 W) h⟩
/-- Nothing is laid. -/
theorem lp0 (W : World) : LX (gh0 W).F W := ⟨[], fun _ _ => trivial, fun x h => by cases h⟩
theorem law_calls {P : Program} {f : FuncId} {ins : List VS} {pf : DenV ins × DenO [] → Option (DenV [⟨false, [.bool]⟩] × DenO [])} (hs : Sound P f ⟨ins, [], false, [⟨false, [.bool]⟩], [], [], pf⟩) {x : DenV ins} (hx : pf (x, ()) = some (((true, ()), ()), ())) {W : World} {args : Array Value}
  (hlx : LX (gh0 W).F W) (h : RVals (gh0 W) [] W (instV ins x) args.toList) : Calls P f args W fun e W' => e = .returned (.bool true) ∧ Below W.heap.size W W' := by
 have hG : RelG (gh0 W) [] W := ⟨fun o ob h => (by cases h), fun b o h => (by cases h), fun b h => h, hlx⟩
 refine (hs.2 (x, ()) (((true, ()), ()), ()) hx (gh0 W) W args hG h).mono fun e W' he => ?_
 cases e with
 | returned v =>
  obtain ⟨g', O⟩ := he
  have hv : RVal g' [] W' false [.bool true] v := O.val
  obtain ⟨u, us, e, h1, h2⟩ := hv
  obtain ⟨rfl, rfl⟩ : u = v ∧ us = [] := by simpa using e.symm
  have h3 : u = .bool true := h1.2
  refine ⟨by rw [h3], O.ext.os, O.ext.tape, O.ext.output, O.ext.size, fun k hk => O.ext.block k hk (by simp [gh0])⟩
 | panicked c => exact he.elim
 | outgrown => exact he.elim
end
theorem opensC132 (r : T) : OpensC Tryz.prog 132 (.pair (.int .i64) (.pair (.list (.int .i64)) r)) r := opensC_struct Tryz.underlying132 (by kernel_rfl) (opensF_cons (o := 0) (m := 1) (n := 1) rfl (by kernel_rfl) (OpensC.leaf (opens_int Tryz.underlying2)) (opensF_cons (o := 1) (m := 1) (n := 0) rfl (by kernel_rfl) (OpensC.leaf (opens_list Tryz.underlying37 (by kernel_rfl) (by decide) (opens_int Tryz.underlying2))) opensF_nil))
theorem opensC134 (r : T) : OpensC Tryz.prog 134 (.pair (.int .i64) (.pair (.int .i64) (.pair (.int .i64) (.pair (.int .i64) (.pair (.int .i64) (.pair (.int .i64) (.pair (.list (.int .i64)) r))))))) r := opensC_struct Tryz.underlying134 (by kernel_rfl) (opensF_cons (o := 0) (m := 1) (n := 6) rfl (by kernel_rfl) (OpensC.leaf (opens_int Tryz.underlying2)) (opensF_cons (o := 1) (m := 1) (n := 5) rfl (by kernel_rfl) (OpensC.leaf (opens_int Tryz.underlying2)) (opensF_cons (o := 2) (m := 1) (n := 4) rfl (by kernel_rfl) (OpensC.leaf (opens_int Tryz.underlying2)) (opensF_cons (o := 3) (m := 1) (n := 3) rfl (by kernel_rfl) (OpensC.leaf (opens_int Tryz.underlying2)) (opensF_cons (o := 4) (m := 1) (n := 2) rfl (by kernel_rfl) (OpensC.leaf (opens_int Tryz.underlying2)) (opensF_cons (o := 5) (m := 1) (n := 1) rfl (by kernel_rfl) (OpensC.leaf (opens_int Tryz.underlying2)) (opensF_cons (o := 6) (m := 1) (n := 0) rfl (by kernel_rfl) (OpensC.leaf (opens_list Tryz.underlying37 (by kernel_rfl) (by decide) (opens_int Tryz.underlying2))) opensF_nil)))))))
theorem opensC105 (r : T) : OpensC Tryz.prog 105 (.pair (.int .i64) (.pair (.int .i64) (.pair (.int .i64) (.pair (.int .i64) r)))) r := opensC_struct Tryz.underlying105 (by kernel_rfl) (opensF_cons (o := 0) (m := 1) (n := 3) rfl (by kernel_rfl) (OpensC.leaf (opens_int Tryz.underlying2)) (opensF_cons (o := 1) (m := 1) (n := 2) rfl (by kernel_rfl) (OpensC.leaf (opens_int Tryz.underlying2)) (opensF_cons (o := 2) (m := 1) (n := 1) rfl (by kernel_rfl) (OpensC.leaf (opens_int Tryz.underlying2)) (opensF_cons (o := 3) (m := 1) (n := 0) rfl (by kernel_rfl) (OpensC.leaf (opens_int Tryz.underlying2)) opensF_nil))))
theorem opensC107 (r : T) : OpensC Tryz.prog 107 (.pair (.list tPhi) (.pair (.list tInst) (.pair (.int .i64) (.pair (.int .i64) (.pair (.int .i64) (.pair (.int .i64) r)))))) r := opensC_struct Tryz.underlying107 (by kernel_rfl) (opensF_cons (o := 0) (m := 1) (n := 5) rfl (by kernel_rfl) (OpensC.leaf (opens_list Tryz.underlying103 (by kernel_rfl) (by decide) (OpensC.whole (opensC132 _)))) (opensF_cons (o := 1) (m := 1) (n := 4) rfl (by kernel_rfl) (OpensC.leaf (opens_list Tryz.underlying104 (by kernel_rfl) (by decide) (OpensC.whole (opensC134 _)))) (opensF_cons (o := 2) (m := 4) (n := 0) rfl (by kernel_rfl) (opensC105 _) opensF_nil)))
theorem opensC58 (r : T) : OpensC Tryz.prog 58 (.pair (.list (.int .i64)) (.pair (.int .i64) (.pair (.list tBlock) r))) r := opensC_struct Tryz.underlying58 (by kernel_rfl) (opensF_cons (o := 0) (m := 1) (n := 2) rfl (by kernel_rfl) (OpensC.leaf (opens_list Tryz.underlying37 (by kernel_rfl) (by decide) (opens_int Tryz.underlying2))) (opensF_cons (o := 1) (m := 1) (n := 1) rfl (by kernel_rfl) (OpensC.leaf (opens_int Tryz.underlying2)) (opensF_cons (o := 2) (m := 1) (n := 0) rfl (by kernel_rfl) (OpensC.leaf (opens_list Tryz.underlying56 (by kernel_rfl) (by decide) (OpensC.whole (opensC107 _)))) opensF_nil)))
theorem opensC24 (r : T) : OpensC Tryz.prog 24 (.pair (.list tFunc) r) r := opensC_struct Tryz.underlying24 (by kernel_rfl) (opensF_cons (o := 0) (m := 1) (n := 0) rfl (by kernel_rfl) (OpensC.leaf (opens_list Tryz.underlying22 (by kernel_rfl) (by decide) (OpensC.whole (opensC58 _)))) opensF_nil)
def Ev {R : Type} (g : Nat → Option R) (r : R) : Prop := ∃ n, ∀ k, n ≤ k → g k = some r
abbrev one {α : Type} (x : α) : ((α × Unit) × Unit) × Unit := (((x, ()), ()), ())
abbrev rowR {α : Type} (xs : α) : ((Unit × Unit) × Unit) × (α × Unit) := ((((), ()), ()), (xs, ()))
section
variable {R S : Type}
theorem Ev.cst {o : Option R} {r : R} (h : o = some r) : Ev (fun _ => o) r := ⟨0, fun _ _ => h⟩
theorem Ev.all {g : Nat → Option R} {r : R} (h : ∀ k, g k = some r) : Ev g r := ⟨0, fun k _ => h k⟩
theorem Ev.congr {g g' : Nat → Option R} {r : R} (h : Ev g' r) (e : ∀ k, g k = g' k) : Ev g r := by
 obtain ⟨n, h⟩ := h
 exact ⟨n, fun k hk => by rw [e, h k hk]⟩
theorem Ev.step {g g' : Nat → Option R} {r : R} (h : Ev g' r) (e : ∀ k, g (k + 1) = g' k) : Ev g r := by
 obtain ⟨n, h⟩ := h
 refine ⟨n + 1, fun k hk => ?_⟩
 obtain ⟨k, rfl⟩ : ∃ j, k = j + 1 := ⟨k - 1, by omega⟩
 rw [e, h k (by omega)]
theorem Ev.bind {g : Nat → Option S} {f : Nat → S → Option R} {a : S} {r : R} (h : Ev g a) (k : Ev (fun n => f n a) r) : Ev (fun n => Option.bind (g n) (f n)) r := by
 obtain ⟨n, h⟩ := h
 obtain ⟨m, k⟩ := k
 exact ⟨max n m, fun j hj => by show Option.bind (g j) (f j) = some r; rw [h j (by omega), Option.bind_some]; exact k j (by omega)⟩
theorem Ev.rw {g : Nat → Option R} {r s : R} (h : Ev g r) (e : r = s) : Ev g s := e ▸ h
theorem Ev.pos {c : Bool} {f g : Nat → Option R} {r : R} (hc : c = true) (h : Ev f r) : Ev (fun k => bif c then f k else g k) r := h.congr fun k => by rw [hc]; rfl
theorem Ev.neg {c : Bool} {f g : Nat → Option R} {r : R} (hc : c = false) (h : Ev g r) : Ev (fun k => bif c then f k else g k) r := h.congr fun k => by rw [hc]; rfl
theorem Ev.uniq {g : Nat → Option R} {r s : R} (h : Ev g r) (k : Ev g s) : r = s := by
 obtain ⟨n, h⟩ := h
 obtain ⟨m, k⟩ := k
 have a := h (max n m) (by omega)
 have b := k (max n m) (by omega)
 rw [a] at b; exact Option.some.inj b
theorem Ev.ex {g : Nat → Option R} {r : R} (h : Ev g r) : ∃ k, g k = some r := by
 obtain ⟨n, h⟩ := h
 exact ⟨n, h n (Nat.le_refl _)⟩
end
def W (x : Int) : Int := IntKind.wrap .i64 x
theorem wrap_id {x : Int} (h0 : -9223372036854775808 ≤ x) (h1 : x ≤ 9223372036854775807) : IntKind.wrap .i64 x = x := by
 have e : IntKind.wrap .i64 x = if (true && decide (x % 18446744073709551616 ≥ 9223372036854775808)) = true then x % 18446744073709551616 - 18446744073709551616 else x % 18446744073709551616 := rfl
 rw [e]
 simp only [Bool.true_and, decide_eq_true_eq]
 split <;> omega
theorem wrap_nat {i : Nat} (h : i < 9223372036854775807) : IntKind.wrap .i64 ((i : Int) + 1) = ((i + 1 : Nat) : Int) := by
 rw [wrap_id (by omega) (by omega)]; omega
theorem getD_at {α : Type} (l : List α) (z : α) (j : Nat) (h : j < l.length) : l.getD j z = l[j] := by simp [List.getD, List.getElem?_eq_getElem h]
theorem dpos {c : Prop} [Decidable c] (h : c) : decide c = true := by simp [h]
theorem dneg {c : Prop} [Decidable c] (h : ¬ c) : decide c = false := by simp [h]
theorem Ev.dp {R : Type} {p : Prop} [Decidable p] {f g : Nat → Option R} {r : R} (h : p) (e : Ev f r) : Ev (fun k => bif decide p then f k else g k) r := Ev.pos (dpos h) e
theorem Ev.dn {R : Type} {p : Prop} [Decidable p] {f g : Nat → Option R} {r : R} (h : ¬ p) (e : Ev g r) : Ev (fun k => bif decide p then f k else g k) r := Ev.neg (dneg h) e
theorem Ev.dd {R : Type} {p q : Prop} [Decidable p] [Decidable q] {f g : Nat → Option R} {r : R} (h : p) (h' : q) (e : Ev f r) : Ev (fun k => bif decide p && decide q then f k else g k) r := Ev.pos (by rw [dpos h, dpos h']; rfl) e
theorem Ev.succ {R : Type} {g : Nat → Option R} {r : R} (h : Ev (fun k => g (k + 1)) r) : Ev g r := Ev.step h fun _ => rfl
/-- A loop over places 0 .. n, backwards. -/
theorem Ev.down {R : Type} {G : Nat → Nat → Option R} {V : Nat → R} (n : Nat) (hend : Ev (G n) (V n)) (hstep : ∀ i, i < n → Ev (G (i + 1)) (V (i + 1)) → Ev (G i) (V i)) : ∀ i, i ≤ n → Ev (G i) (V i) := by
 intro i hi
 obtain ⟨d, rfl⟩ : ∃ d, i = n - d := ⟨n - i, by omega⟩
 clear hi
 induction d with
 | zero => exact hend
 | succ d ih =>
  by_cases h : d < n
  ·have e : n - (d + 1) + 1 = n - d := by omega
   exact hstep (n - (d + 1)) (by omega) (by rw [e]; exact ih)
  ·have e : n - (d + 1) = n - d := by omega
   rw [e]; exact ih
section
variable {α R : Type} {z : α} {l : List α}
/-- What a loop's head asks: is the place one of the list? -/
theorem head_in {i : Nat} (h : i < l.length) : (decide ((i : Int) < (l.length : Int))) = true := dpos (by omega)
theorem head_0 {i : Nat} : (decide (0 ≤ (i : Int))) = true := dpos (by omega)
theorem head_end : (decide ((l.length : Int) < (l.length : Int))) = false := dneg (by omega)
theorem get_in {i : Nat} (h : i < l.length) : l.getD (Int.toNat (i : Int)) z = l[i] := by rw [Int.toNat_natCast]; exact getD_at l z i h
/-- The loops that ask something of each element. -/
theorem each_ev {L : Nat → Int → Option R} {q : Nat → α → (Nat → Option R) → Option R} {tail : Nat → Option R} {V : List α → R} (hlen : l.length ≤ 9223372036854775807)
  (hL : ∀ k a, L (k + 1) a = bif decide (a < (l.length : Int)) then (bif decide (0 ≤ a) && decide (a < (l.length : Int)) then q k (l.getD a.toNat z) (fun j => L j (IntKind.wrap .i64 (a + 1))) else none) else tail k)
  (hend : Ev tail (V [])) (hstep : ∀ x m (g : Nat → Option R), x ∈ l → Ev g (V m) → Ev (fun k => q k x g) (V (x :: m))) : Ev (fun k => L k 0) (V l) := by
 have := Ev.down (G := fun i k => L k (i : Int)) (V := fun i => V (l.drop i)) l.length ?_ ?_ 0 (Nat.zero_le _)
 ·exact this
 ·rw [List.drop_length]
  refine hend.step fun k => ?_
  rw [hL, head_end]; rfl
 ·intro i hi ih
  rw [List.drop_eq_getElem_cons hi]
  refine (hstep l[i] (l.drop (i + 1)) (fun j => L j (((i + 1 : Nat)) : Int)) (List.getElem_mem hi) ih).step fun k => ?_
  show L (k + 1) (i : Int) = _
  rw [hL]
  simp only [head_in hi, head_0, Bool.and_self, cond_true, get_in hi, wrap_nat (show i < 9223372036854775807 by omega)]
/-- slices.IndexFunc. -/
def ixF (p : α → Bool) : List α → Nat → Int
 | [], _ => -1
 | x :: l, i => bif p x then (i : Int) else ixF p l (i + 1)
theorem ixF_any (p : α → Bool) : ∀ (l : List α) (i : Nat), decide (0 ≤ ixF p l i) = l.any p
 | [], i => by simp [ixF]
 | x :: l, i => by
  have ih := ixF_any p l (i + 1)
  rw [List.any_cons]
  unfold ixF
  rcases Bool.eq_false_or_eq_true (p x) with h | h
  ·simp only [h, cond_true, Bool.true_or]; exact dpos (by omega)
  ·simp only [h, cond_false, Bool.false_or]; exact ih
theorem index_ev {p : α → Bool} {q : Nat → α → Option (((Bool × Unit) × Unit) × Unit)} {L : Nat → Int → Int → Option (((Int × Unit) × Unit) × Unit)} (hlen : l.length ≤ 9223372036854775807)
  (hL : ∀ k b a, L (k + 1) b a = bif decide (a < b) then (bif decide (0 ≤ a) && decide (a < (l.length : Int)) then (Option.bind (q k (l.getD a.toNat z)) fun r1 => bif r1.1.1.1 then some (((a, ()), ()), ()) else L k b (IntKind.wrap .i64 (a + 1))) else none) else some (((-1, ()), ()), ()))
  (hq : ∀ x ∈ l, Ev (fun k => q k x) (one (p x))) : Ev (fun k => Option.bind (L k (l.length : Int) 0) fun r1 => some (((decide (0 ≤ r1.1.1.1), ()), ()), ())) (one (l.any p)) := by
 have := Ev.down (G := fun i k => L k (l.length : Int) (i : Int)) (V := fun i => one (ixF p (l.drop i) i)) l.length ?_ ?_ 0 (Nat.zero_le _)
 ·refine (Ev.bind (f := fun _ r1 => some (((decide (0 ≤ r1.1.1.1), ()), ()), ())) this (Ev.cst rfl)).rw ?_
  show one (decide (0 ≤ ixF p l 0)) = _
  rw [ixF_any]
 ·rw [List.drop_length]
  refine Ev.step (g' := fun _ => some (((-1, ()), ()), ())) (Ev.cst rfl) fun k => ?_
  show L (k + 1) _ _ = _
  rw [hL, head_end]; rfl
 ·intro i hi ih
  rw [List.drop_eq_getElem_cons hi]
  have h1 := hq l[i] (List.getElem_mem hi)
  refine Ev.step (g' := fun k => Option.bind (q k l[i]) fun r1 => bif r1.1.1.1 then some ((((i : Int), ()), ()), ()) else L k (l.length : Int) ((i + 1 : Nat) : Int)) ?_ fun k => ?_
  ·refine Ev.bind h1 ?_
   simp only [ixF]
   cases p l[i] with
   | true => exact Ev.cst rfl
   | false => exact ih
  ·show L (k + 1) _ _ = _
   rw [hL]
   simp only [head_in hi, head_0, Bool.and_self, cond_true, get_in hi, wrap_nat (show i < 9223372036854775807 by omega)]
end
/-- All lists are short. -/
def Small : (t : T) → t.Den → Prop
 | .list t, xs => List.length (α := t.Den) xs ≤ 1048576 ∧ ∀ x : t.Den, List.Mem (α := t.Den) x xs → Small t x
 | .pair a b, x => Small a (Prod.fst (α := a.Den) (β := b.Den) x) ∧ Small b (Prod.snd (α := a.Den) (β := b.Den) x)
 | _, _ => True
abbrev IR := (((Int × Unit) × Unit) × Unit)
abbrev BR := (((Bool × Unit) × Unit) × Unit)
def SzP {α : Type} (wf small : α → Prop) (f : Nat → α → Int → Option IR) : Prop := ∀ (x : α), wf x → ∀ n : Int, 0 ≤ n → n ≤ 1048576 → ∃ s, Ev (fun k => f k x n) (one s) ∧ -1 ≤ s ∧ s ≤ n ∧ (0 ≤ s → small x)
abbrev SzOK (t : T) (f : Nat → t.Den → Int → Option IR) : Prop := SzP (Wf t) (Small t) f
theorem sz_list {α : Type} {wf small : α → Prop} {z : α} {f : Nat → α → Int → Option IR} (hf : SzP wf small f) {L : Nat → List α → Int → Int → Option IR} {F : Nat → List α → Int → Option IR}
  (hL : ∀ k l a1 a2, L (k + 1) l a1 a2 = bif decide (a2 < (l.length : Int)) then (bif decide (0 ≤ a2) && decide (a2 < (l.length : Int)) then (Option.bind (f k (l.getD a2.toNat z) a1) fun r1 => bif decide (r1.1.1.1 < 0) then some (((-1, ()), ()), ()) else L k l r1.1.1.1 (IntKind.wrap .i64 (a2 + 1))) else none) else some (((a1, ()), ()), ()))
  (hF : ∀ k l a, F k l a = bif decide (IntKind.wrap .i64 (a - (l.length : Int)) < 0) then some (((-1, ()), ()), ()) else L k l (IntKind.wrap .i64 (a - (l.length : Int))) 0) : SzP (fun l : List α => l.length ≤ 9223372036854775807 ∧ ∀ x ∈ l, wf x) (fun l : List α => l.length ≤ 1048576 ∧ ∀ x ∈ l, small x) F := by
 intro l hw n h0 h1
 obtain ⟨hlen, hel⟩ := hw
 have key : ∀ (d i : Nat) (n : Int), i + d = l.length → 0 ≤ n → n ≤ 1048576 → ∃ s, Ev (fun k => L k l n (i : Int)) (one s) ∧ -1 ≤ s ∧ s ≤ n ∧ (0 ≤ s → ∀ x ∈ l.drop i, small x) := by
  intro d
  induction d with
  | zero =>
   intro i n hi h0 h1
   have hi' : i = l.length := by omega
   subst hi'
   refine ⟨n, Ev.step (g' := fun _ => some (one n)) (Ev.cst rfl) fun k => ?_, by omega, Int.le_refl _, fun _ x hx => by rw [List.drop_length] at hx; cases hx⟩
   rw [hL, head_end]; rfl
  | succ d ih =>
   intro i n hi h0 h1
   have hi' : i < l.length := by omega
   have hmem : l[i] ∈ l := List.getElem_mem hi'
   obtain ⟨s, e1, e2, e3, e4⟩ := hf (l[i]) (hel _ hmem) n h0 h1
   have hstep : ∀ k, L (k + 1) l n (i : Int) = Option.bind (f k (l[i]) n) fun r1 => bif decide (r1.1.1.1 < 0) then some (((-1, ()), ()), ()) else L k l r1.1.1.1 ((i + 1 : Nat) : Int) := fun k => by
    rw [hL]
    simp only [head_in hi', head_0, Bool.and_self, cond_true, get_in hi', wrap_nat (show i < 9223372036854775807 by omega)]
   rcases Int.lt_or_le s 0 with hs | hs
   ·refine ⟨-1, Ev.step (Ev.bind (f := fun k r1 => bif decide (r1.1.1.1 < 0) then some (((-1, ()), ()), ()) else L k l r1.1.1.1 ((i + 1 : Nat) : Int)) e1 ?_) hstep, by omega, by omega, fun h => by omega⟩
    exact Ev.pos (dpos hs) (Ev.cst rfl)
   ·obtain ⟨s', q1, q2, q3, q4⟩ := ih (i + 1) s (by omega) hs (by omega)
    refine ⟨s', Ev.step (Ev.bind (f := fun k r1 => bif decide (r1.1.1.1 < 0) then some (((-1, ()), ()), ()) else L k l r1.1.1.1 ((i + 1 : Nat) : Int)) e1 (Ev.neg (dneg (show ¬ s < 0 by omega)) q1)) hstep, q2, by omega, fun h x hx => ?_⟩
    rw [List.drop_eq_getElem_cons hi'] at hx
    rcases List.mem_cons.1 hx with rfl | hx
    ·exact e4 hs
    ·exact q4 h x hx
 have hw : IntKind.wrap .i64 (n - (l.length : Int)) = n - (l.length : Int) := wrap_id (by omega) (by omega)
 rcases Int.lt_or_le (n - (l.length : Int)) 0 with hs | hs
 ·refine ⟨-1, (Ev.cst rfl : Ev (fun _ => some (one (-1 : Int))) _).congr fun k => ?_, by omega, by omega, fun h => by omega⟩
  rw [hF, hw, dpos hs]; rfl
 ·obtain ⟨s, q1, q2, q3, q4⟩ := key (l.length) 0 _ (by omega) hs (by omega)
  refine ⟨s, q1.congr fun k => ?_, q2, by omega, fun h => ⟨by omega, fun x hx => q4 h x (by simpa using hx)⟩⟩
  rw [hF, hw, dneg (by omega)]; rfl
/-- A copy, element by element. -/
theorem to_list {α R : Type} {z : α} {L : Nat → List α → Int → List α → Option (((Unit × Unit) × Unit) × (List α × Unit))} {q : Nat → α → (α → Option (((Unit × Unit) × Unit) × (List α × Unit))) → Option (((Unit × Unit) × Unit) × (List α × Unit))} {F : Nat → List α → Option (((Unit × Unit) × Unit) × (List α × Unit))} {b : Int}
  (hL : ∀ k l a1 a2, L (k + 1) l a1 a2 = bif decide (a1 < (l.length : Int)) then (bif decide (0 ≤ a1) && decide (a1 < (l.length : Int)) then q k (l.getD a1.toNat z) (fun y => bif decide (0 ≤ a1) && decide (a1 < (a2.length : Int)) then L k l (IntKind.wrap .i64 (a1 + 1)) (a2.set a1.toNat y) else none) else none) else some ((((), ()), ()), (a2, ())))
  (hF : ∀ k l, F k l = bif decide ((l.length : Int) = (l.length : Int)) && decide (0 ≤ (l.length : Int)) && decide ((l.length : Int) * b ≤ 281474976710656) then L k l 0 (List.replicate (Int.toNat (l.length : Int)) z) else none)
  {l : List α} (hlen : l.length ≤ 1048576) (hb0 : 0 ≤ b) (hb : b ≤ 1000) (hq : ∀ x ∈ l, ∀ (h : Nat → α → Option (((Unit × Unit) × Unit) × (List α × Unit))) r, Ev (fun k => h k x) r → Ev (fun k => q k x (h k)) r) : Ev (fun k => F k l) (rowR l) := by
 have h1 := Ev.down (G := fun i k => L k l (i : Int) (l.take i ++ List.replicate (l.length - i) z)) (V := fun _ => rowR l) l.length ?_ ?_ 0 (Nat.zero_le _)
 ·refine h1.congr fun k => ?_
  have hsz : (l.length : Int) * b ≤ 281474976710656 := by
   have : (l.length : Int) * b ≤ 1048576 * 1000 := Int.mul_le_mul (by omega) hb hb0 (by omega)
   omega
  rw [hF, dpos rfl, dpos (show 0 ≤ (l.length : Int) by omega), dpos hsz]
  simp
 ·refine Ev.step (g' := fun _ => some (rowR l)) (Ev.cst rfl) fun k => ?_
  show L (k + 1) l _ _ = _
  rw [hL, head_end]
  simp
 ·intro i hi ih
  refine Ev.step (g' := fun k => q k l[i] (fun y => bif decide (0 ≤ (i : Int)) && decide ((i : Int) < (((l.take i ++ List.replicate (l.length - i) z).length : Nat) : Int)) then L k l ((i + 1 : Nat) : Int) ((l.take i ++ List.replicate (l.length - i) z).set i y) else none)) (hq _ (List.getElem_mem hi) (fun k y => bif decide (0 ≤ (i : Int)) && decide ((i : Int) < (((l.take i ++ List.replicate (l.length - i) z).length : Nat) : Int)) then L k l ((i + 1 : Nat) : Int) ((l.take i ++ List.replicate (l.length - i) z).set i y) else none) _ ?_) fun k => ?_
  ·refine Ev.pos ?_ (ih.congr fun k => ?_)
   ·rw [dpos (by omega), dpos (by simp; omega)]; rfl
   ·congr 1
    rw [List.set_append_right _ _ (by simp; omega)]
    have e1 : i - (l.take i).length = 0 := by simp; omega
    have e2 : l.length - i = (l.length - (i + 1)) + 1 := by omega
    rw [e1, e2, List.replicate_succ, List.set_cons_zero, List.take_succ_eq_append_getElem hi, List.append_assoc]
    rfl
  ·show L (k + 1) l _ _ = _
   rw [hL]
   simp only [head_in hi, head_0, Bool.and_self, cond_true, get_in hi, wrap_nat (show i < 9223372036854775807 by omega), Int.toNat_natCast]
   rw [getD_at l z i hi]
/-- A list compared with itself. -/
theorem eq_list {α : Type} {z : α} {L : Nat → List α → List α → Int → Option BR} {q : Nat → α → α → Option BR → Option BR} {F : Nat → List α → List α → Option BR}
  (hL : ∀ k l m a, L (k + 1) l m a = bif decide (a < (l.length : Int)) then (bif decide (0 ≤ a) && decide (a < (l.length : Int)) then (bif decide (0 ≤ a) && decide (a < (m.length : Int)) then q k (l.getD a.toNat z) (m.getD a.toNat z) (L k l m (IntKind.wrap .i64 (a + 1))) else none) else none) else some (((true, ()), ()), ()))
  (hF : ∀ k l m, F k l m = bif !decide ((l.length : Int) = (m.length : Int)) then some (((false, ()), ()), ()) else L k l m 0)
  {l : List α} (hlen : l.length ≤ 1048576) (hq : ∀ x ∈ l, ∀ (g : Nat → Option BR) r, Ev g r → Ev (fun k => q k x x (g k)) r) : Ev (fun k => F k l l) (one true) := by
 have h1 := Ev.down (G := fun i k => L k l l (i : Int)) (V := fun _ => one true) l.length ?_ ?_ 0 (Nat.zero_le _)
 ·refine h1.congr fun k => ?_
  rw [hF, dpos rfl]; rfl
 ·refine Ev.step (g' := fun _ => some (one true)) (Ev.cst rfl) fun k => ?_
  show L (k + 1) l l _ = _
  rw [hL, head_end]; rfl
 ·intro i hi ih
  refine Ev.step (hq _ (List.getElem_mem hi) (fun k => L k l l ((i + 1 : Nat) : Int)) _ ih) fun k => ?_
  show L (k + 1) l l _ = _
  rw [hL]
  simp only [head_in hi, head_0, Bool.and_self, cond_true, get_in hi, wrap_nat (show i < 9223372036854775807 by omega)]
def inB (lo hi x : Int) : Bool := decide (lo ≤ x) && decide (x ≤ hi)
def wOk (w : Int) : Bool := decide (w = 1) || decide (w = 8) || decide (w = 16) || decide (w = 32)
def opsB (i : tInstD) : List Int :=
 bif inB 1 17 i.1 then [i.2.2.1, i.2.2.2.1] else bif decide (i.1 = 24) then [i.2.2.1, i.2.2.2.1] else bif inB 18 20 i.1 then [i.2.2.1] else bif decide (i.1 = 23) then [i.2.2.1] else bif decide (i.1 = 25) then [i.2.2.1] else bif decide (i.1 = 27) then [i.2.2.1] else
 bif decide (i.1 = 22) then [i.2.2.1, i.2.2.2.1, i.2.2.2.2.1] else bif decide (i.1 = 26) then i.2.2.2.2.2.2.1 else []
theorem specIn (k : Nat) (a lo hi : Int) : U21.f k a lo hi = some (one (inB lo hi a)) := by
 unfold U21.f inB
 cases decide (lo ≤ a) <;> rfl
theorem implIn (k : Nat) (a lo hi : Int) : U69.f k a lo hi = some (one (inB lo hi a)) := by
 unfold U69.f inB
 cases decide (lo ≤ a) <;> rfl
theorem specW (k : Nat) (a : Int) : U23.f k a = some (one (wOk a)) := by
 unfold U23.f wOk
 cases decide (a = 1) <;> cases decide (a = 8) <;> cases decide (a = 16) <;> rfl
theorem implW (k : Nat) (a : Int) : U70.f k a = some (one (wOk a)) := by
 unfold U70.f wOk
 cases decide (a = 1) <;> cases decide (a = 8) <;> cases decide (a = 16) <;> rfl
theorem specCopy (k : Nat) {l : List Int} (h : l.length ≤ 1048576) : U24.f k l = some (rowR l) := by
 unfold U24.f
 rw [dpos (by simp; omega)]; rfl
theorem implClone (k : Nat) {l : List Int} (h : l.length ≤ 1048576) : slices_Clone_int64_int64.f k l = some (rowR l) := by
 unfold slices_Clone_int64_int64.f cloneF
 rw [dpos (by omega)]; rfl
theorem specOps (k : Nat) {i : tInstD} (h : i.2.2.2.2.2.2.1.length ≤ 1048576) : U25.f k i = some (rowR (opsB i)) := by
 unfold U25.f opsB
 simp only [specIn, specCopy k h, Option.bind_some]
 cases inB 1 17 i.1
 ·cases decide (i.1 = 24)
  ·cases inB 18 20 i.1
   ·cases decide (i.1 = 23)
    ·cases decide (i.1 = 25)
     ·cases decide (i.1 = 27)
      ·cases decide (i.1 = 22)
       ·cases decide (i.1 = 26) <;> rfl
       ·rfl
      ·rfl
     ·rfl
    ·rfl
   ·rfl
  ·rfl
 ·rfl
theorem implBin (k : Nat) (a : Int) : U81.f k a = some (one (inB 1 17 a)) := by
 unfold U81.f
 rw [implIn]; rfl
theorem implCast (k : Nat) (a : Int) : U82.f k a = some (one (inB 18 20 a)) := by
 unfold U82.f
 rw [implIn]; rfl
theorem implOps (k : Nat) {i : tInstD} (h : i.2.2.2.2.2.2.1.length ≤ 1048576) : U83.f k i = some (rowR (opsB i)) := by
 unfold U83.f opsB
 simp only [implBin, implCast, implClone k h, Option.bind_some]
 cases inB 1 17 i.1
 ·cases decide (i.1 = 24)
  ·cases inB 18 20 i.1
   ·cases decide (i.1 = 23)
    ·cases decide (i.1 = 25)
     ·cases decide (i.1 = 27)
      ·cases decide (i.1 = 22)
       ·cases decide (i.1 = 26) <;> rfl
       ·rfl
      ·rfl
     ·rfl
    ·rfl
   ·rfl
  ·rfl
 ·rfl
def topOf (w : Int) : Int := bif decide (w = 1) then 1 else bif decide (w = 8) then 255 else bif decide (w = 16) then 65535 else 4294967295
def valB (w x : Int) : Bool := wOk w && inB 0 (topOf w) x
theorem wOk_cases {w : Int} (h : wOk w = true) : w = 1 ∨ w = 8 ∨ w = 16 ∨ w = 32 := by
 simp only [wOk, Bool.or_eq_true, decide_eq_true_eq] at h
 omega
theorem specVal (k : Nat) (w x : Int) : U27.f k w x = some (one (valB w x)) := by
 unfold U27.f valB
 simp only [specW, Option.bind_some]
 cases h : wOk w with
 | false => rfl
 | true => rcases wOk_cases h with rfl | rfl | rfl | rfl <;> (unfold U26.f; simp only [specIn]; rfl)
theorem implVal (k : Nat) (w x : Int) : U92.f k w x = some (one (valB w x)) := by
 unfold U92.f valB
 simp only [implW, Option.bind_some]
 cases h : wOk w with
 | false => rfl
 | true => rcases wOk_cases h with rfl | rfl | rfl | rfl <;> (unfold U91.f; simp only [implIn]; rfl)
def widB (i : tInstD) : Bool := bif decide (i.1 = 24) || decide (i.1 = 25) then decide (i.2.1 = 0) else bif decide (i.1 = 23) then decide (i.2.1 = 8) else wOk i.2.1
def immB (i : tInstD) (funcs : Int) : Bool := bif decide (i.1 = 21) then valB i.2.1 i.2.2.2.2.2.1 else bif decide (i.1 = 26) then inB 0 (funcs - 1) i.2.2.2.2.2.1 else decide (i.2.2.2.2.2.1 = 0)
def named (i : tInstD) : Nat := bif decide (i.1 = 26) then 0 else (opsB i).length
def zerosB (i : tInstD) : Bool := ([i.2.2.1, i.2.2.2.1, i.2.2.2.2.1].drop (named i)).all fun n => decide (n = 0)
def instB (count funcs : Int) (i : tInstD) : Bool :=
 inB 1 27 i.1 && decide (i.2.2.2.2.2.2.1.length ≤ 4) && (decide (i.2.2.2.2.2.2.1.length = 0) || decide (i.1 = 26)) && (opsB i).all (inB 0 (count - 1)) && zerosB i && widB i && immB i funcs
theorem implWid (k : Nat) (i : tInstD) : U90.f k i = some (one (widB i)) := by
 unfold U90.f widB
 simp only [implW, Option.bind_some]
 by_cases h : i.1 = 24
 ·simp [h]
 ·by_cases h2 : i.1 = 25
  ·simp [h2]
  ·simp only [dneg h, dneg h2, cond_false, Bool.or_self]
   cases decide (i.1 = 23) <;> rfl
theorem implImm (k : Nat) (i : tInstD) {funcs : Int} (h0 : 0 ≤ funcs) (h1 : funcs ≤ 9223372036854775807) : U93.f k i funcs = some (one (immB i funcs)) := by
 unfold U93.f immB
 simp only [implVal, implIn, Option.bind_some, wrap_id (show -9223372036854775808 ≤ funcs - 1 by omega) (show funcs - 1 ≤ 9223372036854775807 by omega)]
 cases decide (i.1 = 21) <;> cases decide (i.1 = 26) <;> rfl
def termB (count blocks : Int) (t : tTermD) : Bool :=
 bif decide (t.1 = 1) then inB 0 (count - 1) t.2.1 && decide (t.2.2.1 = 0) && decide (t.2.2.2.1 = 0) else
 bif decide (t.1 = 2) then decide (t.2.1 = 0) && inB 0 (blocks - 1) t.2.2.1 && decide (t.2.2.2.1 = 0) else
 bif decide (t.1 = 3) then inB 0 (count - 1) t.2.1 && inB 0 (blocks - 1) t.2.2.1 && inB 0 (blocks - 1) t.2.2.2.1 && !decide (t.2.2.1 = t.2.2.2.1) else
 decide (t.1 = 4) && decide (t.2.1 = 0) && decide (t.2.2.1 = 0) && decide (t.2.2.2.1 = 0)
theorem specTerm (k : Nat) (t : tTermD) {count blocks : Int} (h0 : 0 ≤ count) (h1 : count ≤ 9223372036854775807) (h2 : 0 ≤ blocks) (h3 : blocks ≤ 9223372036854775807) : U29.f k t count blocks = some (one (termB count blocks t)) := by
 unfold U29.f termB
 simp only [specIn, Option.bind_some, wrap_id (show -9223372036854775808 ≤ count - 1 by omega) (show count - 1 ≤ 9223372036854775807 by omega), wrap_id (show -9223372036854775808 ≤ blocks - 1 by omega) (show blocks - 1 ≤ 9223372036854775807 by omega)]
 cases decide (t.1 = 1)
 ·cases decide (t.1 = 2)
  ·cases decide (t.1 = 3)
   ·cases decide (t.1 = 4) <;> cases decide (t.2.1 = 0) <;> cases decide (t.2.2.1 = 0) <;> rfl
   ·cases inB 0 (count - 1) t.2.1 <;> cases inB 0 (blocks - 1) t.2.2.1 <;> cases inB 0 (blocks - 1) t.2.2.2.1 <;> rfl
  ·cases decide (t.2.1 = 0) <;> cases inB 0 (blocks - 1) t.2.2.1 <;> rfl
 ·cases inB 0 (count - 1) t.2.1 <;> cases decide (t.2.2.1 = 0) <;> rfl
theorem implTerm1 (k : Nat) (a : Int) {f : tFuncD} (h : f.2.2.1.length ≤ 1048576) : U98.f k a f = some (one (inB 0 ((f.2.2.1.length : Int) - 1) a)) := by
 unfold U98.f
 rw [implIn, wrap_id (by omega) (by omega)]; rfl
theorem implTerm (k : Nat) (t : tTermD) {f : tFuncD} (h : f.2.2.1.length ≤ 1048576) {count : Int} (h0 : 0 ≤ count) (h1 : count ≤ 9223372036854775807) : U99.f k f t count = some (one (termB count (f.2.2.1.length : Int) t)) := by
 unfold U99.f termB
 simp only [implIn, implTerm1 k _ h, Option.bind_some, wrap_id (show -9223372036854775808 ≤ count - 1 by omega) (show count - 1 ≤ 9223372036854775807 by omega)]
 generalize (f.2.2.1.length : Int) = blocks
 cases decide (t.1 = 1)
 ·cases decide (t.1 = 2)
  ·cases decide (t.1 = 3)
   ·cases decide (t.1 = 4) <;> cases decide (t.2.1 = 0) <;> cases decide (t.2.2.1 = 0) <;> rfl
   ·cases inB 0 (count - 1) t.2.1 <;> cases inB 0 (blocks - 1) t.2.2.1 <;> cases inB 0 (blocks - 1) t.2.2.2.1 <;> rfl
  ·cases decide (t.2.1 = 0) <;> cases inB 0 (blocks - 1) t.2.2.1 <;> rfl
 ·cases inB 0 (count - 1) t.2.1 <;> cases decide (t.2.2.1 = 0) <;> rfl
theorem any_not {α : Type} {p : α → Bool} : ∀ {l : List α}, (l.any fun x => !p x) = !l.all p
 | [] => rfl
 | x :: l => by simp only [List.any_cons, List.all_cons, any_not (l := l), Bool.not_and]
theorem implIn1 {l : List Int} (h : l.length ≤ 1048576) {count : Int} (h0 : 0 ≤ count) (h1 : count ≤ 9223372036854775807) : Ev (fun k => U86.f k l count) (one (!l.all (inB 0 (count - 1)))) := by
 rw [← any_not]
 exact index_ev (z := 0) (L := fun k b a => U85.l0 k l b a count) (q := fun k x => U84.f k x count) (by omega) (fun k b a => rfl) fun x _ => Ev.all fun k => by
  unfold U84.f
  rw [implIn, wrap_id (by omega) (by omega)]; rfl
theorem implZero {l : List Int} (h : l.length ≤ 1048576) : Ev (fun k => U89.f k l) (one (!l.all fun n => decide (n = 0))) := by
 rw [← any_not]
 exact index_ev (z := 0) (L := fun k b a => U88.l0 k l b a) (q := fun k x => U87.f k x) (by omega) (fun k b a => rfl) fun x _ => Ev.all fun k => rfl
theorem opsB_len {i : tInstD} (h : i.2.2.2.2.2.2.1.length ≤ 1048576) : (opsB i).length ≤ 1048576 := by
 unfold opsB
 cases inB 1 17 i.1 <;> cases decide (i.1 = 24) <;> cases inB 18 20 i.1 <;> cases decide (i.1 = 23) <;> cases decide (i.1 = 25) <;> cases decide (i.1 = 27) <;> cases decide (i.1 = 22) <;> cases decide (i.1 = 26) <;> simp only [cond_true, cond_false, List.length_cons, List.length_nil] <;> omega
theorem opsB_few {i : tInstD} (h : i.1 ≠ 26) : (opsB i).length ≤ 3 := by
 unfold opsB
 rw [dneg h]
 cases inB 1 17 i.1 <;> cases decide (i.1 = 24) <;> cases inB 18 20 i.1 <;> cases decide (i.1 = 23) <;> cases decide (i.1 = 25) <;> cases decide (i.1 = 27) <;> cases decide (i.1 = 22) <;> simp
theorem ev_and {g : Nat → Option BR} {b c : Bool} (h : Ev g (one c)) : Ev (fun k => bif !b then some (one false) else g k) (one (b && c)) := by
 cases b with
 | true => exact Ev.neg rfl h
 | false => exact Ev.pos rfl (Ev.cst rfl)
theorem ev_and' {g : Nat → Option BR} {b c : Bool} (h : Ev g (one c)) : Ev (fun k => bif b then some (one false) else g k) (one (!b && c)) := by
 cases b with
 | true => exact Ev.pos rfl (Ev.cst rfl)
 | false => exact Ev.neg rfl h
/-- What comes behind the operands, in the program. -/
theorem implTail {i : tInstD} {l : List Int} (hl : l.length ≤ 1048576) {funcs : Int} (h0 : 0 ≤ funcs) (h1 : funcs ≤ 9223372036854775807) : Ev (fun k => Option.bind (U89.f k l) fun r4 => bif r4.1.1.1 then some (((false, ()), ()), ()) else Option.bind (U90.f k i) fun r5 => bif r5.1.1.1 then Option.bind (U93.f k i funcs) fun r6 => some (((r6.1.1.1, ()), ()), ()) else some (((false, ()), ()), ())) (one ((l.all fun n => decide (n = 0)) && widB i && immB i funcs)) := by
 refine Ev.bind (implZero hl) ?_
 cases l.all fun n => decide (n = 0) with
 | false => exact Ev.cst rfl
 | true =>
  refine Ev.all fun k => ?_
  simp only [implWid, implImm k i h0 h1, Option.bind_some]
  cases widB i <;> cases immB i funcs <;> rfl
theorem implInst {i : tInstD} (hs : i.2.2.2.2.2.2.1.length ≤ 1048576) {count funcs : Int} (h0 : 0 ≤ count) (h1 : count ≤ 9223372036854775807) (h2 : 0 ≤ funcs) (h3 : funcs ≤ 9223372036854775807) : Ev (fun k => U94.f k i count funcs) (one (instB count funcs i)) := by
 have rest : i.1 = 26 ∨ i.1 ≠ 26 → Ev (fun k => Option.bind (U83.f k i) fun r2 => Option.bind (U86.f k r2.2.1 count) fun r3 => bif r3.1.1.1 then some (((false, ()), ()), ()) else
   bif decide (i.1 = 26) then (bif (decide ((0 : Int) ≤ 0)) && (decide ((0 : Int) ≤ ((List.length [i.2.2.1, i.2.2.2.1, i.2.2.2.2.1] : Nat) : Int))) then (Option.bind (U89.f k [i.2.2.1, i.2.2.2.1, i.2.2.2.2.1]) fun r4 => bif r4.1.1.1 then some (((false, ()), ()), ()) else Option.bind (U90.f k i) fun r5 => bif r5.1.1.1 then Option.bind (U93.f k i funcs) fun r6 => some (((r6.1.1.1, ()), ()), ()) else some (((false, ()), ()), ())) else none)
   else (bif (decide (0 ≤ ((List.length r2.2.1 : Nat) : Int))) && (decide (((List.length r2.2.1 : Nat) : Int) ≤ ((List.length [i.2.2.1, i.2.2.2.1, i.2.2.2.2.1] : Nat) : Int))) then (Option.bind (U89.f k (List.drop (Int.toNat ((List.length r2.2.1 : Nat) : Int)) [i.2.2.1, i.2.2.2.1, i.2.2.2.2.1])) fun r4 => bif r4.1.1.1 then some (((false, ()), ()), ()) else Option.bind (U90.f k i) fun r5 => bif r5.1.1.1 then Option.bind (U93.f k i funcs) fun r6 => some (((r6.1.1.1, ()), ()), ()) else some (((false, ()), ()), ())) else none))
   (one ((opsB i).all (inB 0 (count - 1)) && (zerosB i && widB i && immB i funcs))) := by
  intro hd
  refine Ev.bind (Ev.all fun k => implOps k hs) (Ev.bind (implIn1 (opsB_len hs) h0 h1) ?_)
  cases (opsB i).all (inB 0 (count - 1)) with
  | false => exact Ev.cst rfl
  | true =>
   rcases hd with hd | hd
   ·refine Ev.neg rfl (Ev.pos (dpos hd) (Ev.pos rfl ?_))
    have := implTail (i := i) (l := [i.2.2.1, i.2.2.2.1, i.2.2.2.2.1]) (by simp) h2 h3
    refine this.rw ?_
    unfold zerosB named
    rw [dpos hd]; rfl
   ·refine Ev.neg rfl (Ev.neg (dneg hd) (Ev.pos ?_ ?_))
    ·have := opsB_few hd
     show (decide (0 ≤ ((opsB i).length : Int)) && decide (((opsB i).length : Int) ≤ 3)) = true
     rw [dpos (by omega), dpos (by omega)]; rfl
    ·have := implTail (i := i) (l := List.drop (opsB i).length [i.2.2.1, i.2.2.2.1, i.2.2.2.2.1]) (by simp; omega) h2 h3
     refine this.rw ?_
     unfold zerosB named
     rw [dneg hd]; rfl
 have rest := rest (Decidable.em _)
 unfold U94.f
 refine Ev.bind (Ev.all fun k => implIn k _ _ _) ?_
 unfold instB
 generalize hz : ((opsB i).all (inB 0 (count - 1)) && (zerosB i && widB i && immB i funcs)) = zz at rest
 have hzz : ∀ b c d : Bool, (b && c && d && (opsB i).all (inB 0 (count - 1)) && zerosB i && widB i && immB i funcs) = (b && c && d && zz) := fun b c d => by rw [← hz]; simp only [Bool.and_assoc]
 rw [hzz]
 cases inB 1 27 i.1 with
 | false => exact Ev.pos rfl (Ev.cst rfl)
 | true =>
  refine Ev.neg rfl ?_
  by_cases h4 : 4 < ((i.2.2.2.2.2.2.1.length : Nat) : Int)
  ·refine Ev.pos (dpos h4) (Ev.cst ?_)
   rw [dneg (show ¬ i.2.2.2.2.2.2.1.length ≤ 4 by omega)]; rfl
  ·refine Ev.neg (dneg h4) ?_
   rw [dpos (show i.2.2.2.2.2.2.1.length ≤ 4 by omega)]
   by_cases h5 : 0 < ((i.2.2.2.2.2.2.1.length : Nat) : Int)
   ·refine Ev.pos (dpos h5) ?_
    rw [dneg (show ¬ i.2.2.2.2.2.2.1.length = 0 by omega)]
    by_cases h6 : i.1 = 26
    ·exact Ev.neg (by rw [dpos h6]; rfl) (rest.rw (by rw [dpos h6]; rfl))
    ·exact Ev.pos (by rw [dneg h6]; rfl) (Ev.cst (by rw [dneg h6]; rfl))
   ·refine Ev.neg (dneg h5) (rest.rw ?_)
    rw [dpos (show i.2.2.2.2.2.2.1.length = 0 by omega)]; rfl
theorem zeros_at {a b c : Int} : ∀ n : Nat, ([a, b, c].drop n).all (fun n => decide (n = 0)) = ((bif decide ((n : Int) < 1) then decide (a = 0) else true) && (bif decide ((n : Int) < 2) then decide (b = 0) else true) && (bif decide ((n : Int) < 3) then decide (c = 0) else true))
 | 0 => by simp [Bool.and_assoc]
 | 1 => by simp
 | 2 => by simp
 | n + 3 => by
  rw [dneg (show ¬ (((n + 3 : Nat) : Int) < 1) by omega), dneg (show ¬ (((n + 3 : Nat) : Int) < 2) by omega), dneg (show ¬ (((n + 3 : Nat) : Int) < 3) by omega)]
  simp
set_option synthInstance.maxHeartbeats 400000 in
set_option synthInstance.maxSize 100000 in
theorem specInst0 {i : tInstD} {ids : List Int} (hl : ids.length ≤ 1048576) {count funcs : Int} (h0 : 0 ≤ count) (h1 : count ≤ 9223372036854775807) (h2 : 0 ≤ funcs) (h3 : funcs ≤ 9223372036854775807) (hn : named i = bif decide (i.1 = 26) then 0 else ids.length) :
  Ev (fun k => U28.l0 k count funcs 0 i ids) (one (ids.all (inB 0 (count - 1)) && (decide (i.2.2.2.2.2.2.1.length ≤ 4) && zerosB i && widB i && immB i funcs))) := by
 refine each_ev (z := 0) (L := fun k a => U28.l0 k count funcs a i ids) (V := fun m => one (m.all (inB 0 (count - 1)) && (decide (i.2.2.2.2.2.2.1.length ≤ 4) && zerosB i && widB i && immB i funcs))) (q := fun k x g => Option.bind (U21.f k x 0 (IntKind.wrap .i64 (count - 1))) fun r1 => bif !r1.1.1.1 then some (((false, ()), ()), ()) else g k) (by omega) (fun k a => rfl) ?_ ?_
 ·refine Ev.all fun k => ?_
  have hz : zerosB i = ((bif decide (((named i : Nat) : Int) < 1) then decide (i.2.2.1 = 0) else true) && (bif decide (((named i : Nat) : Int) < 2) then decide (i.2.2.2.1 = 0) else true) && (bif decide (((named i : Nat) : Int) < 3) then decide (i.2.2.2.2.1 = 0) else true)) := zeros_at _
  rw [hz, hn]
  simp only [specVal, specIn, specW, Option.bind_some, wrap_id (show -9223372036854775808 ≤ funcs - 1 by omega) (show funcs - 1 ≤ 9223372036854775807 by omega), List.all_nil, Bool.true_and]
  have h4 : decide (i.2.2.2.2.2.2.1.length ≤ 4) = !decide (4 < ((List.length i.2.2.2.2.2.2.1 : Nat) : Int)) := by
   by_cases h : 4 < ((List.length i.2.2.2.2.2.2.1 : Nat) : Int)
   ·rw [dpos h, dneg (by omega)]; rfl
   ·rw [dneg h, dpos (by omega)]; rfl
  rw [h4]
  unfold widB immB
  have fin : ∀ (o24 o25 o26 o21 o23 w0 w8 wk : Bool), decide (i.1 = 24) = o24 → decide (i.1 = 25) = o25 → decide (i.1 = 26) = o26 → decide (i.1 = 21) = o21 → decide (i.1 = 23) = o23 → decide (i.2.1 = 0) = w0 → decide (i.2.1 = 8) = w8 → wOk i.2.1 = wk →
    (o24 = true ∧ o25 = false ∧ o26 = false ∧ o21 = false ∧ o23 = false ∨ o24 = false ∧ o25 = true ∧ o26 = false ∧ o21 = false ∧ o23 = false ∨ o24 = false ∧ o25 = false ∧ o26 = true ∧ o21 = false ∧ o23 = false ∨ o24 = false ∧ o25 = false ∧ o26 = false ∧ o21 = true ∧ o23 = false ∨ o24 = false ∧ o25 = false ∧ o26 = false ∧ o21 = false ∧ o23 = true ∨ o24 = false ∧ o25 = false ∧ o26 = false ∧ o21 = false ∧ o23 = false) ∧
    (w0 = true ∧ w8 = false ∧ wk = false ∨ w0 = false ∧ w8 = true ∧ wk = true ∨ w0 = false ∧ w8 = false) := by
   rintro _ _ _ _ _ _ _ _ rfl rfl rfl rfl rfl rfl rfl rfl
   simp only [decide_eq_true_eq, decide_eq_false_iff_not]
   refine ⟨by omega, ?_⟩
   by_cases h : i.2.1 = 0
   ·exact .inl ⟨h, by omega, by rw [h]; rfl⟩
   ·by_cases h' : i.2.1 = 8
    ·exact .inr (.inl ⟨h, h', by rw [h']; rfl⟩)
    ·exact .inr (.inr ⟨h, h'⟩)
  have fin := fin _ _ _ _ _ _ _ _ rfl rfl rfl rfl rfl rfl rfl rfl
  clear hz h4 hn
  generalize decide (i.1 = 24) = o24 at fin ⊢
  generalize decide (i.1 = 25) = o25 at fin ⊢
  generalize decide (i.1 = 26) = o26 at fin ⊢
  generalize decide (i.1 = 21) = o21 at fin ⊢
  generalize decide (i.1 = 23) = o23 at fin ⊢
  generalize decide (i.2.1 = 0) = w0 at fin ⊢
  generalize decide (i.2.1 = 8) = w8 at fin ⊢
  generalize wOk i.2.1 = wk at fin ⊢
  have z1 : decide (((0 : Nat) : Int) < 1) = true := rfl
  have z2 : decide (((0 : Nat) : Int) < 2) = true := rfl
  have z3 : decide (((0 : Nat) : Int) < 3) = true := rfl
  have y1 : decide ((0 : Int) < 1) = true := rfl
  have y2 : decide ((0 : Int) < 2) = true := rfl
  have y3 : decide ((0 : Int) < 3) = true := rfl
  obtain ⟨f1, f2⟩ := fin
  rcases f1 with ⟨rfl, rfl, rfl, rfl, rfl⟩ | ⟨rfl, rfl, rfl, rfl, rfl⟩ | ⟨rfl, rfl, rfl, rfl, rfl⟩ | ⟨rfl, rfl, rfl, rfl, rfl⟩ | ⟨rfl, rfl, rfl, rfl, rfl⟩ | ⟨rfl, rfl, rfl, rfl, rfl⟩ <;> rcases f2 with ⟨rfl, rfl, rfl⟩ | ⟨rfl, rfl, rfl⟩ | ⟨rfl, rfl⟩ <;>
   simp only [cond_true, cond_false, z1, z2, z3, y1, y2, y3, beq_self_eq_true, Bool.not_true, Bool.not_false, Bool.or_true, Bool.or_false, Bool.and_false, Bool.false_and, Bool.true_and, Bool.and_true, show (true == false) = false from rfl, show (false == true) = false from rfl, Int.reduceLT, decide_true, decide_false] <;>
   generalize decide (4 < ((List.length i.2.2.2.2.2.2.1 : Nat) : Int)) = l4 <;>
   generalize decide (((ids.length : Nat) : Int) < 1) = n1 <;> generalize decide (((ids.length : Nat) : Int) < 2) = n2 <;> generalize decide (((ids.length : Nat) : Int) < 3) = n3 <;>
   generalize decide (i.2.2.1 = 0) = a <;> generalize decide (i.2.2.2.1 = 0) = b <;> generalize decide (i.2.2.2.2.1 = 0) = c <;> generalize decide (i.2.2.2.2.2.1 = 0) = m <;>
   generalize valB i.2.1 i.2.2.2.2.2.1 = va <;> generalize inB 0 (funcs - 1) i.2.2.2.2.2.1 = vb <;> revert l4 n1 n2 n3 a b c m va vb <;> (try revert wk) <;> decide +kernel
 ·intro x m g hx hg
  refine Ev.bind (Ev.all fun k => specIn k _ _ _) ?_
  rw [wrap_id (by omega) (by omega), List.all_cons, Bool.and_assoc]
  exact ev_and hg
theorem specInst {i : tInstD} (hs : i.2.2.2.2.2.2.1.length ≤ 1048576) {count funcs : Int} (h0 : 0 ≤ count) (h1 : count ≤ 9223372036854775807) (h2 : 0 ≤ funcs) (h3 : funcs ≤ 9223372036854775807) : Ev (fun k => U28.f k i count funcs) (one (instB count funcs i)) := by
 have hn : named i = bif decide (i.1 = 26) then 0 else (opsB i).length := rfl
 have l0 := specInst0 (opsB_len hs) h0 h1 h2 h3 hn
 unfold U28.f
 refine Ev.bind (Ev.all fun k => specIn k _ _ _) ?_
 unfold instB
 generalize hz : ((opsB i).all (inB 0 (count - 1))) = za at l0 ⊢
 cases inB 1 27 i.1 with
 | false => exact Ev.pos rfl (Ev.cst rfl)
 | true =>
  refine Ev.neg rfl ?_
  have done : ∀ b : Bool, b = true → Ev (fun k => Option.bind (U25.f k i) fun r3 => U28.l0 k count funcs 0 i r3.2.1) (one (true && decide (i.2.2.2.2.2.2.1.length ≤ 4) && b && za && zerosB i && widB i && immB i funcs)) := by
   rintro _ rfl
   refine (Ev.bind (f := fun k r3 => U28.l0 k count funcs 0 i r3.2.1) (Ev.all fun k => specOps k hs) l0).rw ?_
   generalize decide (i.2.2.2.2.2.2.1.length ≤ 4) = z4
   generalize zerosB i = z5
   generalize widB i = z6
   generalize immB i funcs = z7
   clear l0 hz
   revert za z4 z5 z6 z7
   decide
  by_cases h6 : i.1 = 26
  ·exact Ev.neg (by rw [dpos h6]; rfl) (done _ (by rw [dpos h6, Bool.or_true]))
  ·refine Ev.pos (by rw [dneg h6]; rfl) ?_
   by_cases h5 : 0 < ((i.2.2.2.2.2.2.1.length : Nat) : Int)
   ·refine Ev.pos (dpos h5) (Ev.cst ?_)
    rw [dneg (show ¬ i.2.2.2.2.2.2.1.length = 0 by omega), dneg h6]
    simp
   ·exact Ev.neg (dneg h5) (done _ (by rw [dpos (show i.2.2.2.2.2.2.1.length = 0 by omega), Bool.true_or]))
def sumB {α : Type} (w : α → Int) : List α → Int
 | [] => 0
 | x :: l => w x + sumB w l
theorem sumB_le {α : Type} {w : α → Int} {m : Int} : ∀ {l : List α}, (∀ x ∈ l, 0 ≤ w x ∧ w x ≤ m) → 0 ≤ sumB w l ∧ sumB w l ≤ l.length * m
 | [], _ => by simp [sumB]
 | x :: l, h => by
  obtain ⟨a, b⟩ := sumB_le (l := l) fun y hy => h y (by simp [hy])
  obtain ⟨c, d⟩ := h x (by simp)
  simp only [sumB, List.length_cons]
  have : ((l.length + 1 : Nat) : Int) * m = l.length * m + m := by
   rw [Int.natCast_add, Int.add_mul]; simp
  omega
theorem acc_ev {α : Type} {l : List α} {w : α → Int} {L : Nat → Int → Int → Option IR} (hw : ∀ x ∈ l, 0 ≤ w x ∧ w x ≤ 2097152) (hlen : l.length ≤ 1048576)
  (h1 : ∀ k a (i : Nat) (h : i < l.length), L (k + 1) a (i : Int) = L k (IntKind.wrap .i64 (a + IntKind.wrap .i64 (w l[i]))) ((i + 1 : Nat) : Int)) (h2 : ∀ k a, L (k + 1) a (l.length : Int) = some (one a)) {a : Int} (ha : 0 ≤ a) (ha' : a ≤ 1048576) : Ev (fun k => L k a 0) (one (a + sumB w l)) := by
 have key : ∀ (d i : Nat) (a : Int), i + d = l.length → 0 ≤ a → a ≤ 1048576 + i * 2097152 → Ev (fun k => L k a (i : Int)) (one (a + sumB w (l.drop i))) := by
  intro d
  induction d with
  | zero =>
   intro i a hi h0 h3
   have hi' : i = l.length := by omega
   subst hi'
   rw [List.drop_length]
   exact Ev.step (g' := fun _ => some (one a)) (Ev.cst (by simp [sumB])) fun k => h2 k a
  | succ d ih =>
   intro i a hi h0 h3
   have hi' : i < l.length := by omega
   obtain ⟨w0, w1⟩ := hw l[i] (List.getElem_mem hi')
   have := ih (i + 1) (a + w l[i]) (by omega) (by omega) (by omega)
   refine (Ev.step this fun k => ?_).rw ?_
   ·show L (k + 1) a (i : Int) = _
    rw [h1 k a i hi', wrap_id (x := w l[i]) (by omega) (by omega), wrap_id (by omega) (by omega)]
   ·rw [List.drop_eq_getElem_cons hi']
    simp only [sumB]
    rw [Int.add_assoc]
 have := key l.length 0 a (by omega) ha (by omega)
 simpa using this
def cntB (f : tFuncD) : Int := (f.1.length : Int) + sumB (fun x : tBlockD => ((x.1.length : Nat) : Int) + ((x.2.1.length : Nat) : Int)) f.2.2.1
theorem blk_small {f : tFuncD} (h : Small tFunc f) : ∀ x ∈ f.2.2.1, x.1.length ≤ 1048576 ∧ x.2.1.length ≤ 1048576 := fun x hx => by
 have := h.2.2.1.2 x hx
 exact ⟨this.1.1, this.2.1.1⟩
theorem cntB_le {f : tFuncD} (h : Small tFunc f) : 0 ≤ cntB f ∧ cntB f ≤ 1048576 + 1048576 * 2097152 := by
 have h1 : f.1.length ≤ 1048576 := h.1.1
 have h2 : f.2.2.1.length ≤ 1048576 := h.2.2.1.1
 have := sumB_le (w := fun x : tBlockD => ((x.1.length : Nat) : Int) + ((x.2.1.length : Nat) : Int)) (m := 2097152) (l := f.2.2.1) fun x hx => by
  have := blk_small h x hx
  omega
 unfold cntB
 omega
theorem specCount {f : tFuncD} (h : Small tFunc f) : Ev (fun k => U22.f k f) (one (cntB f)) := by
 have h1 : f.1.length ≤ 1048576 := h.1.1
 exact acc_ev (L := fun k a i => U22.l0 k a i f) (l := f.2.2.1) (w := fun x : tBlockD => ((x.1.length : Nat) : Int) + ((x.2.1.length : Nat) : Int)) (fun x hx => by have := blk_small h x hx; omega) h.2.2.1.1 (fun k a i hi => by
   show U22.l0_ k (U22.l0 k) a i f = _
   unfold U22.l0_
   have hlen : f.2.2.1.length ≤ 1048576 := h.2.2.1.1
   simp only [head_in hi, head_0, Bool.and_self, cond_true, get_in hi, wrap_nat (show i < 9223372036854775807 by omega)]) (fun k a => by
   show U22.l0_ k (U22.l0 k) a _ f = _
   unfold U22.l0_
   simp only [head_end, cond_false]) (by omega) (by omega)
theorem implCount {f : tFuncD} (h : Small tFunc f) : Ev (fun k => U74.f k f) (one (cntB f)) := by
 have h1 : f.1.length ≤ 1048576 := h.1.1
 exact acc_ev (L := fun k a i => U74.l0 k a f.2.2.1 ((List.length f.2.2.1 : Nat) : Int) i) (l := f.2.2.1) (w := fun x : tBlockD => ((x.1.length : Nat) : Int) + ((x.2.1.length : Nat) : Int)) (fun x hx => by have := blk_small h x hx; omega) h.2.2.1.1 (fun k a i hi => by
   show U74.l0_ k (U74.l0 k) a f.2.2.1 _ i = _
   unfold U74.l0_
   have hlen : f.2.2.1.length ≤ 1048576 := h.2.2.1.1
   simp only [head_in hi, head_0, Bool.and_self, cond_true, get_in hi, wrap_nat (show i < 9223372036854775807 by omega)]) (fun k a => by
   show U74.l0_ k (U74.l0 k) a f.2.2.1 _ _ = _
   unfold U74.l0_
   simp only [head_end, cond_false]) (by omega) (by omega)
def phiB (count : Int) (p : tPhiD) : Bool := wOk p.1 && decide (p.2.1.length ≤ 10) && p.2.1.all (inB 0 (count - 1))
def blockB (count funcs blocks : Int) (b : tBlockD) : Bool := b.1.all (phiB count) && b.2.1.all (instB count funcs) && termB count blocks b.2.2
def funcB (funcs : Int) (f : tFuncD) : Bool :=
 decide (f.1.length ≤ 4) && wOk f.2.1 && inB 1 10 (f.2.2.1.length : Int) && decide (cntB f ≤ 60) && f.1.all wOk && f.2.2.1.all (blockB (cntB f) funcs (f.2.2.1.length : Int))
section
variable {f : tFuncD} {funcs count blocks : Int}
theorem specFunc4 {x : tBlockD} (hx : Small tBlock x) (h0 : 0 ≤ count) (h1 : count ≤ 9223372036854775807) (h2 : 0 ≤ funcs) (h3 : funcs ≤ 9223372036854775807) (h4 : 0 ≤ blocks) (h5 : blocks ≤ 9223372036854775807) {j : Nat} (hj : j < 9223372036854775807) {r : Bool}
  (hr : Ev (fun k => U30.l1 k funcs count blocks ((j + 1 : Nat) : Int) f) (one r)) : Ev (fun k => U30.l4 k funcs count blocks j 0 f x) (one (x.2.1.all (instB count funcs) && (termB count blocks x.2.2 && r))) := by
 have hs := hx.2.1
 refine each_ev (z := tInstZ) (l := x.2.1) (L := fun k a => U30.l4 k funcs count blocks j a f x) (V := fun m => one (m.all (instB count funcs) && (termB count blocks x.2.2 && r))) (q := fun k y g => Option.bind (U28.f k y count funcs) fun r1 => bif !r1.1.1.1 then some (((false, ()), ()), ()) else g k)
  (by have := hs.1; show List.length (α := tInstD) x.2.1 ≤ _; have : List.length (α := tInstD) x.2.1 ≤ 1048576 := this; omega) (fun k a => rfl) ?_ ?_
 ·refine Ev.bind (Ev.all fun k => specTerm k x.2.2 h0 h1 h4 h5) ?_
  rw [wrap_nat hj, List.all_nil, Bool.true_and]
  exact ev_and hr
 ·intro y m g hy hg
  refine Ev.bind (specInst (i := y) ((hs.2 y hy).2.2.2.2.2.2.1.1) h0 h1 h2 h3) ?_
  rw [List.all_cons, Bool.and_assoc]
  exact ev_and hg
theorem specFunc2 {x : tBlockD} (hx : Small tBlock x) (h0 : 0 ≤ count) (h1 : count ≤ 9223372036854775807) (h2 : 0 ≤ funcs) (h3 : funcs ≤ 9223372036854775807) (h4 : 0 ≤ blocks) (h5 : blocks ≤ 9223372036854775807) {j : Nat} (hj : j < 9223372036854775807) {r : Bool}
  (hr : Ev (fun k => U30.l1 k funcs count blocks ((j + 1 : Nat) : Int) f) (one r)) : Ev (fun k => U30.l2 k funcs count blocks j 0 f x) (one (blockB count funcs blocks x && r)) := by
 have hs := hx.1
 have hlen : x.1.length ≤ 1048576 := hs.1
 have tail := specFunc4 (f := f) hx h0 h1 h2 h3 h4 h5 hj hr
 have key := Ev.down (G := fun i k => U30.l2 k funcs count blocks j (i : Int) f x) (V := fun i => one ((x.1.drop i).all (phiB count) && (x.2.1.all (instB count funcs) && (termB count blocks x.2.2 && r)))) x.1.length ?_ ?_ 0 (Nat.zero_le _)
 ·refine key.rw ?_
  unfold blockB
  rw [List.drop_zero, Bool.and_assoc, Bool.and_assoc]
 ·rw [List.drop_length]
  refine tail.step fun k => ?_
  show U30.l2_ k (U30.l0 k) (U30.l1 k) (U30.l2 k) (U30.l3 k) (U30.l4 k) funcs count blocks j _ f x = _
  unfold U30.l2_
  simp only [head_end, cond_false]
 ·intro i hi ih
  have hp := hs.2 x.1[i] (List.getElem_mem hi)
  have hpl : x.1[i].2.1.length ≤ 1048576 := hp.2.1.1
  -- the inner loop
  have inner := Ev.down (G := fun q k => U30.l3 k funcs count blocks j i (q : Int) f x) (V := fun q => one ((x.1[i].2.1.drop q).all (inB 0 (count - 1)) && ((x.1.drop (i + 1)).all (phiB count) && (x.2.1.all (instB count funcs) && (termB count blocks x.2.2 && r))))) x.1[i].2.1.length ?_ ?_ 0 (Nat.zero_le _)
  ·rw [List.drop_eq_getElem_cons hi, List.all_cons]
   refine Ev.step (g' := fun k => Option.bind (U23.f k x.1[i].1) fun r1 => bif !r1.1.1.1 then some (((false, ()), ()), ()) else bif decide (10 < ((List.length x.1[i].2.1 : Nat) : Int)) then some (((false, ()), ()), ()) else U30.l3 k funcs count blocks j i 0 f x) ?_ fun k => ?_
   ·refine Ev.bind (Ev.all fun k => specW k _) ?_
    have e1 : ∀ R, (phiB count x.1[i] && R) = (wOk x.1[i].1 && (!decide (10 < ((List.length x.1[i].2.1 : Nat) : Int)) && (x.1[i].2.1.all (inB 0 (count - 1)) && R))) := fun R => by
     have e : decide (x.1[i].2.1.length ≤ 10) = !decide (10 < ((List.length x.1[i].2.1 : Nat) : Int)) := by
      by_cases h : 10 < ((List.length x.1[i].2.1 : Nat) : Int)
      ·rw [dpos h, dneg (by omega)]; rfl
      ·rw [dneg h, dpos (by omega)]; rfl
     unfold phiB
     rw [e, Bool.and_assoc, Bool.and_assoc]
    rw [Bool.and_assoc, e1]
    refine ev_and ?_
    exact ev_and' inner
   ·show U30.l2_ k (U30.l0 k) (U30.l1 k) (U30.l2 k) (U30.l3 k) (U30.l4 k) funcs count blocks j _ f x = _
    unfold U30.l2_
    simp only [head_in hi, head_0, Bool.and_self, cond_true, get_in hi]
  ·rw [List.drop_length, List.all_nil, Bool.true_and]
   refine ih.step fun k => ?_
   show U30.l3_ k (U30.l0 k) (U30.l1 k) (U30.l2 k) (U30.l3 k) (U30.l4 k) funcs count blocks j _ _ f x = _
   unfold U30.l3_
   simp only [head_in hi, head_0, Bool.and_self, cond_true, get_in hi, head_end, cond_false, wrap_nat (show i < 9223372036854775807 by omega)]
  ·intro q hq ihq
   rw [List.drop_eq_getElem_cons hq, List.all_cons, Bool.and_assoc]
   refine Ev.step (g' := fun k => Option.bind (U21.f k x.1[i].2.1[q] 0 (IntKind.wrap .i64 (count - 1))) fun r1 => bif !r1.1.1.1 then some (((false, ()), ()), ()) else U30.l3 k funcs count blocks j i ((q + 1 : Nat) : Int) f x) ?_ fun k => ?_
   ·rw [wrap_id (by omega) (by omega)]
    exact Ev.bind (Ev.all fun k => specIn k _ _ _) (ev_and ihq)
   ·show U30.l3_ k (U30.l0 k) (U30.l1 k) (U30.l2 k) (U30.l3 k) (U30.l4 k) funcs count blocks j _ _ f x = _
    unfold U30.l3_
    simp only [head_in hi, head_0, Bool.and_self, cond_true, get_in hi, head_in hq, get_in hq, wrap_nat (show q < 9223372036854775807 by omega)]
theorem specFunc1 (hf : Small tFunc f) (h0 : 0 ≤ count) (h1 : count ≤ 9223372036854775807) (h2 : 0 ≤ funcs) (h3 : funcs ≤ 9223372036854775807) (h4 : 0 ≤ blocks) (h5 : blocks ≤ 9223372036854775807) : Ev (fun k => U30.l1 k funcs count blocks 0 f) (one (f.2.2.1.all (blockB count funcs blocks))) := by
 have hs := hf.2.2.1
 have hlen : f.2.2.1.length ≤ 1048576 := hs.1
 have key := Ev.down (G := fun i k => U30.l1 k funcs count blocks (i : Int) f) (V := fun i => one ((f.2.2.1.drop i).all (blockB count funcs blocks))) f.2.2.1.length ?_ ?_ 0 (Nat.zero_le _)
 ·exact key
 ·rw [List.drop_length]
  refine Ev.step (g' := fun _ => some (one true)) (Ev.cst rfl) fun k => ?_
  show U30.l1_ k (U30.l0 k) (U30.l1 k) (U30.l2 k) (U30.l3 k) (U30.l4 k) funcs count blocks _ f = _
  unfold U30.l1_
  simp only [head_end, cond_false]
 ·intro i hi ih
  rw [List.drop_eq_getElem_cons hi, List.all_cons]
  refine (specFunc2 (f := f) (x := f.2.2.1[i]) (hs.2 _ (List.getElem_mem hi)) h0 h1 h2 h3 h4 h5 (show i < 9223372036854775807 by omega) ih).step fun k => ?_
  show U30.l1_ k (U30.l0 k) (U30.l1 k) (U30.l2 k) (U30.l3 k) (U30.l4 k) funcs count blocks _ f = _
  unfold U30.l1_
  simp only [head_in hi, head_0, Bool.and_self, cond_true, get_in hi]
theorem le_not {a b : Int} : decide (a ≤ b) = !decide (b < a) := by
 by_cases h : b < a
 ·rw [dpos h, dneg (by omega)]; rfl
 ·rw [dneg h, dpos (by omega)]; rfl
theorem len_not {n m : Nat} : decide (n ≤ m) = !decide ((m : Int) < (n : Int)) := by
 by_cases h : (m : Int) < (n : Int)
 ·rw [dpos h, dneg (by omega)]; rfl
 ·rw [dneg h, dpos (by omega)]; rfl
theorem specFunc (hf : Small tFunc f) (h2 : 0 ≤ funcs) (h3 : funcs ≤ 9223372036854775807) : Ev (fun k => U30.f k f funcs) (one (funcB funcs f)) := by
 have hs := hf.2.2.1
 have hlen : f.2.2.1.length ≤ 1048576 := hs.1
 have hpl : f.1.length ≤ 1048576 := hf.1.1
 obtain ⟨c0, c1⟩ := cntB_le hf
 unfold U30.f funcB
 simp only [Bool.and_assoc]
 refine Ev.bind (specCount hf) ?_
 rw [len_not]
 refine ev_and' (Ev.bind (Ev.all fun k => specW k _) (ev_and (Ev.bind (Ev.all fun k => specIn k _ _ _) (ev_and ?_))))
 rw [le_not]
 refine ev_and' ?_
 exact each_ev (z := 0) (l := f.1) (L := fun k a => U30.l0 k funcs (cntB f) (f.2.2.1.length : Int) a f) (V := fun m => one (m.all wOk && f.2.2.1.all (blockB (cntB f) funcs (f.2.2.1.length : Int)))) (q := fun k y g => Option.bind (U23.f k y) fun r1 => bif !r1.1.1.1 then some (((false, ()), ()), ()) else g k)
  (by omega) (fun k a => rfl) (specFunc1 hf c0 (by omega) h2 h3 (by omega) (by omega)) fun y m g hy hg => by
   refine Ev.bind (Ev.all fun k => specW k _) ?_
   rw [List.all_cons, Bool.and_assoc]
   exact ev_and hg
end
theorem implWs {l : List Int} (h : l.length ≤ 1048576) : Ev (fun k => U73.f k l) (one (!l.all wOk)) := by
 rw [← any_not]
 exact index_ev (z := 0) (L := fun k b a => U72.l0 k l b a) (q := fun k x => U71.f k x) (by omega) (fun k b a => rfl) fun x _ => Ev.all fun k => by
  unfold U71.f
  rw [implW]; rfl
theorem implIds {l : List Int} (h : l.length ≤ 1048576) {count : Int} (h0 : 0 ≤ count) (h1 : count ≤ 9223372036854775807) : Ev (fun k => U77.f k l count) (one (!l.all (inB 0 (count - 1)))) := by
 rw [← any_not]
 exact index_ev (z := 0) (L := fun k b a => U76.l0 k l b a count) (q := fun k x => U75.f k x count) (by omega) (fun k b a => rfl) fun x _ => Ev.all fun k => by
  unfold U75.f
  rw [implIn, wrap_id (by omega) (by omega)]; rfl
theorem ev_nt {g : Nat → Option BR} {b c : Bool} (h : Ev g (one (!c))) : Ev (fun k => bif !b then some (one true) else g k) (one (!(b && c))) := by
 cases b with
 | true => exact Ev.neg rfl h
 | false => exact Ev.pos rfl (Ev.cst rfl)
theorem ev_nt' {g : Nat → Option BR} {b c : Bool} (h : Ev g (one (!c))) : Ev (fun k => bif b then some (one true) else g k) (one (!(!b && c))) := by
 cases b with
 | true => exact Ev.pos rfl (Ev.cst rfl)
 | false => exact Ev.neg rfl h
theorem implPhi {p : tPhiD} (hp : Small tPhi p) {count : Int} (h0 : 0 ≤ count) (h1 : count ≤ 9223372036854775807) : Ev (fun k => U78.f k p count) (one (!phiB count p)) := by
 have hl : p.2.1.length ≤ 1048576 := hp.2.1.1
 unfold U78.f phiB
 rw [Bool.and_assoc, len_not]
 exact Ev.bind (Ev.all fun k => implW k _) (ev_nt (ev_nt' (Ev.bind (implIds hl h0 h1) (Ev.cst rfl))))
theorem implPhis {l : List tPhiD} (hs : Small (.list tPhi) l) {count : Int} (h0 : 0 ≤ count) (h1 : count ≤ 9223372036854775807) : Ev (fun k => U80.f k l count) (one (!l.all (phiB count))) := by
 have hl : l.length ≤ 1048576 := hs.1
 rw [← any_not]
 exact index_ev (z := tPhiZ) (L := fun k b a => U79.l0 k l b a count) (q := fun k x => U78.f k x count) (by omega) (fun k b a => rfl) fun x hx => implPhi (hs.2 x hx) h0 h1
theorem implInsts {l : List tInstD} (hs : Small (.list tInst) l) {count funcs : Int} (h0 : 0 ≤ count) (h1 : count ≤ 9223372036854775807) (h2 : 0 ≤ funcs) (h3 : funcs ≤ 9223372036854775807) : Ev (fun k => U97.f k l count funcs) (one (!l.all (instB count funcs))) := by
 have hl : l.length ≤ 1048576 := hs.1
 rw [← any_not]
 refine index_ev (z := tInstZ) (L := fun k b a => U96.l0 k l b a count funcs) (q := fun k x => U95.f k x count funcs) (by omega) (fun k b a => rfl) fun x hx => ?_
 exact Ev.bind (implInst (i := x) ((hs.2 x hx).2.2.2.2.2.2.1.1) h0 h1 h2 h3) (Ev.cst rfl)
theorem implFunc {f : tFuncD} (hf : Small tFunc f) {funcs : Int} (h2 : 0 ≤ funcs) (h3 : funcs ≤ 9223372036854775807) : Ev (fun k => U100.f k f funcs) (one (funcB funcs f)) := by
 have hs := hf.2.2.1
 have hlen : f.2.2.1.length ≤ 1048576 := hs.1
 have hpl : f.1.length ≤ 1048576 := hf.1.1
 obtain ⟨c0, c1⟩ := cntB_le hf
 have c1 : cntB f ≤ 9223372036854775807 := by omega
 have hord : funcB funcs f = (!decide (((4 : Nat) : Int) < ((f.1.length : Nat) : Int)) && (wOk f.2.1 && (inB 1 10 (f.2.2.1.length : Int) && (f.1.all wOk && (!decide (60 < cntB f) && f.2.2.1.all (blockB (cntB f) funcs (f.2.2.1.length : Int))))))) := by
  unfold funcB
  rw [len_not, le_not]
  generalize decide (((4 : Nat) : Int) < ((f.1.length : Nat) : Int)) = a
  generalize decide (60 < cntB f) = b
  generalize f.1.all wOk = c
  cases a <;> cases b <;> cases c <;> simp [Bool.and_assoc]
 rw [hord]
 unfold U100.f
 refine ev_and' (Ev.bind (Ev.all fun k => implW k _) (ev_and (Ev.bind (Ev.all fun k => implIn k _ _ _) (ev_and (Ev.bind (implWs hpl) ?_)))))
 have inner : Ev (fun k => Option.bind (U74.f k f) fun r4 => bif decide (60 < r4.1.1.1) then some (((false, ()), ()), ()) else U100.l0 k f.2.2.1 ((List.length f.2.2.1 : Nat) : Int) 0 f funcs r4.1.1.1) (one (!decide (60 < cntB f) && f.2.2.1.all (blockB (cntB f) funcs (f.2.2.1.length : Int)))) := by
  refine Ev.bind (implCount hf) (ev_and' ?_)
  refine each_ev (z := tBlockZ) (l := f.2.2.1) (L := fun k a => U100.l0 k f.2.2.1 ((List.length f.2.2.1 : Nat) : Int) a f funcs (cntB f)) (V := fun m => one (m.all (blockB (cntB f) funcs (f.2.2.1.length : Int))))
   (q := fun k x g => Option.bind (U80.f k x.1 (cntB f)) fun r1 => bif r1.1.1.1 then some (((false, ()), ()), ()) else Option.bind (U97.f k x.2.1 (cntB f) funcs) fun r2 => bif r2.1.1.1 then some (((false, ()), ()), ()) else Option.bind (U99.f k f x.2.2 (cntB f)) fun r3 => bif !r3.1.1.1 then some (((false, ()), ()), ()) else g k)
   (by omega) (fun k a => rfl) (Ev.cst rfl) fun x m g hx hg => ?_
  have hx' := hs.2 x hx
  have hb : (blockB (cntB f) funcs (f.2.2.1.length : Int) x && m.all (blockB (cntB f) funcs (f.2.2.1.length : Int))) = (!(!x.1.all (phiB (cntB f))) && (!(!x.2.1.all (instB (cntB f) funcs)) && (termB (cntB f) (f.2.2.1.length : Int) x.2.2 && m.all (blockB (cntB f) funcs (f.2.2.1.length : Int))))) := by
   have e : blockB (cntB f) funcs (f.2.2.1.length : Int) x = (x.1.all (phiB (cntB f)) && x.2.1.all (instB (cntB f) funcs) && termB (cntB f) (f.2.2.1.length : Int) x.2.2) := rfl
   rw [e, Bool.not_not, Bool.not_not, Bool.and_assoc, Bool.and_assoc]
  rw [List.all_cons, hb]
  exact Ev.bind (implPhis hx'.1 c0 c1) (ev_and' (Ev.bind (implInsts hx'.2.1 c0 c1 h2 h3) (ev_and' (Ev.bind (Ev.all fun k => implTerm k x.2.2 hlen c0 c1) (ev_and hg)))))
 have := ev_and' (b := !f.1.all wOk) inner
 rw [Bool.not_not] at this
 exact this
structure Fm (funcs : Int) (f : tFuncD) : Prop where
 p4 : f.1.length ≤ 4
 b1 : 1 ≤ f.2.2.1.length
 b10 : f.2.2.1.length ≤ 10
 cnt : cntB f ≤ 60
 pw : ∀ w ∈ f.1, wOk w = true
 ph : ∀ x ∈ f.2.2.1, ∀ p ∈ x.1, phiB (cntB f) p = true
 ins : ∀ x ∈ f.2.2.1, ∀ i ∈ x.2.1, instB (cntB f) funcs i = true
 tm : ∀ x ∈ f.2.2.1, termB (cntB f) (f.2.2.1.length : Int) x.2.2 = true
theorem inB_iff {lo hi x : Int} : inB lo hi x = true ↔ lo ≤ x ∧ x ≤ hi := by simp [inB]
theorem Fm.of {funcs : Int} {f : tFuncD} (h : funcB funcs f = true) : Fm funcs f := by
 simp only [funcB, Bool.and_eq_true, decide_eq_true_eq, List.all_eq_true, inB_iff, blockB] at h
 obtain ⟨⟨⟨⟨⟨h1, h2⟩, h3⟩, h4⟩, h5⟩, h6⟩ := h
 exact ⟨h1, by omega, by omega, h4, h5, fun x hx => (h6 x hx).1.1, fun x hx => (h6 x hx).1.2, fun x hx => (h6 x hx).2⟩
/-- How many ids a block gives. -/
def wB (x : tBlockD) : Int := ((x.1.length : Nat) : Int) + ((x.2.1.length : Nat) : Int)
theorem wB_nonneg (x : tBlockD) : 0 ≤ wB x := by unfold wB; omega
theorem cntB_eq (f : tFuncD) : cntB f = (f.1.length : Int) + sumB wB f.2.2.1 := rfl
theorem sumB_nonneg {α : Type} {w : α → Int} : ∀ {l : List α}, (∀ x ∈ l, 0 ≤ w x) → 0 ≤ sumB w l
 | [], _ => Int.le_refl _
 | x :: l, h => by
  have := h x (by simp)
  have := sumB_nonneg (l := l) fun y hy => h y (by simp [hy])
  simp only [sumB]; omega
theorem le_sumB {α : Type} {w : α → Int} {l : List α} (h : ∀ x ∈ l, 0 ≤ w x) {x : α} (hx : x ∈ l) : w x ≤ sumB w l := by
 induction l with
 | nil => cases hx
 | cons y l ih =>
  have hn := sumB_nonneg (l := l) fun z hz => h z (by simp [hz])
  simp only [sumB]
  rcases List.mem_cons.1 hx with rfl | hx
  ·omega
  ·have := ih (fun z hz => h z (by simp [hz])) hx
   have := h y (by simp)
   omega
theorem sumB_drop {α : Type} (w : α → Int) (l : List α) (i : Nat) (h : i < l.length) : sumB w (l.drop i) = w l[i] + sumB w (l.drop (i + 1)) := by
 rw [List.drop_eq_getElem_cons h]; rfl
theorem Fm.w60 {funcs : Int} {f : tFuncD} (h : Fm funcs f) {x : tBlockD} (hx : x ∈ f.2.2.1) : wB x ≤ 60 := by
 have := le_sumB (w := wB) (fun y _ => wB_nonneg y) hx
 have := h.cnt
 rw [cntB_eq] at this
 omega
theorem Fm.phis {funcs : Int} {f : tFuncD} (h : Fm funcs f) {x : tBlockD} (hx : x ∈ f.2.2.1) : x.1.length ≤ 60 ∧ x.2.1.length ≤ 60 := by
 have := h.w60 hx
 unfold wB at this
 omega
theorem ev_if {g : Nat → Option BR} {b c : Bool} (h : b = true → Ev g (one c)) : Ev (fun k => bif b then g k else some (one false)) (one (b && c)) := by
 cases b with
 | true => exact Ev.pos rfl (h rfl)
 | false => exact Ev.neg rfl (Ev.cst rfl)
section
variable {funcs : Int} {f : tFuncD}
def vid (f : tFuncD) (id : Int) : Prop := 0 ≤ id ∧ id < cntB f
theorem vid_of {id : Int} (h : inB 0 (cntB f - 1) id = true) : vid f id := by
 have := inB_iff.1 h
 exact ⟨this.1, by omega⟩
theorem Fm.vt (hf : Fm funcs f) {x : tBlockD} (hx : x ∈ f.2.2.1) (h : x.2.2.1 = 1 ∨ x.2.2.1 = 3) : vid f x.2.2.2.1 := by
 have := hf.tm x hx
 unfold termB at this
 rcases h with h | h <;> rw [h] at this
 ·have h2 : (inB 0 (cntB f - 1) x.2.2.2.1 && decide (x.2.2.2.2.1 = 0) && decide (x.2.2.2.2.2.1 = 0)) = true := this
  simp only [Bool.and_eq_true] at h2
  exact vid_of h2.1.1
 ·have h2 : (inB 0 (cntB f - 1) x.2.2.2.1 && inB 0 ((f.2.2.1.length : Int) - 1) x.2.2.2.2.1 && inB 0 ((f.2.2.1.length : Int) - 1) x.2.2.2.2.2.1 && !decide (x.2.2.2.2.1 = x.2.2.2.2.2.1)) = true := this
  simp only [Bool.and_eq_true] at h2
  exact vid_of h2.1.1.1
theorem Fm.vp (hf : Fm funcs f) {x : tBlockD} (hx : x ∈ f.2.2.1) {p : tPhiD} (hp : p ∈ x.1) {id : Int} (h : id ∈ p.2.1) : vid f id := by
 have := hf.ph x hx p hp
 simp only [phiB, Bool.and_eq_true, List.all_eq_true] at this
 exact vid_of (this.2 id h)
theorem Fm.vo (hf : Fm funcs f) {x : tBlockD} (hx : x ∈ f.2.2.1) {i : tInstD} (hi : i ∈ x.2.1) : i.2.2.2.2.2.2.1.length ≤ 4 ∧ ∀ id ∈ opsB i, vid f id := by
 have hin := hf.ins x hx i hi
 simp only [instB, Bool.and_eq_true, decide_eq_true_eq, List.all_eq_true] at hin
 exact ⟨hin.1.1.1.1.1.2, fun id h => vid_of (hin.1.1.1.2 id h)⟩
end
abbrev IIR := (((Int × Unit) × (Int × Unit) × Unit) × Unit)
abbrev two (p : Int × Int) : IIR := (((p.1, ()), (p.2, ()), ()), ())
/-- The place of an id that is counted from block b on. -/
def placeL : List tBlockD → Nat → Int → Int × Int
 | [], _, _ => (-2, 0)
 | x :: l, b, id => if id < wB x then ((b : Int), id) else placeL l (b + 1) (id - wB x)
def placeOf (f : tFuncD) (id : Int) : Int × Int := if id < (f.1.length : Int) then (-1, id) else placeL f.2.2.1 0 (id - (f.1.length : Int))
theorem placeL_in : ∀ (l : List tBlockD) (b : Nat) (id : Int), 0 ≤ id → id < sumB wB l → ∃ j : Nat, ∃ h : j < l.length, placeL l b id = (((b + j : Nat) : Int), id - sumB wB (l.take j)) ∧ 0 ≤ id - sumB wB (l.take j) ∧ id - sumB wB (l.take j) < wB l[j]
 | [], _, id, h0, h => by simp [sumB] at h; omega
 | x :: l, b, id, h0, h => by
  simp only [sumB] at h
  unfold placeL
  by_cases c : id < wB x
  ·exact ⟨0, by simp, by rw [if_pos c]; simp [sumB], by simpa [sumB] using h0, by simpa [sumB] using c⟩
  ·obtain ⟨j, hj, e, a, b'⟩ := placeL_in l (b + 1) (id - wB x) (by omega) (by omega)
   refine ⟨j + 1, by simpa using hj, ?_, ?_, ?_⟩
   ·rw [if_neg c, e]
    simp only [List.take_succ_cons, sumB]
    refine Prod.ext ?_ ?_
    ·show ((b + 1 + j : Nat) : Int) = ((b + (j + 1) : Nat) : Int); omega
    ·show _ = _; omega
   ·simp only [List.take_succ_cons, sumB]; omega
   ·simp only [List.take_succ_cons, sumB, List.getElem_cons_succ]; omega
section
variable {funcs : Int} {f : tFuncD}
/-- Where an id stands. -/
theorem place_cases (id : Int) (h0 : 0 ≤ id) (h1 : id < cntB f) : (id < (f.1.length : Int) ∧ placeOf f id = (-1, id)) ∨ ((f.1.length : Int) ≤ id ∧ ∃ j : Nat, ∃ hj : j < f.2.2.1.length, placeOf f id = ((j : Int), id - (f.1.length : Int) - sumB wB (f.2.2.1.take j)) ∧ 0 ≤ id - (f.1.length : Int) - sumB wB (f.2.2.1.take j) ∧ id - (f.1.length : Int) - sumB wB (f.2.2.1.take j) < wB f.2.2.1[j]) := by
 rw [cntB_eq] at h1
 unfold placeOf
 by_cases c : id < (f.1.length : Int)
 ·exact .inl ⟨c, if_pos c⟩
 ·obtain ⟨j, hj, e, a, b⟩ := placeL_in f.2.2.1 0 (id - (f.1.length : Int)) (by omega) (by omega)
  refine .inr ⟨by omega, j, hj, ?_, a, b⟩
  rw [if_neg c, e, Nat.zero_add]
theorem blk_wrap {x : tBlockD} (h : wB x ≤ 60) : IntKind.wrap .i64 (((List.length x.1 : Nat) : Int) + ((List.length x.2.1 : Nat) : Int)) = wB x := wrap_id (by omega) (by unfold wB at h; omega)
theorem specPlace_l (hf : Fm funcs f) : ∀ (d i : Nat) (id : Int), i + d = f.2.2.1.length → 0 ≤ id → id ≤ 100 → Ev (fun k => U36.l0 k id i f) (two (placeL (f.2.2.1.drop i) i id)) := by
 intro d
 induction d with
 | zero =>
  intro i id hi h0 h1
  obtain rfl : i = f.2.2.1.length := by omega
  rw [List.drop_length]
  refine Ev.step (g' := fun _ => some (two (-2, 0))) (Ev.cst rfl) fun k => ?_
  show U36.l0_ k (U36.l0 k) id _ f = _
  unfold U36.l0_
  simp only [head_end, cond_false]
 | succ d ih =>
  intro i id hi h0 h1
  have hlt : i < f.2.2.1.length := by omega
  have hb := hf.w60 (List.getElem_mem hlt)
  have hc := wB_nonneg f.2.2.1[i]
  have h10 := hf.b10
  rw [List.drop_eq_getElem_cons hlt]
  refine Ev.succ ?_
  show Ev (fun k => U36.l0_ k (U36.l0 k) id _ f) _
  unfold U36.l0_ placeL
  simp only [head_in hlt, head_0, Bool.and_self, cond_true, get_in hlt, blk_wrap hb, wrap_nat (show i < 9223372036854775807 by omega)]
  by_cases c : id < wB f.2.2.1[i]
  ·rw [if_pos c]
   exact Ev.dp c (Ev.cst rfl)
  ·rw [if_neg c]
   refine Ev.dn c ?_
   rw [wrap_id (x := id - wB f.2.2.1[i]) (by omega) (by omega)]
   exact ih (i + 1) _ (by omega) (by omega) (by omega)
theorem specPlace (hf : Fm funcs f) {id : Int} (h0 : 0 ≤ id) (h1 : id < cntB f) : Ev (fun k => U36.f k f id) (two (placeOf f id)) := by
 have h60 := hf.cnt
 have h4 := hf.p4
 unfold U36.f placeOf
 refine Ev.dn (by omega) ?_
 by_cases c : id < (f.1.length : Int)
 ·rw [if_pos c]; exact Ev.dp c (Ev.cst rfl)
 ·rw [if_neg c]
  refine Ev.dn c ?_
  rw [wrap_id (by omega) (by omega)]
  exact specPlace_l hf f.2.2.1.length 0 _ (by omega) (by omega) (by omega)
theorem implPlace_l (hf : Fm funcs f) (id : Int) (h1 : id ≤ 100) : ∀ (d i : Nat) (n : Int), i + d = f.2.2.1.length → 0 ≤ n → n ≤ id → Ev (fun k => U115.l0 k id n f.2.2.1 ((List.length f.2.2.1 : Nat) : Int) i) (two (placeL (f.2.2.1.drop i) i (id - n))) := by
 intro d
 induction d with
 | zero =>
  intro i n hi h0 hn
  obtain rfl : i = f.2.2.1.length := by omega
  rw [List.drop_length]
  refine Ev.step (g' := fun _ => some (two (-2, 0))) (Ev.cst rfl) fun k => ?_
  show U115.l0_ k (U115.l0 k) id n _ _ _ = _
  unfold U115.l0_
  simp only [head_end, cond_false]
 | succ d ih =>
  intro i n hi h0 hn
  have hlt : i < f.2.2.1.length := by omega
  have hb := hf.w60 (List.getElem_mem hlt)
  have hc := wB_nonneg f.2.2.1[i]
  have h10 := hf.b10
  rw [List.drop_eq_getElem_cons hlt]
  refine Ev.succ ?_
  show Ev (fun k => U115.l0_ k (U115.l0 k) id n _ _ _) _
  unfold U115.l0_ placeL
  simp only [head_in hlt, head_0, Bool.and_self, cond_true, get_in hlt, blk_wrap hb, wrap_nat (show i < 9223372036854775807 by omega), wrap_id (x := n + wB f.2.2.1[i]) (by omega) (by omega), wrap_id (x := id - n) (by omega) (by omega)]
  by_cases c : id < n + wB f.2.2.1[i]
  ·rw [if_pos (show id - n < wB f.2.2.1[i] by omega)]
   exact Ev.dp c (Ev.cst rfl)
  ·rw [if_neg (show ¬ id - n < wB f.2.2.1[i] by omega)]
   refine Ev.dn c ?_
   rw [show id - n - wB f.2.2.1[i] = id - (n + wB f.2.2.1[i]) by omega]
   exact ih (i + 1) _ (by omega) (by omega) (by omega)
theorem implIsId (hs : Small tFunc f) {id : Int} (h0 : 0 ≤ id) (h1 : id < cntB f) : Ev (fun k => U114.f k f id) (one true) := by
 obtain ⟨c0, c1⟩ := cntB_le hs
 refine Ev.bind (implCount hs) (Ev.bind (Ev.all fun k => implIn k _ _ _) (Ev.cst ?_))
 rw [show IntKind.wrap .i64 ((one (cntB f)).1.1.1 - 1) = cntB f - 1 from wrap_id (by show -9223372036854775808 ≤ cntB f - 1; omega) (by show cntB f - 1 ≤ _; omega)]
 rw [show inB 0 (cntB f - 1) id = true from inB_iff.2 ⟨h0, by omega⟩]
theorem implPlace (hs : Small tFunc f) (hf : Fm funcs f) {id : Int} (h0 : 0 ≤ id) (h1 : id < cntB f) : Ev (fun k => U115.f k f id) (two (placeOf f id)) := by
 have h60 := hf.cnt
 have h4 := hf.p4
 unfold U115.f placeOf
 refine Ev.bind (implIsId hs h0 h1) (Ev.neg rfl ?_)
 by_cases c : id < (f.1.length : Int)
 ·rw [if_pos c]; exact Ev.dp c (Ev.cst rfl)
 ·rw [if_neg c]
  exact Ev.dn c (implPlace_l hf id (by omega) f.2.2.1.length 0 _ (by omega) (by omega) (by omega))
end
def resW (op w : Int) : Int := bif !wOk w then 0 else bif decide (14 ≤ op) then 1 else w
def widthI (i : tInstD) : Int := bif inB 1 17 i.1 then resW i.1 i.2.1 else i.2.1
theorem specWidth (k : Nat) (i : tInstD) : U38.f k i = some (one (widthI i)) := by
 unfold U38.f widthI U37.f resW
 simp only [specIn, specW, Option.bind_some]
 cases inB 1 17 i.1 <;> cases wOk i.2.1 <;> cases decide (14 ≤ i.1) <;> rfl
theorem implWidth (k : Nat) {i : tInstD} (h : i.1 = 24 ∨ i.1 = 25 → i.2.1 = 0) : U118.f k i = some (one (widthI i)) := by
 unfold U118.f widthI U117.f resW
 simp only [implBin, implW, Option.bind_some]
 cases hb : inB 1 17 i.1
 ·by_cases h4 : i.1 = 24
  ·rw [dpos h4, h (.inl h4)]; rfl
  ·by_cases h5 : i.1 = 25
   ·rw [dneg h4, dpos h5, h (.inr h5)]; rfl
   ·rw [dneg h4, dneg h5]; rfl
 ·cases wOk i.2.1 <;> cases decide (14 ≤ i.1) <;> rfl
def typeOf (f : tFuncD) (id : Int) : Int :=
 if (placeOf f id).1 = -1 then f.1.getD (placeOf f id).2.toNat 0 else
  if (placeOf f id).2 < ((f.2.2.1.getD (placeOf f id).1.toNat tBlockZ).1.length : Int) then ((f.2.2.1.getD (placeOf f id).1.toNat tBlockZ).1.getD (placeOf f id).2.toNat tPhiZ).1
  else widthI ((f.2.2.1.getD (placeOf f id).1.toNat tBlockZ).2.1.getD ((placeOf f id).2 - ((f.2.2.1.getD (placeOf f id).1.toNat tBlockZ).1.length : Int)).toNat tInstZ)
section
variable {funcs : Int} {f : tFuncD}
theorem instB_void {count funcs : Int} {i : tInstD} (h : instB count funcs i = true) : (i.1 = 24 ∨ i.1 = 25 → i.2.1 = 0) := by
 intro ho
 simp only [instB, Bool.and_eq_true, widB] at h
 have h1 := h.1.2
 have : (decide (i.1 = 24) || decide (i.1 = 25)) = true := by simpa using ho
 rw [this] at h1
 simpa using h1
theorem specType (hf : Fm funcs f) {id : Int} (h0 : 0 ≤ id) (h1 : id < cntB f) : Ev (fun k => U39.f k f id) (one (typeOf f id)) := by
 have h10 := hf.b10
 unfold U39.f typeOf
 refine Ev.bind (specPlace hf h0 h1) ?_
 rcases place_cases id h0 h1 with ⟨hl, hp⟩ | ⟨hl, j, hj, hp, ha, hb⟩
 ·rw [hp, if_pos rfl]
  exact Ev.dn (show ¬ ((-1 : Int) = -2) by decide) (Ev.dp rfl (Ev.dd h0 hl (Ev.cst rfl)))
 ·rw [hp]
  generalize id - (f.1.length : Int) - sumB wB (f.2.2.1.take j) = at' at ha hb
  have hx := hf.w60 (List.getElem_mem hj)
  have hxl := hf.phis (List.getElem_mem hj)
  rw [if_neg (by show ¬ ((j : Int) = -1); omega)]
  show Ev (fun k => bif decide ((j : Int) = -2) then _ else _) _
  refine Ev.dn (by omega) (Ev.dn (by show ¬ ((j : Int) = -1); omega) (Ev.dd (show 0 ≤ (j : Int) by omega) (show (j : Int) < (f.2.2.1.length : Int) by omega) ?_))
  show Ev (fun k => bif decide (at' < ((List.length (f.2.2.1.getD (Int.toNat (j : Int)) tBlockZ).1 : Nat) : Int)) then _ else _) _
  rw [get_in hj]
  unfold wB at hb hx
  by_cases c : at' < ((List.length f.2.2.1[j].1 : Nat) : Int)
  ·rw [if_pos c]
   exact Ev.dp c (Ev.dd ha c (Ev.cst rfl))
  ·rw [if_neg c]
   refine Ev.dn c ?_
   have hw : IntKind.wrap .i64 (at' - ((List.length f.2.2.1[j].1 : Nat) : Int)) = at' - ((List.length f.2.2.1[j].1 : Nat) : Int) := wrap_id (by omega) (by omega)
   show Ev (fun k => bif decide (0 ≤ IntKind.wrap .i64 (at' - ((List.length f.2.2.1[j].1 : Nat) : Int))) && decide (IntKind.wrap .i64 (at' - ((List.length f.2.2.1[j].1 : Nat) : Int)) < ((List.length f.2.2.1[j].2.1 : Nat) : Int)) then Option.bind (U38.f k (f.2.2.1[j].2.1.getD (Int.toNat (IntKind.wrap .i64 (at' - ((List.length f.2.2.1[j].1 : Nat) : Int)))) tInstZ)) _ else none) _
   rw [hw]
   exact Ev.dd (by omega) (by omega) (Ev.bind (Ev.all fun k => specWidth k _) (Ev.cst rfl))
theorem implType (hs : Small tFunc f) (hf : Fm funcs f) {id : Int} (h0 : 0 ≤ id) (h1 : id < cntB f) : Ev (fun k => U119.f k f id) (one (typeOf f id)) := by
 have h10 := hf.b10
 unfold U119.f typeOf
 refine Ev.bind (implPlace hs hf h0 h1) ?_
 have hpl := implPlace hs hf h0 h1
 rcases place_cases id h0 h1 with ⟨hl, hp⟩ | ⟨hl, j, hj, hp, ha, hb⟩
 ·rw [hp, if_pos rfl]
  exact Ev.dn (show ¬ ((-1 : Int) = -2) by decide) (Ev.dp rfl (Ev.dd h0 hl (Ev.cst rfl)))
 ·rw [hp] at hpl ⊢
  generalize id - (f.1.length : Int) - sumB wB (f.2.2.1.take j) = at' at ha hb hpl
  have hx := hf.w60 (List.getElem_mem hj)
  have hxl := hf.phis (List.getElem_mem hj)
  rw [if_neg (by show ¬ ((j : Int) = -1); omega)]
  show Ev (fun k => bif decide ((j : Int) = -2) then _ else _) _
  refine Ev.dn (by omega) (Ev.dn (by show ¬ ((j : Int) = -1); omega) (Ev.dd (show 0 ≤ (j : Int) by omega) (show (j : Int) < (f.2.2.1.length : Int) by omega) ?_))
  show Ev (fun k => bif decide (at' < ((List.length (f.2.2.1.getD (Int.toNat (j : Int)) tBlockZ).1 : Nat) : Int)) then _ else _) _
  rw [get_in hj]
  unfold wB at hb hx
  by_cases c : at' < ((List.length f.2.2.1[j].1 : Nat) : Int)
  ·rw [if_pos c]
   exact Ev.dp c (Ev.dd (show 0 ≤ (j : Int) by omega) (show (j : Int) < (f.2.2.1.length : Int) by omega) (Ev.dd ha c (Ev.cst rfl)))
  ·rw [if_neg c]
   refine Ev.dn c ?_
   have hw : IntKind.wrap .i64 (at' - ((List.length f.2.2.1[j].1 : Nat) : Int)) = at' - ((List.length f.2.2.1[j].1 : Nat) : Int) := wrap_id (by omega) (by omega)
   have hlt : (at' - ((List.length f.2.2.1[j].1 : Nat) : Int)).toNat < f.2.2.1[j].2.1.length := by omega
   have hi : Ev (fun k => U116.f k f id) (((f.2.2.1[j].2.1.getD (at' - ((List.length f.2.2.1[j].1 : Nat) : Int)).toNat tInstZ, (true, ()), ()), ())) := by
    unfold U116.f
    refine Ev.bind hpl (Ev.dn (show ¬ ((j : Int) < 0) by omega) (Ev.dd (show 0 ≤ (j : Int) by omega) (show (j : Int) < (f.2.2.1.length : Int) by omega) ?_))
    show Ev (fun k => bif decide (at' < ((List.length (f.2.2.1.getD (Int.toNat (j : Int)) tBlockZ).1 : Nat) : Int)) then _ else (bif decide (0 ≤ (j : Int)) && decide ((j : Int) < (f.2.2.1.length : Int)) then (bif decide (0 ≤ (j : Int)) && decide ((j : Int) < (f.2.2.1.length : Int)) then (bif decide (0 ≤ IntKind.wrap .i64 (at' - ((List.length (f.2.2.1.getD (Int.toNat (j : Int)) tBlockZ).1 : Nat) : Int))) && decide (IntKind.wrap .i64 (at' - ((List.length (f.2.2.1.getD (Int.toNat (j : Int)) tBlockZ).1 : Nat) : Int)) < ((List.length (f.2.2.1.getD (Int.toNat (j : Int)) tBlockZ).2.1 : Nat) : Int)) then some ((((f.2.2.1.getD (Int.toNat (j : Int)) tBlockZ).2.1.getD (Int.toNat (IntKind.wrap .i64 (at' - ((List.length (f.2.2.1.getD (Int.toNat (j : Int)) tBlockZ).1 : Nat) : Int)))) tInstZ, (true, ()), ()), ())) else none) else none) else none)) _
    rw [get_in hj, hw]
    exact Ev.dn c (Ev.dd (by omega) (by omega) (Ev.dd (by omega) (by omega) (Ev.dd (by omega) (by omega) (Ev.cst rfl))))
   refine Ev.bind hi (Ev.bind (Ev.all fun k => implWidth k (i := f.2.2.1[j].2.1.getD (at' - ((List.length f.2.2.1[j].1 : Nat) : Int)).toNat tInstZ) ?_) (Ev.cst rfl))
   rw [getD_at _ _ _ hlt]
   exact instB_void (hf.ins _ (List.getElem_mem hj) _ (List.getElem_mem hlt))
theorem wOk_pos {w : Int} (h : wOk w = true) : 0 < w := by rcases wOk_cases h with rfl | rfl | rfl | rfl <;> decide
theorem typeOf_nonneg (hf : Fm funcs f) {id : Int} (h0 : 0 ≤ id) (h1 : id < cntB f) : 0 ≤ typeOf f id := by
 unfold typeOf
 rcases place_cases id h0 h1 with ⟨hl, hp⟩ | ⟨hl, j, hj, hp, ha, hb⟩
 ·rw [hp, if_pos rfl]
  show 0 ≤ f.1.getD id.toNat 0
  rw [getD_at _ _ _ (by omega)]
  exact Int.le_of_lt (wOk_pos (hf.pw _ (List.getElem_mem _)))
 ·rw [hp]
  generalize id - (f.1.length : Int) - sumB wB (f.2.2.1.take j) = at' at ha hb
  rw [if_neg (by show ¬ ((j : Int) = -1); omega)]
  show 0 ≤ if at' < ((List.length (f.2.2.1.getD (Int.toNat (j : Int)) tBlockZ).1 : Nat) : Int) then ((f.2.2.1.getD (Int.toNat (j : Int)) tBlockZ).1.getD at'.toNat tPhiZ).1 else widthI ((f.2.2.1.getD (Int.toNat (j : Int)) tBlockZ).2.1.getD (at' - ((List.length (f.2.2.1.getD (Int.toNat (j : Int)) tBlockZ).1 : Nat) : Int)).toNat tInstZ)
  rw [get_in hj]
  unfold wB at hb
  split
  ·rename_i c
   rw [getD_at _ _ _ (by omega)]
   have := hf.ph _ (List.getElem_mem hj) _ (List.getElem_mem (show at'.toNat < f.2.2.1[j].1.length by omega))
   simp only [phiB, Bool.and_eq_true] at this
   exact Int.le_of_lt (wOk_pos this.1.1)
  ·rename_i c
   rw [getD_at _ _ _ (by omega)]
   have := hf.ins _ (List.getElem_mem hj) _ (List.getElem_mem (show (at' - ((List.length f.2.2.1[j].1 : Nat) : Int)).toNat < f.2.2.1[j].2.1.length by omega))
   simp only [instB, Bool.and_eq_true, widB] at this
   have hw := this.1.2
   generalize f.2.2.1[j].2.1[(at' - ((List.length f.2.2.1[j].1 : Nat) : Int)).toNat] = i at hw
   have h0 : 0 ≤ i.2.1 := by
    cases h1 : (decide (i.1 = 24) || decide (i.1 = 25)) <;> cases h2 : decide (i.1 = 23) <;> simp only [h1, h2, cond_true, cond_false, decide_eq_true_eq] at hw
    ·exact Int.le_of_lt (wOk_pos hw)
    ·omega
    ·omega
    ·omega
   unfold widthI resW
   cases inB 1 17 i.1 <;> cases wOk i.2.1 <;> cases decide (14 ≤ i.1) <;> simp [h0]
end
section
variable {funcs : Int} {f : tFuncD}
abbrev InstR := (((tInstD) × (Bool × Unit) × Unit) × Unit)
def instP (f : tFuncD) (id : Int) : tInstD × Bool :=
 if (placeOf f id).1 = -1 then (tInstZ, false) else
  if (placeOf f id).2 < ((f.2.2.1.getD (placeOf f id).1.toNat tBlockZ).1.length : Int) then (tInstZ, false)
  else ((f.2.2.1.getD (placeOf f id).1.toNat tBlockZ).2.1.getD ((placeOf f id).2 - ((f.2.2.1.getD (placeOf f id).1.toNat tBlockZ).1.length : Int)).toNat tInstZ, true)
def instQ (f : tFuncD) (id : Int) : InstR := (((instP f id).1, ((instP f id).2, ()), ()), ())
theorem implInstOf (hs : Small tFunc f) (hf : Fm funcs f) {id : Int} (v : vid f id) : Ev (fun k => U116.f k f id) (instQ f id) := by
 have h10 := hf.b10
 unfold U116.f instQ instP
 refine Ev.bind (implPlace hs hf v.1 v.2) ?_
 rcases place_cases id v.1 v.2 with ⟨hl, hp⟩ | ⟨hl, j, hj, hp, ha, hb⟩
 ·rw [hp, if_pos rfl]
  exact Ev.dp (show (-1 : Int) < 0 by decide) (Ev.cst rfl)
 ·rw [hp]
  generalize id - (f.1.length : Int) - sumB wB (f.2.2.1.take j) = at' at ha hb
  have hx := hf.w60 (List.getElem_mem hj)
  rw [if_neg (by show ¬ ((j : Int) = -1); omega)]
  refine Ev.dn (show ¬ ((j : Int) < 0) by omega) (Ev.dd (show 0 ≤ (j : Int) by omega) (show (j : Int) < (f.2.2.1.length : Int) by omega) ?_)
  show Ev (fun k => bif decide (at' < ((List.length (f.2.2.1.getD (Int.toNat (j : Int)) tBlockZ).1 : Nat) : Int)) then _ else (bif decide (0 ≤ (j : Int)) && decide ((j : Int) < (f.2.2.1.length : Int)) then (bif decide (0 ≤ (j : Int)) && decide ((j : Int) < (f.2.2.1.length : Int)) then (bif decide (0 ≤ IntKind.wrap .i64 (at' - ((List.length (f.2.2.1.getD (Int.toNat (j : Int)) tBlockZ).1 : Nat) : Int))) && decide (IntKind.wrap .i64 (at' - ((List.length (f.2.2.1.getD (Int.toNat (j : Int)) tBlockZ).1 : Nat) : Int)) < ((List.length (f.2.2.1.getD (Int.toNat (j : Int)) tBlockZ).2.1 : Nat) : Int)) then some ((((f.2.2.1.getD (Int.toNat (j : Int)) tBlockZ).2.1.getD (Int.toNat (IntKind.wrap .i64 (at' - ((List.length (f.2.2.1.getD (Int.toNat (j : Int)) tBlockZ).1 : Nat) : Int)))) tInstZ, (true, ()), ()), ())) else none) else none) else none)) _
  rw [get_in hj]
  unfold wB at hb hx
  by_cases c : at' < ((List.length f.2.2.1[j].1 : Nat) : Int)
  ·rw [if_pos c]
   exact Ev.dp c (Ev.cst rfl)
  ·have hw : IntKind.wrap .i64 (at' - ((List.length f.2.2.1[j].1 : Nat) : Int)) = at' - ((List.length f.2.2.1[j].1 : Nat) : Int) := wrap_id (by omega) (by omega)
   rw [if_neg c, hw]
   exact Ev.dn c (Ev.dd (by omega) (by omega) (Ev.dd (by omega) (by omega) (Ev.dd (by omega) (by omega) (Ev.cst rfl))))
theorem specInstOf (hf : Fm funcs f) {id : Int} (v : vid f id) : Ev (fun k => U53.f k f id) (instQ f id) := by
 have h10 := hf.b10
 unfold U53.f instQ instP
 refine Ev.bind (specPlace hf v.1 v.2) ?_
 rcases place_cases id v.1 v.2 with ⟨hl, hp⟩ | ⟨hl, j, hj, hp, ha, hb⟩
 ·rw [hp, if_pos rfl]
  exact Ev.dp (show (-1 : Int) < 0 by decide) (Ev.cst rfl)
 ·rw [hp]
  generalize id - (f.1.length : Int) - sumB wB (f.2.2.1.take j) = at' at ha hb
  have hx := hf.w60 (List.getElem_mem hj)
  rw [if_neg (by show ¬ ((j : Int) = -1); omega)]
  refine Ev.dn (show ¬ ((j : Int) < 0) by omega) (Ev.dd (show 0 ≤ (j : Int) by omega) (show (j : Int) < (f.2.2.1.length : Int) by omega) ?_)
  show Ev (fun k => bif decide (at' < ((List.length (f.2.2.1.getD (Int.toNat (j : Int)) tBlockZ).1 : Nat) : Int)) then _ else (bif decide (0 ≤ (j : Int)) && decide ((j : Int) < (f.2.2.1.length : Int)) then (bif decide (0 ≤ IntKind.wrap .i64 (at' - ((List.length (f.2.2.1.getD (Int.toNat (j : Int)) tBlockZ).1 : Nat) : Int))) && decide (IntKind.wrap .i64 (at' - ((List.length (f.2.2.1.getD (Int.toNat (j : Int)) tBlockZ).1 : Nat) : Int)) < ((List.length (f.2.2.1.getD (Int.toNat (j : Int)) tBlockZ).2.1 : Nat) : Int)) then some ((((f.2.2.1.getD (Int.toNat (j : Int)) tBlockZ).2.1.getD (Int.toNat (IntKind.wrap .i64 (at' - ((List.length (f.2.2.1.getD (Int.toNat (j : Int)) tBlockZ).1 : Nat) : Int)))) tInstZ, (true, ()), ()), ())) else none) else none)) _
  rw [get_in hj]
  unfold wB at hb hx
  by_cases c : at' < ((List.length f.2.2.1[j].1 : Nat) : Int)
  ·rw [if_pos c]
   exact Ev.dp c (Ev.cst rfl)
  ·have hw : IntKind.wrap .i64 (at' - ((List.length f.2.2.1[j].1 : Nat) : Int)) = at' - ((List.length f.2.2.1[j].1 : Nat) : Int) := wrap_id (by omega) (by omega)
   rw [if_neg c, hw]
   exact Ev.dn c (Ev.dd (by omega) (by omega) (Ev.dd (by omega) (by omega) (Ev.cst rfl)))
end
section
variable {funcs : Int} {f : tFuncD}
def constP (f : tFuncD) (id : Int) : Int × Bool := if id < cntB f then (bif (instP f id).2 && decide ((instP f id).1.1 = 21) then (instP f id).1.2.2.2.2.2.1 else 0, (instP f id).2 && decide ((instP f id).1.1 = 21)) else (0, false)
abbrev CR := ((Int × Unit) × (Bool × Unit) × Unit) × Unit
def constQ (p : Int × Bool) : CR := (((p.1, ()), (p.2, ()), ()), ())
theorem placeL_out : ∀ (l : List tBlockD) (b : Nat) (id : Int), sumB wB l ≤ id → placeL l b id = (-2, 0)
 | [], _, _, _ => rfl
 | x :: l, b, id, h => by
  have hn := sumB_nonneg (w := wB) (l := l) fun y _ => wB_nonneg y
  simp only [sumB] at h
  unfold placeL
  rw [if_neg (by omega)]
  exact placeL_out l (b + 1) (id - wB x) (by omega)
theorem specPlace_out (hf : Fm funcs f) {id : Int} (h0 : 0 ≤ id) (h1 : cntB f ≤ id) (h2 : id ≤ 100) : Ev (fun k => U36.f k f id) (two (-2, 0)) := by
 have hc := cntB_eq f
 have hn := sumB_nonneg (w := wB) (l := f.2.2.1) fun y _ => wB_nonneg y
 unfold U36.f
 refine Ev.dn (by omega) (Ev.dn (by omega) ?_)
 rw [wrap_id (by omega) (by omega)]
 have := specPlace_l hf f.2.2.1.length 0 (id - (f.1.length : Int)) (by omega) (by omega) (by omega)
 rw [List.drop_zero, placeL_out _ _ _ (by omega)] at this
 exact this
theorem implPlace_out (hs : Small tFunc f) {id : Int} (h0 : 0 ≤ id) (h1 : cntB f ≤ id) : Ev (fun k => U115.f k f id) (two (-2, 0)) := by
 obtain ⟨c0, c1⟩ := cntB_le hs
 unfold U115.f
 refine Ev.bind (a := one false) (Ev.bind (implCount hs) (Ev.bind (Ev.all fun k => implIn k _ _ _) (Ev.cst ?_))) (Ev.pos rfl (Ev.cst rfl))
 rw [show IntKind.wrap .i64 ((one (cntB f)).1.1.1 - 1) = cntB f - 1 from wrap_id (by show -9223372036854775808 ≤ cntB f - 1; omega) (by show cntB f - 1 ≤ _; omega)]
 rw [show inB 0 (cntB f - 1) id = false from by unfold inB; rw [dneg (show ¬ id ≤ cntB f - 1 by omega), Bool.and_false]]
theorem implConst (hs : Small tFunc f) (hf : Fm funcs f) {id : Int} (h0 : 0 ≤ id) (h1 : id ≤ 100) : Ev (fun k => U147.f k f id) (constQ (constP f id)) := by
 unfold U147.f constP
 by_cases c : id < cntB f
 ·rw [if_pos c]
  refine Ev.bind (implInstOf hs hf ⟨h0, c⟩) ?_
  show Ev (fun k => bif !(instP f id).2 then _ else bif !decide ((instP f id).1.1 = 21) then _ else some ((((instP f id).1.2.2.2.2.2.1, ()), (true, ()), ()), ())) _
  cases (instP f id).2 <;> cases decide ((instP f id).1.1 = 21) <;> exact Ev.cst rfl
 ·rw [if_neg c]
  refine Ev.bind (a := ((tInstZ, (false, ()), ()), ())) ?_ (Ev.pos rfl (Ev.cst rfl))
  unfold U116.f
  exact Ev.bind (implPlace_out hs h0 (by omega)) (Ev.dp (show (-2 : Int) < 0 by decide) (Ev.cst rfl))
theorem specConst (hf : Fm funcs f) {id : Int} (h0 : 0 ≤ id) (h1 : id ≤ 100) : Ev (fun k => U54.f k f id) (constQ (constP f id)) := by
 unfold U54.f constP
 by_cases c : id < cntB f
 ·rw [if_pos c]
  refine Ev.bind (specInstOf hf ⟨h0, c⟩) ?_
  show Ev (fun k => bif !(instP f id).2 then _ else bif !decide ((instP f id).1.1 = 21) then _ else some ((((instP f id).1.2.2.2.2.2.1, ()), (true, ()), ()), ())) _
  cases (instP f id).2 <;> cases decide ((instP f id).1.1 = 21) <;> exact Ev.cst rfl
 ·rw [if_neg c]
  refine Ev.bind (a := ((tInstZ, (false, ()), ()), ())) ?_ (Ev.pos rfl (Ev.cst rfl))
  unfold U53.f
  exact Ev.bind (specPlace_out hf h0 (by omega) h1) (Ev.dp (show (-2 : Int) < 0 by decide) (Ev.cst rfl))
end
theorem specTop (k : Nat) {w : Int} (h : wOk w = true) : U26.f k w = some (one (topOf w + 1)) := by
 rcases wOk_cases h with rfl | rfl | rfl | rfl <;> (unfold U26.f; rfl)
theorem implMaskT (k : Nat) {w : Int} (h : wOk w = true) : U91.f k w = some (one (topOf w)) := by
 rcases wOk_cases h with rfl | rfl | rfl | rfl <;> (unfold U91.f; rfl)
def maskI (w n : Int) : Int := bif wOk w then band .i64 n (topOf w) else 0
theorem specMask (k : Nat) (w n : Int) : U60.f k w n = some (one (maskI w n)) := by
 unfold U60.f maskI
 rw [specW, Option.bind_some]
 cases h : wOk w with
 | false => rfl
 | true =>
  show Option.bind (U26.f k w) _ = _
  rw [specTop k h, Option.bind_some]
  rcases wOk_cases h with rfl | rfl | rfl | rfl <;> rfl
theorem implMask (k : Nat) (w n : Int) : U153.f k w n = some (one (maskI w n)) := by
 unfold U153.f maskI
 rw [implW, Option.bind_some]
 cases h : wOk w with
 | false => rfl
 | true =>
  show Option.bind (U91.f k w) _ = _
  rw [implMaskT k h]; rfl
def sgnI (w v : Int) : Int := if (topOf w + 1) / 2 ≤ v then v - (topOf w + 1) else v
theorem valB_of {w v : Int} (h : valB w v = true) : wOk w = true ∧ 0 ≤ v ∧ v ≤ topOf w := by
 simp only [valB, Bool.and_eq_true, inB, decide_eq_true_eq] at h
 exact h
theorem topOf_cases {w : Int} (h : wOk w = true) : (w = 1 ∧ topOf w = 1) ∨ (w = 8 ∧ topOf w = 255) ∨ (w = 16 ∧ topOf w = 65535) ∨ (w = 32 ∧ topOf w = 4294967295) := by
 rcases wOk_cases h with rfl | rfl | rfl | rfl
 ·exact .inl ⟨rfl, rfl⟩
 ·exact .inr (.inl ⟨rfl, rfl⟩)
 ·exact .inr (.inr (.inl ⟨rfl, rfl⟩))
 ·exact .inr (.inr (.inr ⟨rfl, rfl⟩))
theorem specSign (k : Nat) {w v : Int} (h : valB w v = true) : U56.f k w v = some (one (sgnI w v)) := by
 obtain ⟨hw, h0, h1⟩ := valB_of h
 unfold U56.f sgnI
 rw [specTop k hw, Option.bind_some]
 have e : IntKind.wrap .i64 (Int.tdiv (topOf w + 1) 2) = (topOf w + 1) / 2 := by
  rcases wOk_cases hw with rfl | rfl | rfl | rfl <;> decide +kernel
 show (bif decide (IntKind.wrap .i64 (Int.tdiv (topOf w + 1) 2) ≤ v) then (Option.bind (some (one (topOf w + 1))) fun r2 => some (((IntKind.wrap .i64 (v - r2.1.1.1), ()), ()), ())) else some (one v)) = _
 rw [e]
 have e2 : IntKind.wrap .i64 (v - (topOf w + 1)) = v - (topOf w + 1) := wrap_id (by rcases topOf_cases hw with h | h | h | h <;> omega) (by rcases topOf_cases hw with h | h | h | h <;> omega)
 by_cases c : (topOf w + 1) / 2 ≤ v
 ·rw [dpos c, if_pos c]
  show some (((IntKind.wrap .i64 (v - (topOf w + 1)), ()), ()), ()) = _
  rw [e2]
 ·rw [dneg c, if_neg c]; rfl
theorem band01 {x : Int} (h : x = 0 ∨ x = 1) : band .i64 x 1 = x := by
 rcases h with rfl | rfl <;> decide +kernel
theorem shr_div (x y : Int) : V.shr .i64 x y = x / 2 ^ (min y.toNat 64) := by
 show Int.fdiv x (2 ^ (min y.toNat 64)) = _
 rw [Int.fdiv_eq_ediv_of_nonneg]
 exact Int.le_of_lt (Int.pow_pos (by decide))
theorem implSign (k : Nat) {w v : Int} (h : valB w v = true) : U149.f k w v = some (one (sgnI w v)) := by
 obtain ⟨hw, h0, h1⟩ := valB_of h
 unfold U149.f sgnI
 have hp : (2 : Int) ^ min (IntKind.wrap .i64 (w - 1)).toNat 64 = (topOf w + 1) / 2 := by
  rcases wOk_cases hw with rfl | rfl | rfl | rfl <;> decide +kernel
 have h3 : 0 ≤ IntKind.wrap .i64 (w - 1) := by
  rcases wOk_cases hw with rfl | rfl | rfl | rfl <;> decide +kernel
 have h2 : (v / ((topOf w + 1) / 2) = 0 ∧ ¬ (topOf w + 1) / 2 ≤ v) ∨ (v / ((topOf w + 1) / 2) = 1 ∧ (topOf w + 1) / 2 ≤ v) := by
  rcases topOf_cases hw with h | h | h | h <;> rw [h.2] at h1 ⊢ <;> omega
 have e2 : IntKind.wrap .i64 (IntKind.wrap .i64 (v - topOf w) - 1) = v - (topOf w + 1) := by
  rw [wrap_id (x := v - topOf w) (by rcases topOf_cases hw with h | h | h | h <;> omega) (by rcases topOf_cases hw with h | h | h | h <;> omega), wrap_id (by rcases topOf_cases hw with h | h | h | h <;> omega) (by rcases topOf_cases hw with h | h | h | h <;> omega)]
  omega
 rw [dpos h3, shr_div, hp, implMaskT k hw, Option.bind_some]
 show (bif decide (band .i64 (v / ((topOf w + 1) / 2)) 1 = 1) then some (((IntKind.wrap .i64 (IntKind.wrap .i64 (v - topOf w) - 1), ()), ()), ()) else some (one v)) = _
 rw [e2]
 rcases h2 with ⟨a, b⟩ | ⟨a, b⟩
 ·rw [a, band01 (.inl rfl), if_neg b]; rfl
 ·rw [a, band01 (.inr rfl), if_pos b]; rfl
theorem wrap_emod (x : Int) : IntKind.wrap .i64 x % 18446744073709551616 = x % 18446744073709551616 := by
 have e : IntKind.wrap .i64 x = if (true && decide (x % 18446744073709551616 ≥ 9223372036854775808)) = true then x % 18446744073709551616 - 18446744073709551616 else x % 18446744073709551616 := rfl
 rw [e]
 split <;> omega
theorem and_top {w : Int} (hw : wOk w = true) (x : Int) : band .i64 (IntKind.wrap .i64 x) (topOf w) = x % (topOf w + 1) := by
 have key : ∀ i : Nat, i ≤ 32 → band .i64 (IntKind.wrap .i64 x) (2 ^ i - 1) = x % 2 ^ i := by
  intro i hi
  have hp : (2 : Nat) ^ i ≤ 2 ^ 32 := Nat.pow_le_pow_right (by decide) hi
  have h0 : 0 < 2 ^ i := Nat.two_pow_pos i
  have hm : ((2 : Int) ^ i - 1) = ((2 ^ i - 1 : Nat) : Int) := by rw [Int.natCast_sub h0]; simp
  have hx : (BitVec.ofInt 64 (IntKind.wrap .i64 x)).toNat = (x % 18446744073709551616).toNat := by
   rw [BitVec.toNat_ofInt]
   congr 1
   exact wrap_emod x
  show IntKind.i64.wrap ((BitVec.ofInt 64 (IntKind.wrap .i64 x) &&& BitVec.ofInt 64 (2 ^ i - 1)).toNat : Int) = _
  rw [BitVec.toNat_and, hx, hm, BitVec.ofInt_natCast, BitVec.toNat_ofNat, Nat.mod_eq_of_lt (show 2 ^ i - 1 < 2 ^ 64 by omega), Nat.and_two_pow_sub_one_eq_mod]
  obtain ⟨y, hy⟩ : ∃ y : Nat, x % 18446744073709551616 = (y : Int) := Int.eq_ofNat_of_zero_le (by omega)
  rw [hy]
  have e1 : x % 2 ^ i = ((y % 2 ^ i : Nat) : Int) := by
   have hd : ((2 : Int) ^ i) ∣ 18446744073709551616 := by
    have : ((2 : Int) ^ i) ∣ 2 ^ 64 := ⟨2 ^ (64 - i), by rw [← Int.pow_add, show i + (64 - i) = 64 by omega]⟩
    simpa using this
   rw [Int.natCast_emod, ← hy, Int.natCast_pow]
   exact (Int.emod_emod_of_dvd x hd).symm
  rw [e1]
  have hlt : y % 2 ^ i < 2 ^ i := Nat.mod_lt _ h0
  rw [show ((y : Int)).toNat = y from rfl]
  exact wrap_id (by omega) (by omega)
 rcases wOk_cases hw with rfl | rfl | rfl | rfl
 ·exact key 1 (by decide)
 ·exact key 8 (by decide)
 ·exact key 16 (by decide)
 ·exact key 32 (by decide)
theorem sgn_range {w v : Int} (h : valB w v = true) : -(topOf w + 1) ≤ 2 * sgnI w v ∧ 2 * sgnI w v < topOf w + 1 ∧ (sgnI w v - v) % (topOf w + 1) = 0 := by
 obtain ⟨hw, h0, h1⟩ := valB_of h
 unfold sgnI
 rcases topOf_cases hw with h | h | h | h <;> rw [h.2] at h1 ⊢ <;> split <;> omega
theorem mask_mul {w a b : Int} (ha : valB w a = true) (hb : valB w b = true) : maskI w (IntKind.wrap .i64 (sgnI w a * sgnI w b)) = maskI w (IntKind.wrap .i64 (a * b)) := by
 obtain ⟨hw, _, _⟩ := valB_of ha
 unfold maskI
 rw [hw, cond_true, cond_true, and_top hw, and_top hw]
 obtain ⟨p, hp⟩ := Int.dvd_of_emod_eq_zero (sgn_range ha).2.2
 obtain ⟨q, hq⟩ := Int.dvd_of_emod_eq_zero (sgn_range hb).2.2
 generalize topOf w + 1 = t at hp hq
 have e : sgnI w a * sgnI w b = a * b + t * (a * q + p * b + p * (t * q)) := by
  rw [show sgnI w a = a + t * p by omega, show sgnI w b = b + t * q by omega]
  simp only [Int.add_mul, Int.mul_add, Int.mul_assoc, Int.mul_left_comm, Int.mul_comm]
  omega
 rw [e, Int.add_mul_emod_self_left]
theorem shr_far {w s : Int} (hw : wOk w = true) (h0 : -(topOf w + 1) ≤ 2 * s) (h1 : 2 * s < topOf w + 1) (n : Nat) (hn : w.toNat - 1 ≤ n) : s / 2 ^ n = if s < 0 then -1 else 0 := by
 have hp : topOf w + 1 ≤ 2 * 2 ^ n := by
  have e : topOf w + 1 = 2 * 2 ^ (w.toNat - 1) := by rcases wOk_cases hw with rfl | rfl | rfl | rfl <;> decide
  have : (2 : Int) ^ (w.toNat - 1) ≤ 2 ^ n := by
   have := Nat.pow_le_pow_right (show 0 < 2 by decide) hn
   exact_mod_cast this
  omega
 have hpos : (0 : Int) < 2 ^ n := Int.pow_pos (by decide)
 by_cases c : s < 0
 ·rw [if_pos c]
  have : -1 ≤ s / 2 ^ n := Int.le_ediv_of_mul_le hpos (by omega)
  have : s / 2 ^ n < 0 := Int.ediv_neg_of_neg_of_pos c hpos
  omega
 ·rw [if_neg c]
  exact Int.ediv_eq_zero_of_lt (by omega) (by omega)
theorem u64_small {x : Int} (h0 : 0 ≤ x) (h1 : x ≤ 9223372036854775807) : IntKind.wrap .u64 x = x := by
 have e : IntKind.wrap .u64 x = if (false && decide (x % 18446744073709551616 ≥ 9223372036854775808)) = true then x % 18446744073709551616 - 18446744073709551616 else x % 18446744073709551616 := rfl
 rw [e, Bool.false_and, if_neg (by decide)]; omega
theorem two_one {op w a b : Int} (h1 : 1 ≤ op) (h2 : op ≤ 17) (ha : valB w a = true) (hb : valB w b = true) (hd : 4 ≤ op → op ≤ 7 → b ≠ 0) (k : Nat) :
  ∃ x y, U59.f k op w a b = some (one x) ∧ U152.f k op w a b = some (one y) ∧ maskI w x = maskI w y := by
 obtain ⟨hw, hb0, hb1⟩ := valB_of hb
 have hsb : b ≠ 0 → sgnI w b ≠ 0 := by
  intro hne
  unfold sgnI
  rcases topOf_cases hw with h | h | h | h <;> rw [h.2] at hb1 ⊢ <;> split <;> omega
 have hwr : 1 ≤ w ∧ w ≤ 32 := by rcases wOk_cases hw with rfl | rfl | rfl | rfl <;> decide
 have hbs : b ≤ 4294967295 := by
  refine Int.le_trans hb1 ?_
  rcases topOf_cases hw with h | h | h | h <;> rw [h.2] <;> decide
 have hop : op = 1 ∨ op = 2 ∨ op = 3 ∨ op = 4 ∨ op = 5 ∨ op = 6 ∨ op = 7 ∨ op = 8 ∨ op = 9 ∨ op = 10 ∨ op = 11 ∨ op = 12 ∨ op = 13 ∨ op = 14 ∨ op = 15 ∨ op = 16 ∨ op = 17 := by omega
 have ub : IntKind.wrap .u64 b = b := u64_small hb0 (by omega)
 have uw : IntKind.wrap .u64 (IntKind.wrap .i64 (w - 1)) = w - 1 := by rw [wrap_id (by omega) (by omega)]; exact u64_small (by omega) (by omega)
 unfold U152.f U59.f
 rw [implSign k ha, implSign k hb, Option.bind_some, Option.bind_some]
 simp only [specSign k ha, specSign k hb, Option.bind_some]
 rcases hop with rfl | rfl | rfl | rfl | rfl | rfl | rfl | rfl | rfl | rfl | rfl | rfl | rfl | rfl | rfl | rfl | rfl
 ·exact ⟨_, _, rfl, rfl, rfl⟩
 ·exact ⟨_, _, rfl, rfl, rfl⟩
 ·exact ⟨_, _, rfl, rfl, mask_mul ha hb⟩
 ·have := hd (by decide) (by decide)
  simp [this]
 ·have := hsb (hd (by decide) (by decide))
  simp [this]
 ·have := hd (by decide) (by decide)
  simp [this]
 ·have := hsb (hd (by decide) (by decide))
  simp [this]
 ·exact ⟨_, _, rfl, rfl, rfl⟩
 ·exact ⟨_, _, rfl, rfl, rfl⟩
 ·exact ⟨_, _, rfl, rfl, rfl⟩
 ·by_cases c : w ≤ b
  ·simp [U58.f, U151.f, c]
  ·simp [U58.f, U151.f, c, ub, hb0]
 ·by_cases c : w ≤ b
  ·simp [U58.f, U151.f, c]
  ·simp [U58.f, U151.f, c, ub, hb0]
 ·obtain ⟨s0, s1, -⟩ := sgn_range ha
  have hmn : 0 ≤ bif decide (63 < b) then 63 else b := by by_cases c : 63 < b <;> simp [c, hb0]
  by_cases c : w ≤ b
  ·refine ⟨V.shr .i64 (sgnI w a) (w - 1), V.shr .i64 (sgnI w a) (bif decide (63 < b) then 63 else b), ?_, ?_, ?_⟩
   ·have h0 : 0 ≤ w - 1 := by omega
    show Option.bind (U58.f k 13 w a b) _ = _
    unfold U58.f
    rw [specSign k ha, Option.bind_some, uw, dpos c, dpos h0]; rfl
   ·show Option.bind (U151.f k 13 w a b) _ = _
    unfold U151.f
    rw [implSign k ha, Option.bind_some, dpos hmn]; rfl
   ·congr 1
    rw [shr_div, shr_div, shr_far hw s0 s1 _ (by omega), shr_far hw s0 s1 _ (by
     by_cases c : 63 < b
     ·rw [dpos c, cond_true]; omega
     ·rw [dneg c, cond_false]; omega)]
  ·refine ⟨V.shr .i64 (sgnI w a) b, V.shr .i64 (sgnI w a) (bif decide (63 < b) then 63 else b), ?_, ?_, ?_⟩
   ·simp [U58.f, c, specSign k ha, ub, hb0]
   ·show Option.bind (U151.f k 13 w a b) _ = _
    unfold U151.f
    rw [implSign k ha, Option.bind_some, dpos hmn]; rfl
   ·rw [dneg (show ¬ 63 < b by omega)]; rfl
 ·by_cases c : a = b <;> simp [U57.f, U150.f, c]
 ·by_cases c : a = b <;> simp [U57.f, U150.f, c]
 ·by_cases c : a < b <;> simp [U57.f, U150.f, c]
 ·by_cases c : sgnI w a < sgnI w b <;> simp [U57.f, U150.f, c]
abbrev IIQ (p : Int × Int) : (((Int × Unit) × (Int × Unit) × Unit) × Unit) := (((p.1, ()), (p.2, ()), ()), ())
/-- What Binary tells. -/
theorem binary_one (op w a b : Int) (k : Nat) : ∃ r, U61.f k op w a b = some (IIQ r) ∧ U154.f k op w a b = some (IIQ r) := by
 unfold U61.f U154.f U148.f U55.f
 simp only [specIn, implBin, specVal, implVal, implIn, Option.bind_some]
 cases h1 : inB 1 17 op with
 | false => exact ⟨(0, 2), rfl, rfl⟩
 | true =>
  have hop : 1 ≤ op ∧ op ≤ 17 := by simpa [inB] using h1
  cases ha : valB w a with
  | false => exact ⟨(0, 2), rfl, rfl⟩
  | true =>
   cases hb : valB w b with
   | false => exact ⟨(0, 2), rfl, rfl⟩
   | true =>
    simp only [Bool.not_true, cond_false]
    cases hdv : inB 4 7 op with
    | true =>
     by_cases hz : b = 0
     ·subst hz; exact ⟨(0, 1), rfl, rfl⟩
     ·obtain ⟨x, y, e1, e2, e3⟩ := two_one hop.1 hop.2 ha hb (fun _ _ => hz) k
      simp only [cond_true, dneg hz, cond_false, e1, e2, Option.bind_some, specMask, implMask, e3]
      exact ⟨(_, _), rfl, rfl⟩
    | false =>
     obtain ⟨x, y, e1, e2, e3⟩ := two_one hop.1 hop.2 ha hb (fun u v => by
      have : inB 4 7 op = true := by simp [inB, u, v]
      rw [this] at hdv; cases hdv) k
     simp only [cond_false, e1, e2, Option.bind_some, specMask, implMask, e3]
     exact ⟨(_, _), rfl, rfl⟩
abbrev IBQ (p : Int × Bool) : (((Int × Unit) × (Bool × Unit) × Unit) × Unit) := (((p.1, ()), (p.2, ()), ()), ())
theorem casted_one (op t w v : Int) (k : Nat) : ∃ r, U65.f k op t w v = some (IBQ r) ∧ U159.f k op t w v = some (IBQ r) := by
 unfold U65.f U159.f
 simp only [specVal, implVal, specW, implW, specMask, implMask, Option.bind_some]
 cases hv : valB t v with
 | false => exact ⟨(0, false), rfl, rfl⟩
 | true =>
  simp only [specSign k hv, implSign k hv, Option.bind_some]
  exact ⟨((bif !wOk w then (0, false) else bif decide (op = 18) then (bif decide (t < w) then (v, true) else bif decide (op = 19) then (bif decide (t < w) then (maskI w (sgnI t v), true) else bif decide (op = 20) then (bif decide (w < t) then (maskI w v, true) else (0, false)) else (0, false)) else (bif decide (op = 20) then (bif decide (w < t) then (maskI w v, true) else (0, false)) else (0, false)))
   else bif decide (op = 19) then (bif decide (t < w) then (maskI w (sgnI t v), true) else bif decide (op = 20) then (bif decide (w < t) then (maskI w v, true) else (0, false)) else (0, false)) else (bif decide (op = 20) then (bif decide (w < t) then (maskI w v, true) else (0, false)) else (0, false)) : Int × Bool)),
   by cases wOk w <;> cases decide (op = 18) <;> cases decide (op = 19) <;> cases decide (op = 20) <;> cases decide (t < w) <;> cases decide (w < t) <;> rfl,
   by cases wOk w <;> cases decide (op = 18) <;> cases decide (op = 19) <;> cases decide (op = 20) <;> cases decide (t < w) <;> cases decide (w < t) <;> rfl⟩
def constI (w v : Int) : tInstD := (21, w, 0, 0, 0, v, [], ())
def copyI (w a : Int) : tInstD := (27, w, a, 0, 0, 0, [], ())
abbrev InS := ((Int × Int × Int × Int × Int × Int × Unit × Unit) × Unit) × ((List Int) × Unit)
def rI (i : tInstD) : InS := (((i.1, i.2.1, i.2.2.1, i.2.2.2.1, i.2.2.2.2.1, i.2.2.2.2.2.1, (), ()), ()), (i.2.2.2.2.2.2.1, ()))
theorem specConstI (k : Nat) (w v : Int) : U62.f k w v = some (rI (constI w v)) := rfl
theorem specCopyI (k : Nat) (w a : Int) : U63.f k w a = some (rI (copyI w a)) := rfl
theorem specKeep (k : Nat) {i : tInstD} (h : i.2.2.2.2.2.2.1.length ≤ 1048576) : U50.f k i = some (rI i) := by
 unfold U50.f
 rw [specCopy k h]; rfl
def memB (l : List Int) (n : Int) : Bool := l.any fun x => decide (n = x)
def twoF (i : tInstD) (a : Int) (x : Bool) (b : Int) (y : Bool) : tInstD :=
 bif y && (decide (b = 0) && memB [1, 2, 9, 10, 11, 12, 13] i.1) then copyI (widthI i) i.2.2.1 else
 bif x && (decide (a = 0) && memB [1, 9, 10] i.1) then copyI (widthI i) i.2.2.2.1 else
 bif y && (decide (b = 1) && memB [3, 4] i.1) then copyI (widthI i) i.2.2.1 else
 bif x && (decide (a = 1) && decide (i.1 = 3)) then copyI (widthI i) i.2.2.2.1 else
 bif ((x && decide (a = 0)) || (y && decide (b = 0))) && memB [3, 8] i.1 then constI (widthI i) 0 else
 bif !decide (i.2.2.1 = i.2.2.2.1) then i else
 bif memB [2, 10, 15, 16, 17] i.1 then constI (widthI i) 0 else
 bif decide (i.1 = 14) then constI (widthI i) 1 else
 bif memB [8, 9] i.1 then copyI (widthI i) i.2.2.1 else i
theorem in1113 (n : Int) : inB 11 13 n = (decide (n = 11) || (decide (n = 12) || decide (n = 13))) := by
 rw [Bool.eq_iff_iff]
 simp only [inB, Bool.and_eq_true, Bool.or_eq_true, decide_eq_true_eq]
 omega
section
variable (k : Nat) (op a b : Int) (x y : Bool)
theorem j1 : (bif y then (bif decide (b = 0) then (bif decide (op = 1) then (some true) else (bif decide (op = 2) then (some true) else (bif decide (op = 9) then (some true) else (bif decide (op = 10) then (some true) else (Option.bind (U21.f k op 11 13) fun r2 => some r2.1.1.1))))) else (some false)) else (some false)) = some (y && (decide (b = 0) && memB [1, 2, 9, 10, 11, 12, 13] op)) := by
 rw [specIn, Option.bind_some]
 show (bif y then (bif decide (b = 0) then (bif decide (op = 1) then (some true) else (bif decide (op = 2) then (some true) else (bif decide (op = 9) then (some true) else (bif decide (op = 10) then (some true) else some (inB 11 13 op))))) else (some false)) else (some false)) = _
 rw [in1113]
 unfold memB
 simp only [List.any_cons, List.any_nil, Bool.or_false]
 cases y
 ·rfl
 ·cases decide (b = 0)
  ·rfl
  ·cases decide (op = 1) <;> cases decide (op = 2) <;> cases decide (op = 9) <;> cases decide (op = 10) <;> rfl
theorem j2 : (bif x then (bif decide (a = 0) then (bif decide (op = 1) then (some true) else (bif decide (op = 9) then (some true) else (some (decide (op = 10))))) else (some false)) else (some false)) = some (x && (decide (a = 0) && memB [1, 9, 10] op)) := by
 unfold memB
 simp only [List.any_cons, List.any_nil, Bool.or_false]
 cases x
 ·rfl
 ·cases decide (a = 0)
  ·rfl
  ·cases decide (op = 1) <;> cases decide (op = 9) <;> rfl
theorem j3 : (bif y then (bif decide (b = 1) then (bif decide (op = 3) then (some true) else (some (decide (op = 4)))) else (some false)) else (some false)) = some (y && (decide (b = 1) && memB [3, 4] op)) := by
 unfold memB
 simp only [List.any_cons, List.any_nil, Bool.or_false]
 cases y
 ·rfl
 ·cases decide (b = 1)
  ·rfl
  ·cases decide (op = 3) <;> rfl
theorem j4 : (bif x then (bif decide (a = 1) then (some (decide (op = 3))) else (some false)) else (some false)) = some (x && (decide (a = 1) && decide (op = 3))) := by
 cases x
 ·rfl
 ·cases decide (a = 1) <;> rfl
theorem j5 : (bif decide (op = 3) then (bif x then (bif decide (a = 0) then (some true) else (bif y then (some (decide (b = 0))) else (some false))) else (bif y then (some (decide (b = 0))) else (some false))) else (bif decide (op = 8) then (bif x then (bif decide (a = 0) then (some true) else (bif y then (some (decide (b = 0))) else (some false))) else (bif y then (some (decide (b = 0))) else (some false))) else (some false))) = some (((x && decide (a = 0)) || (y && decide (b = 0))) && memB [3, 8] op) := by
 unfold memB
 simp only [List.any_cons, List.any_nil, Bool.or_false]
 cases x <;> cases decide (a = 0) <;> cases y <;> cases decide (b = 0) <;> cases decide (op = 3) <;> cases decide (op = 8) <;> rfl
theorem j6 : (bif decide (op = 2) then (some true) else (bif decide (op = 10) then (some true) else (bif decide (op = 15) then (some true) else (bif decide (op = 16) then (some true) else (some (decide (op = 17))))))) = some (memB [2, 10, 15, 16, 17] op) := by
 unfold memB
 simp only [List.any_cons, List.any_nil, Bool.or_false]
 cases decide (op = 2) <;> cases decide (op = 10) <;> cases decide (op = 15) <;> cases decide (op = 16) <;> rfl
theorem j7 : (bif decide (op = 8) then (some true) else (some (decide (op = 9)))) = some (memB [8, 9] op) := by
 unfold memB
 simp only [List.any_cons, List.any_nil, Bool.or_false]
 cases decide (op = 8) <;> rfl
end
theorem bif_rI {c : Bool} {p q : tInstD} : (bif c then some (rI p) else some (rI q)) = some (rI (bif c then p else q)) := by cases c <;> rfl
theorem specTwo (k : Nat) {i : tInstD} (h : i.2.2.2.2.2.2.1.length ≤ 1048576) (a : Int) (x : Bool) (b : Int) (y : Bool) : U64.f k i a x b y = some (rI (twoF i a x b y)) := by
 unfold U64.f
 rw [specWidth, Option.bind_some]
 simp only [j1, j2, j3, j4, j5, j6, j7, Option.bind_some, specConstI, specCopyI, specKeep k h]
 show (bif _ then some (rI (copyI (widthI i) i.2.2.1)) else bif _ then some (rI (copyI (widthI i) i.2.2.2.1)) else bif _ then some (rI (copyI (widthI i) i.2.2.1)) else bif _ then some (rI (copyI (widthI i) i.2.2.2.1)) else bif _ then some (rI (constI (widthI i) 0)) else bif _ then some (rI i) else bif _ then some (rI (constI (widthI i) 0)) else bif _ then some (rI (constI (widthI i) 1)) else bif _ then some (rI (copyI (widthI i) i.2.2.1)) else some (rI i)) = _
 simp only [bif_rI]
 rfl
noncomputable def binR (op w a b : Int) : Int × Int := (binary_one op w a b 0).choose
theorem specBinR (k : Nat) (op w a b : Int) : U61.f k op w a b = some (IIQ (binR op w a b)) := (binary_one op w a b 0).choose_spec.1
theorem implBinR (k : Nat) (op w a b : Int) : U154.f k op w a b = some (IIQ (binR op w a b)) := (binary_one op w a b 0).choose_spec.2
noncomputable def castR (op t w v : Int) : Int × Bool := (casted_one op t w v 0).choose
theorem specCastR (k : Nat) (op t w v : Int) : U65.f k op t w v = some (IBQ (castR op t w v)) := (casted_one op t w v 0).choose_spec.1
theorem implCastR (k : Nat) (op t w v : Int) : U159.f k op t w v = some (IBQ (castR op t w v)) := (casted_one op t w v 0).choose_spec.2
noncomputable def binF (i : tInstD) (p q : Int × Bool) : tInstD :=
 bif p.2 && q.2 then (bif decide ((binR i.1 i.2.1 p.1 q.1).2 = 0) then constI (widthI i) (binR i.1 i.2.1 p.1 q.1).1 else i) else twoF i p.1 p.2 q.1 q.2
noncomputable def foldF (f : tFuncD) (i : tInstD) : tInstD :=
 bif inB 1 17 i.1 then binF i (constP f i.2.2.1) (constP f i.2.2.2.1) else
 bif inB 18 20 i.1 && (constP f i.2.2.1).2 then (bif (castR i.1 (typeOf f i.2.2.1) i.2.1 (constP f i.2.2.1).1).2 then constI i.2.1 (castR i.1 (typeOf f i.2.2.1) i.2.1 (constP f i.2.2.1).1).1 else i) else
 bif decide (i.1 = 22) && (((constP f i.2.2.1).2 && decide ((constP f i.2.2.1).1 = 1)) || decide (i.2.2.2.1 = i.2.2.2.2.1)) then copyI i.2.1 i.2.2.2.1 else
 bif decide (i.1 = 22) && (constP f i.2.2.1).2 then copyI i.2.1 i.2.2.2.2.1 else
 bif decide (i.1 = 27) && ((constP f i.2.2.1).2 && valB i.2.1 (constP f i.2.2.1).1) then constI i.2.1 (constP f i.2.2.1).1 else i
section
variable {funcs : Int} {f : tFuncD} {i : tInstD}
theorem inst_a (hf : Fm funcs f) {n : Int} (h : instB (cntB f) n i = true) : 0 ≤ i.2.2.1 ∧ i.2.2.1 ≤ 100 := by
 have h60 := hf.cnt
 simp only [instB, Bool.and_eq_true, List.all_eq_true] at h
 have hops := h.1.1.1.2
 have hz := h.1.1.2
 have key : opsB i = [] ∨ i.2.2.1 ∈ opsB i ∨ i.1 = 26 := by
  by_cases h26 : i.1 = 26
  ·exact .inr (.inr h26)
  ·unfold opsB
   rw [dneg h26]
   cases inB 1 17 i.1 <;> cases decide (i.1 = 24) <;> cases inB 18 20 i.1 <;> cases decide (i.1 = 23) <;> cases decide (i.1 = 25) <;> cases decide (i.1 = 27) <;> cases decide (i.1 = 22) <;> simp
 have zero : named i = 0 → 0 ≤ i.2.2.1 ∧ i.2.2.1 ≤ 100 := fun hn => by
  unfold zerosB at hz
  rw [hn] at hz
  simp only [List.drop_zero, List.all_cons, Bool.and_eq_true, decide_eq_true_eq] at hz
  omega
 by_cases h26 : i.1 = 26
 ·exact zero (by unfold named; rw [dpos h26]; rfl)
 ·rcases key with h | h | h
  ·exact zero (by unfold named; rw [dneg h26, h]; rfl)
  ·have := vid_of (f := f) (hops _ h)
   exact ⟨this.1, by have := this.2; omega⟩
  ·exact (h26 h).elim
theorem inst_b (hf : Fm funcs f) {n : Int} (h : instB (cntB f) n i = true) (h17 : inB 1 17 i.1 = true) : 0 ≤ i.2.2.2.1 ∧ i.2.2.2.1 ≤ 100 := by
 have h60 := hf.cnt
 simp only [instB, Bool.and_eq_true, List.all_eq_true] at h
 have := vid_of (f := f) (h.1.1.1.2 i.2.2.2.1 (by unfold opsB; rw [h17]; simp))
 exact ⟨this.1, by have := this.2; omega⟩
theorem inst_c (h : instB (cntB f) funcs i = true) (h20 : inB 18 20 i.1 = true) : vid f i.2.2.1 := by
 simp only [instB, Bool.and_eq_true, List.all_eq_true] at h
 have hr := inB_iff.1 h20
 refine vid_of (h.1.1.1.2 i.2.2.1 ?_)
 unfold opsB
 rw [show inB 1 17 i.1 = false by unfold inB; rw [dneg (show ¬ i.1 ≤ 17 by omega), Bool.and_false], dneg (show ¬ i.1 = 24 by omega), h20]
 simp
theorem inst_len {count n : Int} (h : instB count n i = true) : i.2.2.2.2.2.2.1.length ≤ 1048576 := by
 simp only [instB, Bool.and_eq_true, decide_eq_true_eq] at h
 have := h.1.1.1.1.1.2
 omega
theorem wid_not (h : inB 1 17 i.1 = false) : widthI i = i.2.1 := by unfold widthI; rw [h]; rfl
theorem specFold (hf : Fm funcs f) {n : Int} (h : instB (cntB f) n i = true) : Ev (fun k => U66.f k f i) (rI (foldF f i)) := by
 have hl := inst_len h
 obtain ⟨a0, a1⟩ := inst_a hf h
 unfold U66.f foldF
 refine Ev.bind (specConst hf a0 a1) (Ev.bind (Ev.all fun k => specIn k _ _ _) ?_)
 generalize constP f i.2.2.1 = p
 cases h17 : inB 1 17 i.1 with
 | true =>
  obtain ⟨b0, b1⟩ := inst_b hf h h17
  refine Ev.pos rfl (Ev.bind (specConst hf b0 b1) ?_)
  generalize constP f i.2.2.2.1 = q
  refine Ev.all fun k => ?_
  simp only [specTwo k hl, specBinR, specWidth, specConstI, specKeep k hl, Option.bind_some, constQ, cond_true]
  unfold binF
  cases p.2 with
  | false => rfl
  | true =>
   cases q.2 with
   | false => rfl
   | true =>
    show (bif decide ((binR i.1 i.2.1 p.1 q.1).2 = 0) then some (rI _) else some (rI _)) = _
    cases decide ((binR i.1 i.2.1 p.1 q.1).2 = 0) <;> rfl
 | false =>
  refine Ev.neg rfl ?_
  cases h20 : inB 18 20 i.1 with
  | true =>
   have v := inst_c h h20
   have hT := specType hf v.1 v.2
   have h22 : decide (i.1 = 22) = false := dneg (by have := inB_iff.1 h20; omega)
   have h27 : decide (i.1 = 27) = false := dneg (by have := inB_iff.1 h20; omega)
   cases hp : p.2 with
   | true =>
    refine Ev.bind (a := true) (Ev.all fun k => ?_) (Ev.pos rfl (Ev.bind hT (Ev.all fun k => ?_)))
    ·simp only [specIn, h20, Option.bind_some, cond_true]
     show some p.2 = _
     rw [hp]
    ·simp only [specCastR, specConstI, specKeep k hl, Option.bind_some, constQ, cond_false, Bool.and_true, cond_true]
     cases (castR i.1 (typeOf f i.2.2.1) i.2.1 p.1).2 <;> rfl
   | false =>
    refine Ev.bind (a := false) (Ev.all fun k => ?_) (Ev.neg rfl (Ev.all fun k => ?_))
    ·simp only [specIn, h20, Option.bind_some, cond_true]
     show some p.2 = _
     rw [hp]
    ·simp only [h22, h27, cond_false, Option.bind_some, constQ, hp, specKeep k hl]
     rfl
  | false =>
   refine Ev.bind (a := false) (Ev.all fun k => by simp only [specIn, h20, Option.bind_some, cond_false]) (Ev.neg rfl (Ev.all fun k => ?_))
   rw [show decide (p.1 = 1) = decide ((constQ p).1.1.1 = 1) from rfl]
   generalize decide ((constQ p).1.1.1 = 1) = x1
   dsimp only [constQ]
   simp only [specVal, specConstI, specCopyI, specKeep k hl, Option.bind_some]
   cases decide (i.1 = 22) <;> cases p.2 <;> cases x1 <;> cases decide (i.2.2.2.1 = i.2.2.2.2.1) <;> cases decide (i.1 = 27) <;> cases valB i.2.1 p.1 <;> rfl
end
theorem band_le (x : Int) {t : Nat} (ht : t < 8589934592) : 0 ≤ band .i64 x (t : Int) ∧ band .i64 x (t : Int) ≤ (t : Int) := by
 show 0 ≤ IntKind.i64.wrap (((BitVec.ofInt 64 x &&& BitVec.ofInt 64 (t : Int)).toNat : Nat) : Int) ∧ IntKind.i64.wrap (((BitVec.ofInt 64 x &&& BitVec.ofInt 64 (t : Int)).toNat : Nat) : Int) ≤ _
 have h1 : (BitVec.ofInt 64 x &&& BitVec.ofInt 64 (t : Int)).toNat ≤ t := by
  rw [BitVec.toNat_and, BitVec.ofInt_natCast, BitVec.toNat_ofNat, Nat.mod_eq_of_lt (by omega)]
  exact Nat.and_le_right
 rw [wrap_id (by omega) (by omega)]
 omega
theorem valB_mk {w v : Int} (hw : wOk w = true) (h0 : 0 ≤ v) (h1 : v ≤ topOf w) : valB w v = true := by
 simp only [valB, Bool.and_eq_true, inB, decide_eq_true_eq]
 exact ⟨hw, h0, h1⟩
theorem mask_range {w : Int} (hw : wOk w = true) (x : Int) : valB w (maskI w x) = true := by
 have : 0 ≤ maskI w x ∧ maskI w x ≤ topOf w := by
  unfold maskI
  rw [hw, cond_true]
  rcases topOf_cases hw with h | h | h | h <;> rw [h.2]
  ·exact band_le x (t := 1) (by decide)
  ·exact band_le x (t := 255) (by decide)
  ·exact band_le x (t := 65535) (by decide)
  ·exact band_le x (t := 4294967295) (by decide)
 exact valB_mk hw this.1 this.2
theorem two_bit {op w a b : Int} (h1 : 14 ≤ op) (h2 : op ≤ 17) (ha : valB w a = true) (hb : valB w b = true) (k : Nat) : ∃ x, U59.f k op w a b = some (one x) ∧ (x = 0 ∨ x = 1) := by
 have hop : op = 14 ∨ op = 15 ∨ op = 16 ∨ op = 17 := by omega
 unfold U59.f
 simp only [specSign k ha, specSign k hb, Option.bind_some]
 rcases hop with rfl | rfl | rfl | rfl
 ·by_cases c : a = b <;> simp [U57.f, c]
 ·by_cases c : a = b <;> simp [U57.f, c]
 ·by_cases c : a < b <;> simp [U57.f, c]
 ·by_cases c : sgnI w a < sgnI w b <;> simp [U57.f, c]
theorem mask_bit {op w a b x : Int} (hop : 1 ≤ op ∧ op ≤ 17) (hw : wOk w = true) (ha : valB w a = true) (hb : valB w b = true) (e : U59.f 0 op w a b = some (one x)) : valB (resW op w) (maskI w x) = true := by
 unfold resW
 rw [hw]
 by_cases c : 14 ≤ op
 ·obtain ⟨y, e1, h⟩ := two_bit c hop.2 ha hb 0
  rw [e] at e1
  have hx : x = y := congrArg (·.1.1.1) (Option.some.inj e1)
  subst hx
  rw [dpos c]
  show valB 1 (maskI w x) = true
  rcases wOk_cases hw with rfl | rfl | rfl | rfl <;> rcases h with rfl | rfl <;> decide +kernel
 ·rw [dneg c]
  exact mask_range hw x
theorem bin_val {op w a b : Int} (h : (binR op w a b).2 = 0) (hop : inB 1 17 op = true) (hw : wOk w = true) : valB (resW op w) (binR op w a b).1 = true := by
 have key : ∃ r, U61.f 0 op w a b = some (IIQ r) ∧ (r.2 = 0 → valB (resW op w) r.1 = true) := by
  have hr : 1 ≤ op ∧ op ≤ 17 := by simpa [inB] using hop
  unfold U61.f U55.f
  simp only [specIn, specVal, Option.bind_some]
  rw [hop]
  cases ha : valB w a with
  | false => exact ⟨(0, 2), rfl, fun h => absurd h (by decide)⟩
  | true =>
   cases hb : valB w b with
   | false => exact ⟨(0, 2), rfl, fun h => absurd h (by decide)⟩
   | true =>
    simp only [Bool.not_true, cond_false]
    cases hdv : inB 4 7 op with
    | true =>
     by_cases hz : b = 0
     ·subst hz; exact ⟨(0, 1), rfl, fun h => absurd h (by decide)⟩
     ·obtain ⟨x, y, e1, e2, e3⟩ := two_one hr.1 hr.2 ha hb (fun _ _ => hz) 0
      simp only [cond_true, dneg hz, cond_false, e1, Option.bind_some, specMask]
      exact ⟨(maskI w x, 0), rfl, fun _ => mask_bit hr hw ha hb e1⟩
    | false =>
     obtain ⟨x, y, e1, e2, e3⟩ := two_one hr.1 hr.2 ha hb (fun u v => by
      have : inB 4 7 op = true := by simp [inB, u, v]
      rw [this] at hdv; cases hdv) 0
     simp only [cond_false, e1, Option.bind_some, specMask]
     exact ⟨(maskI w x, 0), rfl, fun _ => mask_bit hr hw ha hb e1⟩
 obtain ⟨r, e, hr⟩ := key
 rw [specBinR] at e
 have e1 : (binR op w a b).1 = r.1 := congrArg (·.1.1.1) (Option.some.inj e)
 have e2 : (binR op w a b).2 = r.2 := congrArg (·.1.2.1.1) (Option.some.inj e)
 rw [e1]
 exact hr (e2 ▸ h)
theorem val_wide {t w v : Int} (hw : wOk w = true) (hv : valB t v = true) (h : t < w) : valB w v = true := by
 obtain ⟨ht, h0, h1⟩ := valB_of hv
 refine valB_mk hw h0 (Int.le_trans h1 ?_)
 rcases topOf_cases ht with a | a | a | a <;> rcases topOf_cases hw with b | b | b | b <;> rw [a.2, b.2] <;> omega
theorem cast_val {op t w v : Int} (h : (castR op t w v).2 = true) : valB w (castR op t w v).1 = true := by
 have key : ∃ r, U65.f 0 op t w v = some (IBQ r) ∧ (r.2 = true → valB w r.1 = true) := by
  unfold U65.f
  simp only [specVal, specW, specMask, Option.bind_some]
  cases hv : valB t v with
  | false => exact ⟨(0, false), rfl, fun h => by cases h⟩
  | true =>
   simp only [specSign 0 hv, Option.bind_some]
   cases hw : wOk w with
   | false => exact ⟨(0, false), rfl, fun h => by cases h⟩
   | true =>
    cases decide (op = 18) <;> cases decide (op = 19) <;> cases decide (op = 20) <;> cases hl : decide (t < w) <;> cases decide (w < t)
    all_goals first
     | exact ⟨(0, false), rfl, fun h => by cases h⟩
     | exact ⟨(v, true), rfl, fun _ => val_wide hw hv (of_decide_eq_true hl)⟩
     | exact ⟨(maskI w (sgnI t v), true), rfl, fun _ => mask_range hw _⟩
     | exact ⟨(maskI w v, true), rfl, fun _ => mask_range hw _⟩
 obtain ⟨r, e, hr⟩ := key
 rw [specCastR] at e
 have e1 : (castR op t w v).1 = r.1 := congrArg (·.1.1.1) (Option.some.inj e)
 have e2 : (castR op t w v).2 = r.2 := congrArg (·.1.2.1.1) (Option.some.inj e)
 rw [e1]
 exact hr (e2 ▸ h)
theorem instB_const {c n w v : Int} (h : valB w v = true) : instB c n (constI w v) = true := by
 have hw := (valB_of h).1
 have e1 : widB (constI w v) = wOk w := rfl
 have e2 : immB (constI w v) n = valB w v := rfl
 unfold instB
 rw [e1, e2, hw, h]
 rfl
theorem instB_copy {c n w a : Int} (hw : wOk w = true) (ha : inB 0 (c - 1) a = true) : instB c n (copyI w a) = true := by
 have e1 : widB (copyI w a) = wOk w := rfl
 have e3 : ((opsB (copyI w a)).all (inB 0 (c - 1))) = (inB 0 (c - 1) a && true) := rfl
 unfold instB
 rw [e1, e3, hw, ha]
 rfl
theorem instB_bif {c n : Int} {b : Bool} {p q : tInstD} (h : instB c n p = true) (h' : instB c n q = true) : instB c n (bif b then p else q) = true := by cases b <;> assumption
section
variable {f : tFuncD} {i : tInstD} {n : Int}
theorem inst_ops {c : Int} (h : instB c n i = true) : ∀ id ∈ opsB i, inB 0 (c - 1) id = true := by
 simp only [instB, Bool.and_eq_true, List.all_eq_true] at h
 exact h.1.1.1.2
theorem inst_w {c : Int} (h : instB c n i = true) (h1 : i.1 ≠ 23) (h2 : i.1 ≠ 24) (h3 : i.1 ≠ 25) : wOk i.2.1 = true := by
 simp only [instB, Bool.and_eq_true] at h
 have := h.1.2
 unfold widB at this
 rw [dneg h2, dneg h3, dneg h1] at this
 exact this
theorem resW_ok {op w : Int} (hw : wOk w = true) : wOk (resW op w) = true := by
 unfold resW
 rw [hw]
 by_cases c : 14 ≤ op
 ·rw [dpos c]; rfl
 ·rw [dneg c]; exact hw
theorem foldF_inst {c : Int} (h : instB c n i = true) : instB c n (foldF f i) = true := by
 have ho := inst_ops h
 unfold foldF
 cases h17 : inB 1 17 i.1 with
 | true =>
  have hr := inB_iff.1 h17
  have e : opsB i = [i.2.2.1, i.2.2.2.1] := by unfold opsB; rw [h17]; rfl
  rw [e] at ho
  have ha := ho i.2.2.1 (by simp)
  have hb := ho i.2.2.2.1 (by simp)
  have hw := inst_w h (by omega) (by omega) (by omega)
  have ew : widthI i = resW i.1 i.2.1 := by unfold widthI; rw [h17]; rfl
  have hww : wOk (widthI i) = true := by rw [ew]; exact resW_ok hw
  have ht : 1 ≤ topOf (widthI i) := by rcases topOf_cases hww with x | x | x | x <;> rw [x.2] <;> decide
  show instB c n (binF i _ _) = true
  unfold binF
  cases (constP f i.2.2.1).2 && (constP f i.2.2.2.1).2 with
  | true =>
   show instB c n (bif _ then _ else _) = true
   by_cases hz : (binR i.1 i.2.1 (constP f i.2.2.1).1 (constP f i.2.2.2.1).1).2 = 0
   ·rw [dpos hz]
    exact instB_const (by rw [ew]; exact bin_val hz h17 hw)
   ·rw [dneg hz]; exact h
  | false =>
   show instB c n (twoF i _ _ _ _) = true
   unfold twoF
   have v0 : valB (widthI i) 0 = true := valB_mk hww (by omega) (by omega)
   have v1 : valB (widthI i) 1 = true := valB_mk hww (by omega) (by omega)
   exact instB_bif (instB_copy hww ha) (instB_bif (instB_copy hww hb) (instB_bif (instB_copy hww ha) (instB_bif (instB_copy hww hb) (instB_bif (instB_const v0) (instB_bif h (instB_bif (instB_const v0) (instB_bif (instB_const v1) (instB_bif (instB_copy hww ha) h))))))))
 | false =>
  show instB c n (bif _ then _ else _) = true
  have h22 : i.1 = 22 → wOk i.2.1 = true ∧ inB 0 (c - 1) i.2.2.2.1 = true ∧ inB 0 (c - 1) i.2.2.2.2.1 = true := fun e => by
   have eo : opsB i = [i.2.2.1, i.2.2.2.1, i.2.2.2.2.1] := by unfold opsB inB; rw [e]; rfl
   rw [eo] at ho
   exact ⟨inst_w h (by omega) (by omega) (by omega), ho _ (by simp), ho _ (by simp)⟩
  cases hc1 : inB 18 20 i.1 && (constP f i.2.2.1).2 with
  | true =>
   show instB c n (bif _ then _ else _) = true
   cases hr : (castR i.1 (typeOf f i.2.2.1) i.2.1 (constP f i.2.2.1).1).2 with
   | true => exact instB_const (cast_val hr)
   | false => exact h
  | false =>
   show instB c n (bif _ then _ else _) = true
   cases hc2 : decide (i.1 = 22) && (((constP f i.2.2.1).2 && decide ((constP f i.2.2.1).1 = 1)) || decide (i.2.2.2.1 = i.2.2.2.2.1)) with
   | true =>
    simp only [Bool.and_eq_true, decide_eq_true_eq] at hc2
    obtain ⟨a, b, _⟩ := h22 hc2.1
    exact instB_copy a b
   | false =>
    show instB c n (bif _ then _ else _) = true
    cases hc3 : decide (i.1 = 22) && (constP f i.2.2.1).2 with
    | true =>
     simp only [Bool.and_eq_true, decide_eq_true_eq] at hc3
     obtain ⟨a, _, b⟩ := h22 hc3.1
     exact instB_copy a b
    | false =>
     show instB c n (bif _ then _ else _) = true
     cases hc4 : decide (i.1 = 27) && ((constP f i.2.2.1).2 && valB i.2.1 (constP f i.2.2.1).1) with
     | true =>
      simp only [Bool.and_eq_true] at hc4
      exact instB_const hc4.2.2
     | false => exact h
theorem foldF_args (f : tFuncD) (i : tInstD) : (foldF f i).2.2.2.2.2.2.1.length ≤ i.2.2.2.2.2.2.1.length := by
 have hb : ∀ {c : Bool} {p q : tInstD}, p.2.2.2.2.2.2.1.length ≤ i.2.2.2.2.2.2.1.length → q.2.2.2.2.2.2.1.length ≤ i.2.2.2.2.2.2.1.length → (bif c then p else q).2.2.2.2.2.2.1.length ≤ i.2.2.2.2.2.2.1.length := fun {c} {p q} h h' => by cases c <;> assumption
 unfold foldF binF twoF
 repeat' apply hb
 all_goals first | exact Nat.le_refl _ | exact Nat.zero_le _
end
/-- An instruction without a list, as it is returned. -/
abbrev rN (i : tInstD) : (((Int × Int × Int × Int × Int × Int × Unit × Unit) × Unit) × Unit) := (((i.1, i.2.1, i.2.2.1, i.2.2.2.1, i.2.2.2.2.1, i.2.2.2.2.2.1, (), ()), ()), ())
/-- An instruction, and whether its list is the one that came in. -/
abbrev rQ (a : List Int) (p : tInstD × Bool) : (((Int × Int × Int × Int × Int × Int × Bool × Unit) × Unit) × ((List Int) × Unit)) := (((p.1.1, p.1.2.1, p.1.2.2.1, p.1.2.2.2.1, p.1.2.2.2.2.1, p.1.2.2.2.2.2.1, p.2, ()), ()), (a, ()))
theorem bif_rQ {a : List Int} {c : Bool} {p q : tInstD × Bool} : (bif c then some (rQ a p) else some (rQ a q)) = some (rQ a (bif c then p else q)) := by cases c <;> rfl
def twoK (i : tInstD) (a : Int) (x : Bool) (b : Int) (y : Bool) : tInstD × Bool :=
 bif y && (decide (b = 0) && memB [1, 2, 9, 10, 11, 12, 13] i.1) then (copyI (widthI i) i.2.2.1, false) else
 bif x && (decide (a = 0) && memB [1, 9, 10] i.1) then (copyI (widthI i) i.2.2.2.1, false) else
 bif y && (decide (b = 1) && memB [3, 4] i.1) then (copyI (widthI i) i.2.2.1, false) else
 bif x && (decide (a = 1) && decide (i.1 = 3)) then (copyI (widthI i) i.2.2.2.1, false) else
 bif ((x && decide (a = 0)) || (y && decide (b = 0))) && memB [3, 8] i.1 then (constI (widthI i) 0, false) else
 bif !decide (i.2.2.1 = i.2.2.2.1) then (i, true) else
 bif memB [2, 10, 15, 16, 17] i.1 then (constI (widthI i) 0, false) else
 bif decide (i.1 = 14) then (constI (widthI i) 1, false) else
 bif memB [8, 9] i.1 then (copyI (widthI i) i.2.2.1, false) else (i, true)
noncomputable def binK (i : tInstD) (p q : Int × Bool) : tInstD × Bool :=
 bif p.2 && q.2 then (bif decide ((binR i.1 i.2.1 p.1 q.1).2 = 0) then (constI (widthI i) (binR i.1 i.2.1 p.1 q.1).1, false) else (i, true)) else twoK i p.1 p.2 q.1 q.2
noncomputable def foldK (f : tFuncD) (i : tInstD) : tInstD × Bool :=
 bif inB 1 17 i.1 then binK i (constP f i.2.2.1) (constP f i.2.2.2.1) else
 bif inB 18 20 i.1 && (constP f i.2.2.1).2 then (bif (castR i.1 (typeOf f i.2.2.1) i.2.1 (constP f i.2.2.1).1).2 then (constI i.2.1 (castR i.1 (typeOf f i.2.2.1) i.2.1 (constP f i.2.2.1).1).1, false) else (i, true)) else
 bif decide (i.1 = 22) && (((constP f i.2.2.1).2 && decide ((constP f i.2.2.1).1 = 1)) || decide (i.2.2.2.1 = i.2.2.2.2.1)) then (copyI i.2.1 i.2.2.2.1, false) else
 bif decide (i.1 = 22) && (constP f i.2.2.1).2 then (copyI i.2.1 i.2.2.2.2.1, false) else
 bif decide (i.1 = 27) && ((constP f i.2.2.1).2 && valB i.2.1 (constP f i.2.2.1).1) then (constI i.2.1 (constP f i.2.2.1).1, false) else (i, true)
theorem bif_fst {α β : Type} (c : Bool) (p q : α × β) : (bif c then p else q).1 = bif c then p.1 else q.1 := by cases c <;> rfl
theorem twoK_F (i : tInstD) (a : Int) (x : Bool) (b : Int) (y : Bool) : (twoK i a x b y).1 = twoF i a x b y := by
 unfold twoK twoF
 simp only [bif_fst]
theorem binK_F (i : tInstD) (p q : Int × Bool) : (binK i p q).1 = binF i p q := by
 unfold binK binF
 simp only [bif_fst, twoK_F]
theorem foldK_F (f : tFuncD) (i : tInstD) : (foldK f i).1 = foldF f i := by
 unfold foldK foldF
 simp only [bif_fst, binK_F]
/-- The list is the one that came in, or there is none. -/
def ArgOK (i : tInstD) (p : tInstD × Bool) : Prop := p.1.2.2.2.2.2.2.1 = bif p.2 then i.2.2.2.2.2.2.1 else []
theorem argOK_bif {i : tInstD} {c : Bool} {p q : tInstD × Bool} (h : ArgOK i p) (h' : ArgOK i q) : ArgOK i (bif c then p else q) := by cases c <;> assumption
theorem argOK_keep (i : tInstD) : ArgOK i (i, true) := rfl
theorem argOK_const (i : tInstD) (w v : Int) : ArgOK i (constI w v, false) := rfl
theorem argOK_copy (i : tInstD) (w v : Int) : ArgOK i (copyI w v, false) := rfl
theorem foldK_arg (f : tFuncD) (i : tInstD) : ArgOK i (foldK f i) := by
 unfold foldK binK twoK
 repeat' apply argOK_bif
 all_goals first | exact argOK_keep i | exact argOK_const _ _ _ | exact argOK_copy _ _ _
/-- The instruction that is stored. -/
theorem foldK_store {α : Type} (f : tFuncD) (i : tInstD) (K : tInstD → α) : (bif (foldK f i).2 then K ((foldK f i).1.1, (foldK f i).1.2.1, (foldK f i).1.2.2.1, (foldK f i).1.2.2.2.1, (foldK f i).1.2.2.2.2.1, (foldK f i).1.2.2.2.2.2.1, i.2.2.2.2.2.2.1, ()) else K ((foldK f i).1.1, (foldK f i).1.2.1, (foldK f i).1.2.2.1, (foldK f i).1.2.2.2.1, (foldK f i).1.2.2.2.2.1, (foldK f i).1.2.2.2.2.2.1, [], ())) = K (foldF f i) := by
 rw [← foldK_F]
 have h := foldK_arg f i
 unfold ArgOK at h
 generalize foldK f i = p at h ⊢
 obtain ⟨⟨a, b, c, d, e, g, l, u⟩, q⟩ := p
 cases q with
 | true =>
  have h' : l = i.2.2.2.2.2.2.1 := h
  subst h'; rfl
 | false =>
  have h' : l = [] := h
  subst h'; rfl
theorem implConstI (k : Nat) {i : tInstD} (h : i.1 = 24 ∨ i.1 = 25 → i.2.1 = 0) (v : Int) : U155.f k i v = some (rN (constI (widthI i) v)) := by
 unfold U155.f
 rw [implWidth k h]; rfl
theorem implCopyI (k : Nat) {i : tInstD} (h : i.1 = 24 ∨ i.1 = 25 → i.2.1 = 0) (a : Int) : U157.f k i a = some (rN (copyI (widthI i) a)) := by
 unfold U157.f
 rw [implWidth k h]; rfl
theorem isL (l : List Int) (v : Int) (h : l.length ≤ 1000) : ∀ (d i k : Nat), i + d = l.length → d < k → U106.l0 k l v (l.length : Int) (i : Int) = some (one (ixF (fun x => decide (v = x)) (l.drop i) i)) := by
 intro d
 induction d with
 | zero =>
  intro i k hi hk
  obtain rfl : i = l.length := by omega
  obtain ⟨k, rfl⟩ : ∃ j, k = j + 1 := ⟨k - 1, by omega⟩
  rw [List.drop_length]
  show U106.l0_ k (U106.l0 k) l v _ _ = _
  unfold U106.l0_
  rw [head_end]; rfl
 | succ d ih =>
  intro i k hi hk
  have hlt : i < l.length := by omega
  obtain ⟨k, rfl⟩ : ∃ j, k = j + 1 := ⟨k - 1, by omega⟩
  rw [List.drop_eq_getElem_cons hlt]
  show U106.l0_ k (U106.l0 k) l v _ _ = _
  unfold U106.l0_ ixF
  simp only [head_in hlt, head_0, Bool.and_self, cond_true, get_in hlt, wrap_nat (show i < 9223372036854775807 by omega)]
  cases decide (v = l[i]) with
  | true => rfl
  | false => exact ih (i + 1) k (by omega) (by omega)
theorem implIs (k : Nat) (l : List Int) (v : Int) (h : l.length ≤ 1000) (hk : l.length < k) : U156.f k v l = some (one (memB l v)) := by
 unfold U156.f U107.f U106.f
 have := isL l v h l.length 0 k (by omega) hk
 rw [show ((0 : Nat) : Int) = 0 from rfl, List.drop_zero] at this
 rw [this]
 show some (((decide (0 ≤ ixF (fun x => decide (v = x)) l 0), ()), ()), ()) = _
 rw [ixF_any]; rfl
section
variable (k : Nat) (op a b : Int) (x y : Bool)
theorem i1 (l : List Int) (m : Int) (h : l.length ≤ 1000) (hk : l.length < k) : (bif y then (bif decide (b = m) then (Option.bind (U156.f k op l) fun r5 => some r5.1.1.1) else (some false)) else (some false)) = some (y && (decide (b = m) && memB l op)) := by
 rw [implIs k l op h hk]
 cases y
 ·rfl
 ·cases decide (b = m) <;> rfl
theorem i5 (hk : 10 < k) : (bif x then (bif decide (a = 0) then (Option.bind (U156.f k op [3, 8]) fun r16 => some r16.1.1.1) else (bif y then (bif decide (b = 0) then (Option.bind (U156.f k op [3, 8]) fun r17 => some r17.1.1.1) else (some false)) else (some false))) else (bif y then (bif decide (b = 0) then (Option.bind (U156.f k op [3, 8]) fun r18 => some r18.1.1.1) else (some false)) else (some false))) = some (((x && decide (a = 0)) || (y && decide (b = 0))) && memB [3, 8] op) := by
 rw [implIs k [3, 8] op (by decide) (by simp; omega)]
 cases x <;> cases decide (a = 0) <;> cases y <;> cases decide (b = 0) <;> rfl
end
section
variable {funcs : Int} {f : tFuncD} {i : tInstD}
theorem implBinF (hs : Small tFunc f) (hf : Fm funcs f) {n : Int} (h : instB (cntB f) n i = true) (h17 : inB 1 17 i.1 = true) : Ev (fun k => U158.f k f i.1 i.2.1 i.2.2.1 i.2.2.2.1 i.2.2.2.2.1 i.2.2.2.2.2.1 i.2.2.2.2.2.2.1) (rQ i.2.2.2.2.2.2.1 (binK i (constP f i.2.2.1) (constP f i.2.2.2.1))) := by
 have hv := instB_void h
 obtain ⟨a0, a1⟩ := inst_a hf h
 obtain ⟨b0, b1⟩ := inst_b hf h h17
 unfold U158.f
 refine Ev.bind (implConst hs hf a0 a1) (Ev.bind (implConst hs hf b0 b1) ?_)
 generalize constP f i.2.2.1 = p
 generalize constP f i.2.2.2.1 = q
 obtain ⟨p1, px⟩ := p
 obtain ⟨q1, qx⟩ := q
 refine ⟨20, fun k hk => ?_⟩
 simp only [implConstI k hv, implCopyI k hv, implBinR, Option.bind_some, i1 k _ _ _ [1, 2, 9, 10, 11, 12, 13] _ (by decide) (show (7 : Nat) < k by omega), i1 k _ _ _ [1, 9, 10] _ (by decide) (show (3 : Nat) < k by omega), i1 k _ _ _ [3, 4] _ (by decide) (show (2 : Nat) < k by omega), j4, i5 k _ _ _ _ _ (show 10 < k by omega), implIs k [2, 10, 15, 16, 17] _ (by decide) (show (5 : Nat) < k by omega), implIs k [8, 9] _ (by decide) (show (2 : Nat) < k by omega)]
 have two : ∀ x y : Bool, (bif y && (decide (q1 = 0) && memB [1, 2, 9, 10, 11, 12, 13] i.1) then some (rQ i.2.2.2.2.2.2.1 (copyI (widthI i) i.2.2.1, false)) else
   bif x && (decide (p1 = 0) && memB [1, 9, 10] i.1) then some (rQ i.2.2.2.2.2.2.1 (copyI (widthI i) i.2.2.2.1, false)) else
   bif y && (decide (q1 = 1) && memB [3, 4] i.1) then some (rQ i.2.2.2.2.2.2.1 (copyI (widthI i) i.2.2.1, false)) else
   bif x && (decide (p1 = 1) && decide (i.1 = 3)) then some (rQ i.2.2.2.2.2.2.1 (copyI (widthI i) i.2.2.2.1, false)) else
   bif ((x && decide (p1 = 0)) || (y && decide (q1 = 0))) && memB [3, 8] i.1 then some (rQ i.2.2.2.2.2.2.1 (constI (widthI i) 0, false)) else
   bif !decide (i.2.2.1 = i.2.2.2.1) then some (rQ i.2.2.2.2.2.2.1 (i, true)) else
   bif memB [2, 10, 15, 16, 17] i.1 then some (rQ i.2.2.2.2.2.2.1 (constI (widthI i) 0, false)) else
   bif decide (i.1 = 14) then some (rQ i.2.2.2.2.2.2.1 (constI (widthI i) 1, false)) else
   bif memB [8, 9] i.1 then some (rQ i.2.2.2.2.2.2.1 (copyI (widthI i) i.2.2.1, false)) else some (rQ i.2.2.2.2.2.2.1 (i, true))) = some (rQ i.2.2.2.2.2.2.1 (twoK i p1 x q1 y)) := fun x y => by
  simp only [bif_rQ]
  rfl
 unfold binK
 cases px with
 | false => exact two false qx
 | true =>
  cases qx with
  | false => exact two true false
  | true =>
   show (bif decide ((binR i.1 i.2.1 p1 q1).2 = 0) then some (rQ i.2.2.2.2.2.2.1 (constI (widthI i) (binR i.1 i.2.1 p1 q1).1, false)) else some (rQ i.2.2.2.2.2.2.1 (i, true))) = _
   cases decide ((binR i.1 i.2.1 p1 q1).2 = 0) <;> rfl
theorem implFold (hs : Small tFunc f) (hf : Fm funcs f) {n : Int} (h : instB (cntB f) n i = true) : Ev (fun k => U160.f k f i.1 i.2.1 i.2.2.1 i.2.2.2.1 i.2.2.2.2.1 i.2.2.2.2.2.1 i.2.2.2.2.2.2.1) (rQ i.2.2.2.2.2.2.1 (foldK f i)) := by
 have hv := instB_void h
 obtain ⟨a0, a1⟩ := inst_a hf h
 unfold U160.f foldK
 refine Ev.bind (implConst hs hf a0 a1) (Ev.bind (Ev.all fun k => implBin k _) ?_)
 cases h17 : inB 1 17 i.1 with
 | true =>
  refine Ev.pos rfl (Ev.bind (implBinF hs hf h h17) (Ev.all fun k => ?_))
  generalize binK i (constP f i.2.2.1) (constP f i.2.2.2.1) = r
  obtain ⟨j, q⟩ := r
  cases q <;> rfl
 | false =>
  have hw := wid_not h17
  generalize constP f i.2.2.1 = p
  refine Ev.neg rfl ?_
  cases h20 : inB 18 20 i.1 with
  | true =>
   have v := inst_c h h20
   have hT := implType hs hf v.1 v.2
   have h22 : decide (i.1 = 22) = false := dneg (by have := inB_iff.1 h20; omega)
   have h27 : decide (i.1 = 27) = false := dneg (by have := inB_iff.1 h20; omega)
   cases hp : p.2 with
   | true =>
    refine Ev.bind (a := true) (Ev.all fun k => ?_) (Ev.pos rfl (Ev.bind hT (Ev.all fun k => ?_)))
    ·simp only [implCast, h20, Option.bind_some, cond_true]
     show some p.2 = _
     rw [hp]
    ·simp only [implCastR, implConstI k hv, Option.bind_some, constQ, cond_false, Bool.and_true, cond_true, hw]
     cases (castR i.1 (typeOf f i.2.2.1) i.2.1 p.1).2 <;> rfl
   | false =>
    refine Ev.bind (a := false) (Ev.all fun k => ?_) (Ev.neg rfl (Ev.all fun k => ?_))
    ·simp only [implCast, h20, Option.bind_some, cond_true]
     show some p.2 = _
     rw [hp]
    ·simp only [h22, h27, cond_false, Option.bind_some, constQ, hp]
     rfl
  | false =>
   refine Ev.bind (a := false) (Ev.all fun k => by simp only [implCast, h20, Option.bind_some, cond_false]) (Ev.neg rfl (Ev.all fun k => ?_))
   rw [show decide (p.1 = 1) = decide ((constQ p).1.1.1 = 1) from rfl]
   generalize decide ((constQ p).1.1.1 = 1) = x1
   dsimp only [constQ]
   simp only [implVal, implConstI k hv, implCopyI k hv, Option.bind_some, hw]
   cases decide (i.1 = 22) <;> cases p.2 <;> cases x1 <;> cases decide (i.2.2.2.1 = i.2.2.2.2.1) <;> cases decide (i.1 = 27) <;> cases valB i.2.1 p.1 <;> rfl
end
theorem sumB_set {α : Type} (w : α → Int) : ∀ (l : List α) (b : Nat) (y : α) (h : b < l.length), w y = w l[b] → sumB w (l.set b y) = sumB w l
 | x :: l, 0, y, h, e => by simp only [List.set_cons_zero, sumB, List.getElem_cons_zero] at e ⊢; rw [e]
 | x :: l, b + 1, y, h, e => by
  simp only [List.set_cons_succ, sumB, List.getElem_cons_succ] at e ⊢
  rw [sumB_set w l b y (by simpa using h) e]
theorem sumB_set_le {α : Type} (w : α → Int) : ∀ (l : List α) (b : Nat) (y : α), (∀ h : b < l.length, w y ≤ w l[b]) → sumB w (l.set b y) ≤ sumB w l
 | [], b, y, h => Int.le_refl _
 | x :: l, 0, y, h => by
  have := h (by simp)
  simp only [List.set_cons_zero, sumB, List.getElem_cons_zero] at this ⊢
  omega
 | x :: l, b + 1, y, h => by
  have := sumB_set_le w l b y fun hb => h (Nat.succ_lt_succ hb)
  simp only [List.set_cons_succ, sumB]
  omega
section
variable {funcs : Int} {f : tFuncD}
/-- Other instructions in a block. -/
def setF (f : tFuncD) (b : Nat) (l : List tInstD) : tFuncD := (f.1, f.2.1, f.2.2.1.set b ((f.2.2.1.getD b tBlockZ).1, l, (f.2.2.1.getD b tBlockZ).2.2), ())
theorem setF_blk {b : Nat} (hb : b < f.2.2.1.length) : f.2.2.1.getD b tBlockZ = f.2.2.1[b] := getD_at _ _ _ hb
theorem setF_cnt {b : Nat} (hb : b < f.2.2.1.length) {l : List tInstD} (hl : l.length = f.2.2.1[b].2.1.length) : cntB (setF f b l) = cntB f := by
 rw [cntB_eq, cntB_eq]
 have : sumB wB (f.2.2.1.set b ((f.2.2.1.getD b tBlockZ).1, l, (f.2.2.1.getD b tBlockZ).2.2)) = sumB wB f.2.2.1 := sumB_set wB _ b _ hb (by
  rw [setF_blk hb]
  show ((f.2.2.1[b].1.length : Nat) : Int) + ((l.length : Nat) : Int) = _
  rw [hl]; rfl)
 show ((f.1.length : Nat) : Int) + sumB wB (f.2.2.1.set b _) = _
 rw [this]
theorem Fm.setF (hf : Fm funcs f) {b : Nat} (hb : b < f.2.2.1.length) {l : List tInstD} (hl : l.length = f.2.2.1[b].2.1.length) (hi : ∀ i ∈ l, instB (cntB f) funcs i = true) : Fm funcs (setF f b l) := by
 have hc := setF_cnt hb hl
 have hlen : (V.setF f b l).2.2.1.length = f.2.2.1.length := List.length_set
 have hmem : ∀ x ∈ (V.setF f b l).2.2.1, x ∈ f.2.2.1 ∨ x = (f.2.2.1[b].1, l, f.2.2.1[b].2.2) := fun x hx => by
  rcases List.mem_or_eq_of_mem_set (show x ∈ f.2.2.1.set b _ from hx) with h | h
  ·exact .inl h
  ·rw [setF_blk hb] at h; exact .inr h
 have hbm : f.2.2.1[b] ∈ f.2.2.1 := List.getElem_mem hb
 refine ⟨hf.p4, by rw [hlen]; exact hf.b1, by rw [hlen]; exact hf.b10, by rw [hc]; exact hf.cnt, hf.pw, fun x hx p hp => ?_, fun x hx i hi' => ?_, fun x hx => ?_⟩
 ·rw [hc]
  rcases hmem x hx with h | rfl
  ·exact hf.ph x h p hp
  ·exact hf.ph _ hbm p hp
 ·rw [hc]
  rcases hmem x hx with h | rfl
  ·exact hf.ins x h i hi'
  ·exact hi i hi'
 ·rw [hc, hlen]
  rcases hmem x hx with h | rfl
  ·exact hf.tm x h
  ·exact hf.tm f.2.2.1[b] hbm
theorem Fm.small (hf : Fm funcs f) : Small tFunc f := by
 have h4 := hf.p4
 have h10 := hf.b10
 refine ⟨⟨by show f.1.length ≤ 1048576; omega, fun _ _ => trivial⟩, trivial, ⟨by show f.2.2.1.length ≤ 1048576; omega, fun x hx => ⟨⟨?_, fun p hp => ⟨trivial, ⟨?_, fun _ _ => trivial⟩, trivial⟩⟩, ⟨?_, fun i hi => ⟨trivial, trivial, trivial, trivial, trivial, trivial, ⟨?_, fun _ _ => trivial⟩, trivial⟩⟩, ?_⟩⟩, trivial⟩
 ·have := (hf.phis hx).1
  show List.length (α := tPhiD) x.1 ≤ 1048576; omega
 ·have := hf.ph x hx p hp
  simp only [phiB, Bool.and_eq_true, decide_eq_true_eq] at this
  show p.2.1.length ≤ 1048576; exact Nat.le_trans this.1.2 (by decide)
 ·have := (hf.phis hx).2
  show List.length (α := tInstD) x.2.1 ≤ 1048576; omega
 ·have := (hf.vo hx hi).1
  show i.2.2.2.2.2.2.1.length ≤ 1048576; exact Nat.le_trans this (by decide)
 ·exact ⟨trivial, trivial, trivial, trivial, trivial⟩
end
theorem Ev.sk1 {R : Type} {g : Nat → Option R} {r : R} (h : Ev (fun k => g (k + 1)) r) : Ev g r := Ev.step h fun _ => rfl
/-- A loop whose state is known at each place. -/
theorem st_loop {σ R : Type} {n0 : Nat} {L : Nat → Int → σ → Option R} {T : Nat → σ → Option R} (S : Nat → σ)
  (hend : ∀ r, Ev (fun k => T k (S n0)) r → Ev (fun k => L k (n0 : Int) (S n0)) r)
  (hstep : ∀ i r, i < n0 → Ev (fun k => L k ((i + 1 : Nat) : Int) (S (i + 1))) r → Ev (fun k => L k (i : Int) (S i)) r) {r : R} (h : Ev (fun k => T k (S n0)) r) : Ev (fun k => L k 0 (S 0)) r :=
 Ev.down (G := fun i k => L k (i : Int) (S i)) (V := fun _ => r) n0 (hend r h) (fun i hi e => hstep i r hi e) 0 (Nat.zero_le _)
section
variable {α : Type}
theorem take_push {l : List α} {i : Nat} (h : i < l.length) : l.take i ++ [l[i]] = l.take (i + 1) := (List.take_succ_eq_append_getElem h).symm
theorem len_push {l : List α} {i : Nat} {x : α} (b : Nat) (hb : b ≤ 100) (h : l.length ≤ 1048576) : (List.length (l.take i) + List.length [x]) * b ≤ 140737488355328 := by
 have h1 : List.length (l.take i) + List.length [x] ≤ 1048577 := by simp only [List.length_take, List.length_cons, List.length_nil]; omega
 exact Nat.le_trans (Nat.mul_le_mul h1 hb) (by decide)
end
theorem specCopyInst (k : Nat) {i : tInstD} (h : i.2.2.2.2.2.2.1.length ≤ 1048576) : U50.f k i = some (((i.1, i.2.1, i.2.2.1, i.2.2.2.1, i.2.2.2.2.1, i.2.2.2.2.2.1, (), ()), ()), (i.2.2.2.2.2.2.1, ())) := by
 unfold U50.f
 rw [specCopy k h]; rfl
theorem specCopyBlock {x : tBlockD} (h : Small tBlock x) : Ev (fun k => U51.f k x) ((((), (), x.2.2.1, x.2.2.2.1, x.2.2.2.2.1, x.2.2.2.2.2.1, ()), ()), (x.1, x.2.1, ())) := by
 have hp : x.1.length ≤ 1048576 := h.1.1
 have hi : x.2.1.length ≤ 1048576 := h.2.1.1
 unfold U51.f
 refine st_loop (n0 := x.1.length) (L := fun k a s => U51.l0 k a x 0 0 0 0 [] [] x.2.2.1 x.2.2.2.1 x.2.2.2.2.1 x.2.2.2.2.2.1 s []) (T := fun k s => U51.l1 k 0 x 0 0 0 0 [] [] x.2.2.1 x.2.2.2.1 x.2.2.2.2.1 x.2.2.2.2.2.1 s []) (fun i => x.1.take i) (fun r e => Ev.sk1 ?_) (fun i r hlt e => Ev.sk1 ?_) ?_
 ·show Ev (fun k => U51.l0_ k (U51.l0 k) (U51.l1 k) _ _ _ _ _ _ _ _ _ _ _ _ _ _) _
  simp only [U51.l0_, head_end, cond_false]
  exact e
 ·show Ev (fun k => U51.l0_ k (U51.l0 k) (U51.l1 k) _ _ _ _ _ _ _ _ _ _ _ _ _ _) _
  simp only [U51.l0_, head_in hlt, head_0, Bool.and_self, cond_true, Int.toNat_natCast, getD_at _ _ _ hlt, wrap_nat (show i < 9223372036854775807 by omega)]
  refine Ev.bind (Ev.all fun k => specCopy k (h.1.2 _ (List.getElem_mem hlt)).2.1.1) (Ev.dp (len_push 32 (by decide) hp) ?_)
  simp only [← take_push hlt] at e
  exact e
 ·simp only [List.take_length]
  refine (st_loop (n0 := x.2.1.length) (L := fun k a s => U51.l1 k a x 0 0 0 0 [] [] x.2.2.1 x.2.2.2.1 x.2.2.2.2.1 x.2.2.2.2.2.1 x.1 s) (T := fun k s => some ((((), (), x.2.2.1, x.2.2.2.1, x.2.2.2.2.1, x.2.2.2.2.2.1, ()), ()), (x.1, s, ()))) (fun i => x.2.1.take i) (fun r e => Ev.sk1 ?_) (fun i r hlt e => Ev.sk1 ?_) (r := ((((), (), x.2.2.1, x.2.2.2.1, x.2.2.2.2.1, x.2.2.2.2.2.1, ()), ()), (x.1, x.2.1, ()))) ?_)
  ·show Ev (fun k => U51.l1_ k (U51.l0 k) (U51.l1 k) _ _ _ _ _ _ _ _ _ _ _ _ _ _) _
   simp only [U51.l1_, head_end, cond_false]
   exact e
  ·show Ev (fun k => U51.l1_ k (U51.l0 k) (U51.l1 k) _ _ _ _ _ _ _ _ _ _ _ _ _ _) _
   simp only [U51.l1_, head_in hlt, head_0, Bool.and_self, cond_true, Int.toNat_natCast, getD_at _ _ _ hlt, wrap_nat (show i < 9223372036854775807 by omega)]
   refine Ev.bind (Ev.all fun k => specCopyInst k (h.2.1.2 _ (List.getElem_mem hlt)).2.2.2.2.2.2.1.1) (Ev.dp (len_push 72 (by decide) hi) ?_)
   simp only [← take_push hlt] at e
   exact e
  ·simp only [List.take_length]
   exact Ev.cst rfl
theorem specCopyFunc {f : tFuncD} (h : Small tFunc f) : Ev (fun k => U52.f k f) ((((), f.2.1, (), ()), ()), (f.1, f.2.2.1, ())) := by
 have hb : f.2.2.1.length ≤ 1048576 := h.2.2.1.1
 unfold U52.f
 refine Ev.bind (Ev.all fun k => specCopy k h.1.1) ?_
 refine (st_loop (n0 := f.2.2.1.length) (L := fun k a s => U52.l0 k a f 0 [] [] f.2.1 f.1 s) (T := fun k s => some ((((), f.2.1, (), ()), ()), (f.1, s, ()))) (fun i => f.2.2.1.take i) (fun r e => Ev.sk1 ?_) (fun i r hlt e => Ev.sk1 ?_) ?_)
 ·show Ev (fun k => U52.l0_ k (U52.l0 k) _ _ _ _ _ _ _ _) _
  simp only [U52.l0_, head_end, cond_false]
  exact e
 ·show Ev (fun k => U52.l0_ k (U52.l0 k) _ _ _ _ _ _ _ _) _
  simp only [U52.l0_, head_in hlt, head_0, Bool.and_self, cond_true, Int.toNat_natCast, getD_at _ _ _ hlt, wrap_nat (show i < 9223372036854775807 by omega)]
  refine Ev.bind (specCopyBlock (h.2.2.1.2 _ (List.getElem_mem hlt))) (Ev.dp (len_push 80 (by decide) hb) ?_)
  simp only [← take_push hlt] at e
  exact e
 ·simp only [List.take_length]
  exact Ev.cst rfl
theorem sz_then {n s : Int} {g : Nat → Option IR} (h : Ev g (one s)) : Ev (fun k => Option.bind (g k) fun r1 => bif decide (r1.1.1.1 < 0) then some (((-1, ()), ()), ()) else some (((r1.1.1.1, ()), ()), ())) (one (if s < 0 then -1 else s)) := by
 refine Ev.bind h ?_
 by_cases hs : s < 0
 ·rw [if_pos hs]; exact Ev.pos (dpos hs) (Ev.cst rfl)
 ·rw [if_neg hs]; exact Ev.neg (dneg hs) (Ev.cst rfl)
theorem szInts : SzOK (.list (.int .i64)) U0.f := by
 intro l hw n h0 h1
 have hlen : List.length (α := Int) l ≤ 9223372036854775807 := hw.1
 have hwr : IntKind.wrap .i64 (n - (List.length (α := Int) l : Int)) = n - (List.length (α := Int) l : Int) := wrap_id (by omega) (by omega)
 have he : ∀ k, U0.f k l n = bif decide (n - (List.length (α := Int) l : Int) < 0) then some (one (-1)) else some (one (n - (List.length (α := Int) l : Int))) := fun k => by
  show (bif decide (IntKind.wrap .i64 (n - (List.length (α := Int) l : Int)) < 0) then _ else _) = _
  rw [hwr]
 by_cases hs : n - (List.length (α := Int) l : Int) < 0
 ·exact ⟨-1, Ev.all fun k => by rw [he, dpos hs]; rfl, by omega, by omega, fun h => by omega⟩
 ·exact ⟨_, Ev.all fun k => by rw [he, dneg hs]; rfl, by omega, by omega, fun h => ⟨by show List.length (α := Int) l ≤ _; omega, fun _ _ => trivial⟩⟩
theorem szPhi : SzOK tPhi U1.f := by
 intro x hw n h0 h1
 obtain ⟨s, e, a, b, c⟩ := szInts _ hw.2.1 n h0 h1
 exact ⟨_, sz_then (n := n) e, by split <;> omega, by split <;> omega, fun h => ⟨trivial, c (by split at h <;> omega), trivial⟩⟩
theorem szPhiS : SzOK (.list tPhi) U2.f := sz_list (z := tPhiZ) szPhi (L := U2.l0) (fun k l a b => rfl) fun k l a => rfl
theorem szInst : SzOK tInst U3.f := by
 intro x hw n h0 h1
 obtain ⟨s, e, a, b, c⟩ := szInts _ hw.2.2.2.2.2.2.1 n h0 h1
 exact ⟨_, sz_then (n := n) e, by split <;> omega, by split <;> omega, fun h => ⟨trivial, trivial, trivial, trivial, trivial, trivial, c (by split at h <;> omega), trivial⟩⟩
theorem szInstS : SzOK (.list tInst) U4.f := sz_list (z := tInstZ) szInst (L := U4.l0) (fun k l a b => rfl) fun k l a => rfl
theorem sz_two {n s : Int} {g : Nat → Option IR} {f : Nat → Int → Option IR} {r : Int} (h : Ev g (one s)) (h' : 0 ≤ s → Ev (fun k => f k s) (one r)) (hr : s < 0 → r = -1) : Ev (fun k => Option.bind (g k) fun r1 => bif decide (r1.1.1.1 < 0) then some (((-1, ()), ()), ()) else f k r1.1.1.1) (one r) := by
 refine Ev.bind h ?_
 by_cases hs : s < 0
 ·rw [hr hs]; exact Ev.pos (dpos hs) (Ev.cst rfl)
 ·exact Ev.neg (dneg hs) (h' (by omega))
theorem szBlock : SzOK tBlock U5.f := by
 intro x hw n h0 h1
 obtain ⟨s, e, a, b, c⟩ := szPhiS _ hw.1 n h0 h1
 by_cases hs : s < 0
 ·exact ⟨-1, sz_two (n := n) (f := fun k s => Option.bind (U4.f k x.2.1 s) fun r1 => bif decide (r1.1.1.1 < 0) then some (((-1, ()), ()), ()) else some (((r1.1.1.1, ()), ()), ())) e (fun h => by omega) (fun _ => rfl), by omega, by omega, fun h => by omega⟩
 ·obtain ⟨s', e', a', b', c'⟩ := szInstS _ hw.2.1 s (by omega) (by omega)
  exact ⟨_, sz_two (n := n) (f := fun k s => Option.bind (U4.f k x.2.1 s) fun r1 => bif decide (r1.1.1.1 < 0) then some (((-1, ()), ()), ()) else some (((r1.1.1.1, ()), ()), ())) e (fun _ => sz_then (n := n) e') (fun h => by omega), by split <;> omega, by split <;> omega, fun h => ⟨c (by omega), c' (by split at h <;> omega), trivial, trivial, trivial, trivial, trivial⟩⟩
theorem szBlockS : SzOK (.list tBlock) U6.f := sz_list (z := tBlockZ) szBlock (L := U6.l0) (fun k l a b => rfl) fun k l a => rfl
theorem szFunc : SzOK tFunc U7.f := by
 intro x hw n h0 h1
 obtain ⟨s, e, a, b, c⟩ := szInts _ hw.1 n h0 h1
 by_cases hs : s < 0
 ·exact ⟨-1, sz_two (n := n) (f := fun k s => Option.bind (U6.f k x.2.2.1 s) fun r1 => bif decide (r1.1.1.1 < 0) then some (((-1, ()), ()), ()) else some (((r1.1.1.1, ()), ()), ())) e (fun h => by omega) (fun _ => rfl), by omega, by omega, fun h => by omega⟩
 ·obtain ⟨s', e', a', b', c'⟩ := szBlockS _ hw.2.2.1 s (by omega) (by omega)
  exact ⟨_, sz_two (n := n) (f := fun k s => Option.bind (U6.f k x.2.2.1 s) fun r1 => bif decide (r1.1.1.1 < 0) then some (((-1, ()), ()), ()) else some (((r1.1.1.1, ()), ()), ())) e (fun _ => sz_then (n := n) e') (fun h => by omega), by split <;> omega, by split <;> omega, fun h => ⟨c (by omega), trivial, c' (by split at h <;> omega), trivial⟩⟩
theorem toInts {l : List Int} (h : Small (.list (.int .i64)) l) : Ev (fun k => U10.f k l) (rowR l) :=
 to_list (z := 0) (L := U10.l0) (q := fun k x h => h x) (b := 8) (R := Unit) (fun k l a b => rfl) (fun k l => rfl) h.1 (by omega) (by omega) fun x _ h r hh => hh
theorem toPhi {x : tPhiD} (h : Small tPhi x) : Ev (fun k => U11.f k x) (((x.1, (), ()), ()), (x.2.1, ())) := Ev.bind (toInts h.2.1) (Ev.cst rfl)
theorem toPhiS {l : List tPhiD} (h : Small (.list tPhi) l) : Ev (fun k => U12.f k l) (rowR l) :=
 to_list (z := tPhiZ) (L := U12.l0) (q := fun k x h => Option.bind (U11.f k x) fun r1 => h (r1.1.1.1, r1.2.1, ())) (b := 32) (R := Unit) (fun k l a b => rfl) (fun k l => rfl) h.1 (by omega) (by omega) fun x hx g r hh => Ev.bind (toPhi (h.2 x hx)) hh
theorem toInst {x : tInstD} (h : Small tInst x) : Ev (fun k => U13.f k x) (((x.1, x.2.1, x.2.2.1, x.2.2.2.1, x.2.2.2.2.1, x.2.2.2.2.2.1, (), ()), ()), (x.2.2.2.2.2.2.1, ())) := Ev.bind (toInts h.2.2.2.2.2.2.1) (Ev.cst rfl)
theorem toInstS {l : List tInstD} (h : Small (.list tInst) l) : Ev (fun k => U14.f k l) (rowR l) :=
 to_list (z := tInstZ) (L := U14.l0) (q := fun k x h => Option.bind (U13.f k x) fun r1 => h (r1.1.1.1, r1.1.1.2.1, r1.1.1.2.2.1, r1.1.1.2.2.2.1, r1.1.1.2.2.2.2.1, r1.1.1.2.2.2.2.2.1, r1.2.1, ())) (b := 72) (R := Unit) (fun k l a b => rfl) (fun k l => rfl) h.1 (by omega) (by omega) fun x hx g r hh => Ev.bind (toInst (h.2 x hx)) hh
theorem toBlock {x : tBlockD} (h : Small tBlock x) : Ev (fun k => U16.f k x) ((((), (), x.2.2.1, x.2.2.2.1, x.2.2.2.2.1, x.2.2.2.2.2.1, ()), ()), (x.1, x.2.1, ())) := Ev.bind (toPhiS h.1) (Ev.bind (toInstS h.2.1) (Ev.cst rfl))
theorem toBlockS {l : List tBlockD} (h : Small (.list tBlock) l) : Ev (fun k => U17.f k l) (rowR l) :=
 to_list (z := tBlockZ) (L := U17.l0) (q := fun k x h => Option.bind (U16.f k x) fun r1 => h (r1.2.1, r1.2.2.1, r1.1.1.2.2.1, r1.1.1.2.2.2.1, r1.1.1.2.2.2.2.1, r1.1.1.2.2.2.2.2.1, ())) (b := 80) (R := Unit) (fun k l a b => rfl) (fun k l => rfl) h.1 (by omega) (by omega) fun x hx g r hh => Ev.bind (toBlock (h.2 x hx)) hh
theorem toFunc {x : tFuncD} (h : Small tFunc x) : Ev (fun k => U18.f k x) ((((), x.2.1, (), ()), ()), (x.1, x.2.2.1, ())) := Ev.bind (toInts h.1) (Ev.bind (toBlockS h.2.2.1) (Ev.cst rfl))
theorem eqInts {l : List Int} (h : Small (.list (.int .i64)) l) : Ev (fun k => U166.f k l l) (one true) :=
 eq_list (z := 0) (L := U166.l0) (q := fun k x y g => bif !decide (x = y) then some (((false, ()), ()), ()) else g) (fun k l m a => rfl) (fun k l m => rfl) h.1 fun x _ g r hh => Ev.neg (by rw [dpos rfl]; rfl) hh
theorem Ev.skip {R : Type} {n : Int} {o : Option R} {g : Nat → Option R} {r : R} (h : Ev g r) : Ev (fun k => bif !decide (n = n) then o else g k) r := Ev.neg (by rw [dpos rfl]; rfl) h
theorem Ev.yes {g : Nat → Option BR} {f : Nat → Option BR} {o : Option BR} {r : BR} (h : Ev g (one true)) (hf : Ev f r) : Ev (fun k => Option.bind (g k) fun r1 => bif !r1.1.1.1 then o else f k) r := Ev.bind h (Ev.neg rfl hf)
theorem eqPhi {x : tPhiD} (h : Small tPhi x) : Ev (fun k => U167.f k x x) (one true) := Ev.skip (Ev.yes (eqInts h.2.1) (Ev.cst rfl))
theorem eqPhiS {l : List tPhiD} (h : Small (.list tPhi) l) : Ev (fun k => U168.f k l l) (one true) :=
 eq_list (z := tPhiZ) (L := U168.l0) (q := fun k x y g => Option.bind (U167.f k x y) fun r1 => bif !r1.1.1.1 then some (((false, ()), ()), ()) else g) (fun k l m a => rfl) (fun k l m => rfl) h.1 fun x hx g r hh => Ev.yes (eqPhi (h.2 x hx)) hh
theorem eqInst {x : tInstD} (h : Small tInst x) : Ev (fun k => U169.f k x x) (one true) := Ev.skip (Ev.skip (Ev.skip (Ev.skip (Ev.skip (Ev.skip (Ev.yes (eqInts h.2.2.2.2.2.2.1) (Ev.cst rfl)))))))
theorem eqInstS {l : List tInstD} (h : Small (.list tInst) l) : Ev (fun k => U170.f k l l) (one true) :=
 eq_list (z := tInstZ) (L := U170.l0) (q := fun k x y g => Option.bind (U169.f k x y) fun r1 => bif !r1.1.1.1 then some (((false, ()), ()), ()) else g) (fun k l m a => rfl) (fun k l m => rfl) h.1 fun x hx g r hh => Ev.yes (eqInst (h.2 x hx)) hh
theorem eqTerm {x : tTermD} : Ev (fun k => U171.f k x x) (one true) := Ev.skip (Ev.skip (Ev.skip (Ev.skip (Ev.cst rfl))))
theorem eqBlock {x : tBlockD} (h : Small tBlock x) : Ev (fun k => U172.f k x x) (one true) := Ev.yes (eqPhiS h.1) (Ev.yes (eqInstS h.2.1) (Ev.yes eqTerm (Ev.cst rfl)))
theorem eqBlockS {l : List tBlockD} (h : Small (.list tBlock) l) : Ev (fun k => U173.f k l l) (one true) :=
 eq_list (z := tBlockZ) (L := U173.l0) (q := fun k x y g => Option.bind (U172.f k x y) fun r1 => bif !r1.1.1.1 then some (((false, ()), ()), ()) else g) (fun k l m a => rfl) (fun k l m => rfl) h.1 fun x hx g r hh => Ev.yes (eqBlock (h.2 x hx)) hh
theorem eqFunc {x : tFuncD} (h : Small tFunc x) : Ev (fun k => U174.f k x x) (one true) := Ev.yes (eqInts h.1) (Ev.skip (Ev.yes (eqBlockS h.2.2.1) (Ev.cst rfl)))
/-- A function and whether there is one, as it is returned. -/
abbrev fR (c : Bool) (g : tFuncD) : (((Unit × Int × Unit × Unit) × (Bool × Unit) × Unit) × ((List Int) × (List tBlockD) × Unit)) := ((((), g.2.1, (), ()), (c, ()), ()), (g.1, g.2.2.1, ()))
/-- A block's instructions, the first n of them put in their places. -/
noncomputable def insF (f : tFuncD) (b : Nat) : Nat → List tInstD
 | 0 => (f.2.2.1.getD b tBlockZ).2.1
 | n + 1 => (insF f b n).set n (foldF (setF f b (insF f b n)) ((insF f b n).getD n tInstZ))
noncomputable def blkF (f : tFuncD) (b : Nat) : tFuncD := setF f b (insF f b (f.2.2.1.getD b tBlockZ).2.1.length)
noncomputable def funF (f : tFuncD) : Nat → tFuncD
 | 0 => f
 | n + 1 => blkF (funF f n) n
noncomputable def foldFn (f : tFuncD) : tFuncD := funF f f.2.2.1.length
section
variable {funcs : Int} {f : tFuncD}
theorem insF_len (f : tFuncD) (b : Nat) : ∀ n, (insF f b n).length = (f.2.2.1.getD b tBlockZ).2.1.length
 | 0 => rfl
 | n + 1 => (List.length_set).trans (insF_len f b n)
theorem insF_ok (hf : Fm funcs f) {b : Nat} (hb : b < f.2.2.1.length) : ∀ n, ∀ i ∈ insF f b n, instB (cntB f) funcs i = true
 | 0, i, hi => by
  rw [show insF f b 0 = (f.2.2.1.getD b tBlockZ).2.1 from rfl, setF_blk hb] at hi
  exact hf.ins _ (List.getElem_mem hb) i hi
 | n + 1, i, hi => by
  rcases List.mem_or_eq_of_mem_set (show i ∈ (insF f b n).set n _ from hi) with h | h
  ·exact insF_ok hf hb n i h
  ·by_cases hlt : n < (insF f b n).length
   ·rw [h]
    refine foldF_inst ?_
    rw [getD_at _ _ _ hlt]
    exact insF_ok hf hb n _ (List.getElem_mem hlt)
   ·have hi' : i ∈ (insF f b n).set n (foldF (setF f b (insF f b n)) ((insF f b n).getD n tInstZ)) := hi
    rw [List.set_eq_of_length_le (by omega)] at hi'
    exact insF_ok hf hb n i hi'
theorem insF_fm (hf : Fm funcs f) {b : Nat} (hb : b < f.2.2.1.length) (n : Nat) : Fm funcs (setF f b (insF f b n)) ∧ cntB (setF f b (insF f b n)) = cntB f := by
 have hl : (insF f b n).length = f.2.2.1[b].2.1.length := by rw [insF_len, setF_blk hb]
 exact ⟨hf.setF hb hl (insF_ok hf hb n), setF_cnt hb hl⟩
theorem funF_len (f : tFuncD) : ∀ n, (funF f n).2.2.1.length = f.2.2.1.length
 | 0 => rfl
 | n + 1 => (List.length_set).trans (funF_len f n)
theorem funF_12 (f : tFuncD) : ∀ n, (funF f n).1 = f.1 ∧ (funF f n).2.1 = f.2.1
 | 0 => ⟨rfl, rfl⟩
 | n + 1 => funF_12 f n
theorem funF_fm (hf : Fm funcs f) : ∀ n, n ≤ f.2.2.1.length → Fm funcs (funF f n)
 | 0, _ => hf
 | n + 1, h => (insF_fm (funF_fm hf n (by omega)) (b := n) (by rw [funF_len]; omega) _).1
theorem set_same {l : List tInstD} {j : Nat} (h : j < l.length) : l.set j (l.getD j tInstZ) = l := by rw [getD_at _ _ _ h, List.set_getElem_self]
theorem specFoldI (hf : Fm funcs f) {b : Nat} (hb : b < f.2.2.1.length) {r : U67.R} (e : Ev (fun k => U67.l0 k ((b + 1 : Nat) : Int) 0 [] [] f.2.1 f.1 (blkF f b).2.2.1) r) :
  ∀ d j, j + d = (f.2.2.1.getD b tBlockZ).2.1.length → Ev (fun k => U67.l1 k (b : Int) (j : Int) 0 [] [] f.2.1 f.1 f.2.2.1 b (f.2.2.1.getD b tBlockZ).2.2.1 (f.2.2.1.getD b tBlockZ).2.2.2.1 (f.2.2.1.getD b tBlockZ).2.2.2.2.1 (f.2.2.1.getD b tBlockZ).2.2.2.2.2.1 (f.2.2.1.getD b tBlockZ).1 (insF f b j)) r := by
 have hb10 := hf.b10
 have h60 : (f.2.2.1.getD b tBlockZ).2.1.length ≤ 60 := by rw [setF_blk hb]; exact (hf.phis (List.getElem_mem hb)).2
 intro d
 induction d with
 | zero =>
  intro j hj
  have hl := insF_len f b j
  obtain rfl : j = (f.2.2.1.getD b tBlockZ).2.1.length := by omega
  refine Ev.sk1 ?_
  show Ev (fun k => U67.l1_ k (U67.l0 k) (U67.l1 k) _ _ _ _ _ _ _ _ _ _ _ _ _ _ _) _
  simp only [U67.l1_, head_in hb, head_0, Bool.and_self, cond_true, Int.toNat_natCast, decide_true, wrap_nat (show b < 9223372036854775807 by omega)]
  exact Ev.dn (by rw [hl]; omega) e
 | succ d ih =>
  intro j hj
  have hl := insF_len f b j
  have hlt : j < (insF f b j).length := by omega
  obtain ⟨hfm, hc⟩ := insF_fm hf hb j
  have hi : instB (cntB (setF f b (insF f b j))) funcs ((insF f b j).getD j tInstZ) = true := by rw [hc, getD_at _ _ _ hlt]; exact insF_ok hf hb j _ (List.getElem_mem hlt)
  refine Ev.sk1 ?_
  show Ev (fun k => U67.l1_ k (U67.l0 k) (U67.l1 k) _ _ _ _ _ _ _ _ _ _ _ _ _ _ _) _
  simp only [U67.l1_, head_in hb, head_in hlt, head_0, Bool.and_self, cond_true, Int.toNat_natCast, decide_true, wrap_nat (show j < 9223372036854775807 by omega), set_same hlt]
  refine Ev.bind (specFold hfm hi) ?_
  exact ih (j + 1) (by omega)
theorem specFoldB (hf : Fm funcs f) : ∀ d b, b + d = f.2.2.1.length → Ev (fun k => U67.l0 k (b : Int) 0 [] [] f.2.1 f.1 (funF f b).2.2.1) ((((), f.2.1, (), ()), ()), (f.1, (foldFn f).2.2.1, ())) := by
 have hb10 := hf.b10
 intro d
 induction d with
 | zero =>
  intro b hb
  have hl := funF_len f b
  obtain rfl : b = f.2.2.1.length := by omega
  refine Ev.sk1 ?_
  show Ev (fun k => U67.l0_ k (U67.l0 k) (U67.l1 k) _ _ _ _ _ _ _) _
  simp only [U67.l0_]
  exact Ev.dn (by rw [hl]; omega) (Ev.cst rfl)
 | succ d ih =>
  intro b hb
  have hl := funF_len f b
  have hlt : b < (funF f b).2.2.1.length := by omega
  have hfm := funF_fm hf b (by omega)
  obtain ⟨e1, e2⟩ := funF_12 f b
  refine Ev.sk1 ?_
  show Ev (fun k => U67.l0_ k (U67.l0 k) (U67.l1 k) _ _ _ _ _ _ _) _
  simp only [U67.l0_, head_in hlt, head_0, Bool.and_self, cond_true, Int.toNat_natCast]
  have h := specFoldI hfm hlt (r := ((((), f.2.1, (), ()), ()), (f.1, (foldFn f).2.2.1, ()))) (by rw [e1, e2]; exact ih (b + 1) (by omega)) _ 0 (Nat.zero_add _)
  rw [e1, e2] at h
  exact h
theorem specFoldFn (hf : Fm funcs f) : Ev (fun k => U67.f k f) ((((), f.2.1, (), ()), ()), (f.1, (foldFn f).2.2.1, ())) := by
 unfold U67.f
 exact Ev.bind (specCopyFunc hf.small) (specFoldB hf _ 0 (Nat.zero_add _))
theorem implFoldI (hf : Fm funcs f) {b : Nat} (hb : b < f.2.2.1.length) {t1 t2 t3 t4 : Int} {n : Int} {r : U161.R} (e : Ev (fun k => U161.l0 k n ((b + 1 : Nat) : Int) f.1 (blkF f b).2.2.1 f.2.1 0 [] []) r) :
  ∀ d j, j + d = (f.2.2.1.getD b tBlockZ).2.1.length → Ev (fun k => U161.l1 k n (b : Int) (((f.2.2.1.getD b tBlockZ).2.1.length : Nat) : Int) (j : Int) f.1 f.2.2.1 b (f.2.2.1.getD b tBlockZ).2.2.1 (f.2.2.1.getD b tBlockZ).2.2.2.1 (f.2.2.1.getD b tBlockZ).2.2.2.2.1 (f.2.2.1.getD b tBlockZ).2.2.2.2.2.1 (f.2.2.1.getD b tBlockZ).1 (insF f b j) f.2.1 0 [] [] t1 t2 t3 t4) r := by
 have hb10 := hf.b10
 have h60 : (f.2.2.1.getD b tBlockZ).2.1.length ≤ 60 := by rw [setF_blk hb]; exact (hf.phis (List.getElem_mem hb)).2
 intro d
 induction d with
 | zero =>
  intro j hj
  obtain rfl : j = (f.2.2.1.getD b tBlockZ).2.1.length := by omega
  refine Ev.sk1 ?_
  show Ev (fun k => U161.l1_ k (U161.l0 k) (U161.l1 k) _ _ _ _ _ _ _ _ _ _ _ _ _ _ _ _ _ _ _ _ _) _
  simp only [U161.l1_, wrap_nat (show b < 9223372036854775807 by omega)]
  exact Ev.dn (by omega) e
 | succ d ih =>
  intro j hj
  have hl := insF_len f b j
  have hlt : j < (insF f b j).length := by omega
  obtain ⟨hfm, hc⟩ := insF_fm hf hb j
  have hi : instB (cntB (setF f b (insF f b j))) funcs ((insF f b j).getD j tInstZ) = true := by rw [hc, getD_at _ _ _ hlt]; exact insF_ok hf hb j _ (List.getElem_mem hlt)
  refine Ev.sk1 ?_
  show Ev (fun k => U161.l1_ k (U161.l0 k) (U161.l1 k) _ _ _ _ _ _ _ _ _ _ _ _ _ _ _ _ _ _ _ _ _) _
  simp only [U161.l1_, head_in hlt, head_0, Bool.and_self, cond_true, Int.toNat_natCast, decide_true, wrap_nat (show j < 9223372036854775807 by omega), set_same hlt]
  refine Ev.dp (by omega) (Ev.bind (implFold hfm.small hfm hi) ?_)
  exact (ih (j + 1) (by omega)).congr fun k => foldK_store (setF f b (insF f b j)) ((insF f b j).getD j tInstZ) (fun y => U161.l1 k n (b : Int) (((f.2.2.1.getD b tBlockZ).2.1.length : Nat) : Int) ((j + 1 : Nat) : Int) f.1 f.2.2.1 b (f.2.2.1.getD b tBlockZ).2.2.1 (f.2.2.1.getD b tBlockZ).2.2.2.1 (f.2.2.1.getD b tBlockZ).2.2.2.2.1 (f.2.2.1.getD b tBlockZ).2.2.2.2.2.1 (f.2.2.1.getD b tBlockZ).1 ((insF f b j).set j y) f.2.1 0 [] [] t1 t2 t3 t4)
theorem implFoldB (hf : Fm funcs f) : ∀ d b, b + d = f.2.2.1.length → Ev (fun k => U161.l0 k ((f.2.2.1.length : Nat) : Int) (b : Int) f.1 (funF f b).2.2.1 f.2.1 0 [] []) ((((), f.2.1, (), ()), ()), (f.1, (foldFn f).2.2.1, ())) := by
 have hb10 := hf.b10
 intro d
 induction d with
 | zero =>
  intro b hb
  obtain rfl : b = f.2.2.1.length := by omega
  refine Ev.sk1 ?_
  show Ev (fun k => U161.l0_ k (U161.l0 k) (U161.l1 k) _ _ _ _ _ _ _ _) _
  simp only [U161.l0_]
  exact Ev.dn (by omega) (Ev.cst rfl)
 | succ d ih =>
  intro b hb
  have hl := funF_len f b
  have hlt : b < (funF f b).2.2.1.length := by omega
  have hfm := funF_fm hf b (by omega)
  obtain ⟨e1, e2⟩ := funF_12 f b
  refine Ev.sk1 ?_
  show Ev (fun k => U161.l0_ k (U161.l0 k) (U161.l1 k) _ _ _ _ _ _ _ _) _
  simp only [U161.l0_, head_in hlt, head_0, Bool.and_self, cond_true, Int.toNat_natCast, decide_true]
  refine Ev.dp (by omega) ?_
  have h := implFoldI hfm hlt (n := ((f.2.2.1.length : Nat) : Int)) (t1 := ((funF f b).2.2.1.getD b tBlockZ).2.2.1) (t2 := ((funF f b).2.2.1.getD b tBlockZ).2.2.2.1) (t3 := ((funF f b).2.2.1.getD b tBlockZ).2.2.2.2.1) (t4 := ((funF f b).2.2.1.getD b tBlockZ).2.2.2.2.2.1) (r := ((((), f.2.1, (), ()), ()), (f.1, (foldFn f).2.2.1, ()))) (by rw [e1, e2]; exact ih (b + 1) (by omega)) _ 0 (Nat.zero_add _)
  rw [e1, e2] at h
  exact h
theorem implFoldFn (hf : Fm funcs f) : Ev (fun k => U162.f k f.2.1 f.1 f.2.2.1) (fR true (foldFn f)) := by
 unfold U162.f
 refine Ev.bind (implFoldB hf _ 0 (Nat.zero_add _)) (Ev.cst ?_)
 show some ((((), f.2.1, (), ()), (true, ()), ()), (f.1, (foldFn f).2.2.1, ())) = _
 rw [← (funF_12 f f.2.2.1.length).1, ← (funF_12 f f.2.2.1.length).2]
 rfl
end
theorem implOwnInst (k : Nat) {i : tInstD} (h : i.2.2.2.2.2.2.1.length ≤ 1048576) : U144.f k i = some (((i.1, i.2.1, i.2.2.1, i.2.2.2.1, i.2.2.2.2.1, i.2.2.2.2.2.1, (), ()), ()), (i.2.2.2.2.2.2.1, ())) := by
 unfold U144.f
 rw [implClone k h]; rfl
theorem implOwnBlock {x : tBlockD} (h : Small tBlock x) : Ev (fun k => U145.f k x) ((((), (), x.2.2.1, x.2.2.2.1, x.2.2.2.2.1, x.2.2.2.2.2.1, ()), ()), (x.1, x.2.1, ())) := by
 have hp : x.1.length ≤ 1048576 := h.1.1
 have hi : x.2.1.length ≤ 1048576 := h.2.1.1
 unfold U145.f
 refine st_loop (n0 := x.1.length) (L := fun k a s => U145.l0 k x.1 (x.1.length : Int) a x 0 0 0 0 [] [] x.2.2.1 x.2.2.2.1 x.2.2.2.2.1 x.2.2.2.2.2.1 s []) (T := fun k s => U145.l1 k x.2.1 (x.2.1.length : Int) 0 0 0 0 0 [] [] x.2.2.1 x.2.2.2.1 x.2.2.2.2.1 x.2.2.2.2.2.1 s []) (fun i => x.1.take i) (fun r e => Ev.sk1 ?_) (fun i r hlt e => Ev.sk1 ?_) ?_
 ·show Ev (fun k => U145.l0_ k (U145.l0 k) (U145.l1 k) _ _ _ _ _ _ _ _ _ _ _ _ _ _ _ _) _
  simp only [U145.l0_, head_end, cond_false]
  exact e
 ·show Ev (fun k => U145.l0_ k (U145.l0 k) (U145.l1 k) _ _ _ _ _ _ _ _ _ _ _ _ _ _ _ _) _
  simp only [U145.l0_, head_in hlt, head_0, Bool.and_self, cond_true, Int.toNat_natCast, getD_at _ _ _ hlt, wrap_nat (show i < 9223372036854775807 by omega)]
  refine Ev.bind (Ev.all fun k => implClone k (h.1.2 _ (List.getElem_mem hlt)).2.1.1) (Ev.dp (len_push 32 (by decide) hp) ?_)
  simp only [← take_push hlt] at e
  exact e
 ·simp only [List.take_length]
  refine (st_loop (n0 := x.2.1.length) (L := fun k a s => U145.l1 k x.2.1 (x.2.1.length : Int) a 0 0 0 0 [] [] x.2.2.1 x.2.2.2.1 x.2.2.2.2.1 x.2.2.2.2.2.1 x.1 s) (T := fun k s => some ((((), (), x.2.2.1, x.2.2.2.1, x.2.2.2.2.1, x.2.2.2.2.2.1, ()), ()), (x.1, s, ()))) (fun i => x.2.1.take i) (fun r e => Ev.sk1 ?_) (fun i r hlt e => Ev.sk1 ?_) (r := ((((), (), x.2.2.1, x.2.2.2.1, x.2.2.2.2.1, x.2.2.2.2.2.1, ()), ()), (x.1, x.2.1, ()))) ?_)
  ·show Ev (fun k => U145.l1_ k (U145.l0 k) (U145.l1 k) _ _ _ _ _ _ _ _ _ _ _ _ _ _ _) _
   simp only [U145.l1_, head_end, cond_false]
   exact e
  ·show Ev (fun k => U145.l1_ k (U145.l0 k) (U145.l1 k) _ _ _ _ _ _ _ _ _ _ _ _ _ _ _) _
   simp only [U145.l1_, head_in hlt, head_0, Bool.and_self, cond_true, Int.toNat_natCast, getD_at _ _ _ hlt, wrap_nat (show i < 9223372036854775807 by omega)]
   refine Ev.bind (Ev.all fun k => implOwnInst k (h.2.1.2 _ (List.getElem_mem hlt)).2.2.2.2.2.2.1.1) (Ev.dp (len_push 72 (by decide) hi) ?_)
   simp only [← take_push hlt] at e
   exact e
  ·simp only [List.take_length]
   exact Ev.cst rfl
theorem implOwnFunc {f : tFuncD} (h : Small tFunc f) : Ev (fun k => U146.f k f) ((((), f.2.1, (), ()), ()), (f.1, f.2.2.1, ())) := by
 have hb : f.2.2.1.length ≤ 1048576 := h.2.2.1.1
 unfold U146.f
 refine Ev.bind (Ev.all fun k => implClone k h.1.1) ?_
 refine (st_loop (n0 := f.2.2.1.length) (L := fun k a s => U146.l0 k f.2.2.1 (f.2.2.1.length : Int) a 0 [] [] f.2.1 f.1 s) (T := fun k s => some ((((), f.2.1, (), ()), ()), (f.1, s, ()))) (fun i => f.2.2.1.take i) (fun r e => Ev.sk1 ?_) (fun i r hlt e => Ev.sk1 ?_) ?_)
 ·show Ev (fun k => U146.l0_ k (U146.l0 k) _ _ _ _ _ _ _ _ _) _
  simp only [U146.l0_, head_end, cond_false]
  exact e
 ·show Ev (fun k => U146.l0_ k (U146.l0 k) _ _ _ _ _ _ _ _ _) _
  simp only [U146.l0_, head_in hlt, head_0, Bool.and_self, cond_true, Int.toNat_natCast, getD_at _ _ _ hlt, wrap_nat (show i < 9223372036854775807 by omega)]
  refine Ev.bind (implOwnBlock (h.2.2.1.2 _ (List.getElem_mem hlt))) (Ev.dp (len_push 80 (by decide) hb) ?_)
  simp only [← take_push hlt] at e
  exact e
 ·simp only [List.take_length]
  exact Ev.cst rfl
/-- The places that are marked, from i on. -/
def idx : List Bool → Int → List Int
 | [], _ => []
 | x :: l, i => if x = true then i :: idx l (i + 1) else idx l (i + 1)
theorem idx_ge : ∀ (l : List Bool) (i n : Int), n ∈ idx l i → i ≤ n
 | [], i, n, h => by simp [idx] at h
 | x :: l, i, n, h => by
  simp only [idx] at h
  split at h
  ·rcases List.mem_cons.1 h with rfl | h
   ·omega
   ·have := idx_ge l (i + 1) n h; omega
  ·have := idx_ge l (i + 1) n h; omega
theorem mem_idx : ∀ (l : List Bool) (i : Int) (b : Nat), (i + b) ∈ idx l i ↔ l.getD b false = true
 | [], i, b => by simp [idx]
 | x :: l, i, 0 => by
  simp only [idx]
  have hn : ¬ (i ∈ idx l (i + 1)) := fun h => by have := idx_ge _ _ _ h; omega
  by_cases hx : x = true
  ·simp [hx]
  ·rw [if_neg hx]
   simp only [Int.natCast_zero, Int.add_zero, List.getD_cons_zero]
   exact ⟨fun h => absurd h hn, fun h => absurd h hx⟩
 | x :: l, i, b + 1 => by
  have ih := mem_idx l (i + 1) b
  rw [show i + 1 + (b : Int) = i + ((b + 1 : Nat) : Int) by push_cast; omega] at ih
  simp only [idx, List.getD_cons_succ]
  split
  ·rw [List.mem_cons, ih]
   exact ⟨fun h => h.elim (fun h => by exfalso; push_cast at h; omega) id, .inr⟩
  ·exact ih
theorem mem_idx0 (l : List Bool) (b : Int) (h : 0 ≤ b) : b ∈ idx l 0 ↔ l.getD b.toNat false = true := by
 have := mem_idx l 0 b.toNat
 rw [show (0 : Int) + (b.toNat : Int) = b by omega] at this
 exact this
theorem idx_length : ∀ (l : List Bool) (i : Int), (idx l i).length ≤ l.length
 | [], i => by simp [idx]
 | x :: l, i => by
  have := idx_length l (i + 1)
  simp only [idx]
  split <;> simp <;> omega
/-- A number put into a list of numbers that rise. -/
def putI (n : Int) : List Int → List Int
 | [] => [n]
 | x :: l => if x < n then x :: putI n l else n :: x :: l
theorem putI_ge (n : Int) : ∀ (l : List Int), (∀ x ∈ l, n ≤ x) → putI n l = n :: l
 | [], _ => rfl
 | x :: l, h => by simp only [putI]; rw [if_neg (by have := h x (by simp); omega)]
theorem idx_set : ∀ (l : List Bool) (i : Int) (b : Nat), b < l.length → l.getD b false = false → idx (l.set b true) i = putI (i + b) (idx l i)
 | [], i, b, h, _ => by simp at h
 | x :: l, i, 0, h, hx => by
  simp only [List.getD_cons_zero] at hx
  subst hx
  simp only [List.set_cons_zero, idx, if_true, Int.natCast_zero, Int.add_zero]
  rw [if_neg (by decide), putI_ge]
  intro y hy
  have := idx_ge _ _ _ hy; omega
 | x :: l, i, b + 1, h, hx => by
  have ih := idx_set l (i + 1) b (by simpa using h) (by simpa using hx)
  rw [show i + 1 + (b : Int) = i + ((b + 1 : Nat) : Int) by push_cast; omega] at ih
  simp only [List.set_cons_succ, idx, ih]
  split
  ·simp only [putI]; rw [if_pos (by push_cast; omega)]
  ·rfl
def smI (l : List Int) : Prop := l.length ≤ 1048576
theorem smI_small {l : List Int} (h : l.length ≤ 200) : smI l := Nat.le_trans h (by decide)
theorem has_ev (l : List Int) (n : Int) (h : smI l) : Ev (fun k => U33.f k l n) (one (decide (n ∈ l))) := by
 have h' : l.length ≤ 1048576 := h
 refine each_ev (z := 0) (L := fun k a => U33.l0 k l n a) (V := fun m => one (decide (n ∈ m))) (q := fun k x g => bif decide (x = n) then some (((true, ()), ()), ()) else g k) (by omega) (fun k a => rfl) (Ev.cst (by simp)) fun x m g hx hg => ?_
 by_cases c : x = n
 ·exact Ev.dp c (Ev.cst (by simp [c]))
 ·refine Ev.dn c (hg.rw ?_)
  congr 1
  simp [Ne.symm c]
theorem put_l (l : List Int) (n : Int) (h : smI l) (hn : n ∉ l) : ∀ (d i : Nat), i + d = l.length → Ev (fun k => U43.l0 k l n i) (one (l.take i ++ putI n (l.drop i))) := by
 have h' : l.length ≤ 1048576 := h
 intro d
 induction d with
 | zero =>
  intro i hi
  obtain rfl : i = l.length := by omega
  refine Ev.step (g' := fun k => some (one (l ++ [n]))) (Ev.cst ?_) fun k => ?_
  ·rw [List.drop_of_length_le (Nat.le_refl _), List.take_of_length_le (Nat.le_refl _)]; rfl
  ·show U43.l0_ k (U43.l0 k) l n _ = _
   unfold U43.l0_
   simp only [head_end, head_0, cond_false, cond_true, Bool.and_self, Int.toNat_natCast, List.nil_append, List.length_nil, List.take_length, List.drop_length, List.append_nil]
   rw [dpos (show (0 : Nat) ≤ 0 by omega), dpos (show (l.length : Int) ≤ (l.length : Int) by omega), dpos (show (0 + l.length) * 8 ≤ 140737488355328 by omega), dpos (show (l.length + [n].length) * 8 ≤ 140737488355328 by simp; omega), dpos (show ((l ++ [n]).length + 0) * 8 ≤ 140737488355328 by simp; omega)]
   rfl
 | succ d ih =>
  intro i hi
  have hlt : i < l.length := by omega
  have hm : (List.take i l).length = i := by rw [List.length_take]; omega
  by_cases c : l[i] < n
  ·refine (Ev.step (ih (i + 1) (by omega)) fun k => ?_).rw ?_
   ·show U43.l0_ k (U43.l0 k) l n _ = _
    unfold U43.l0_
    simp only [head_in hlt, head_0, Bool.and_self, cond_true, get_in hlt, dpos c, wrap_nat (show i < 9223372036854775807 by omega)]
   ·rw [List.drop_eq_getElem_cons hlt, List.take_succ_eq_append_getElem hlt]
    simp only [putI]
    rw [if_pos c, List.append_assoc]; rfl
  ·have hne : ¬ l[i] = n := fun e => hn (e ▸ List.getElem_mem hlt)
   refine Ev.step (g' := fun k => some (one ((l.take i ++ [n]) ++ l.drop i))) (Ev.cst ?_) fun k => ?_
   ·have e : putI n (l.drop i) = n :: l.drop i := by
     rw [List.drop_eq_getElem_cons hlt]
     simp only [putI]
     rw [if_neg c]
    rw [e, List.append_assoc]; rfl
   ·show U43.l0_ k (U43.l0 k) l n _ = _
    unfold U43.l0_
    simp only [head_in hlt, head_0, Bool.and_self, cond_true, cond_false, get_in hlt, dneg c, dneg hne]
    simp only [Int.toNat_natCast, List.nil_append, List.length_nil, hm]
    rw [dpos (show (0 : Nat) ≤ 0 by omega), dpos (show (i : Int) ≤ (l.length : Int) by omega), dpos (show (0 + i) * 8 ≤ 140737488355328 by omega), dpos (show (i + [n].length) * 8 ≤ 140737488355328 by simp; omega), dpos (show ((l.take i ++ [n]).length + (l.drop i).length) * 8 ≤ 140737488355328 by simp; omega)]
    rfl
theorem put_ev (l : List Int) (n : Int) (h : smI l) (hn : n ∉ l) : Ev (fun k => U43.f k l n) (one (putI n l)) := by
 have := put_l l n h hn l.length 0 (by omega)
 rw [List.drop_zero, List.take_zero, List.nil_append] at this
 exact this
/-- Where an end leads. -/
def succsT (t : tTermD) : List Int := bif decide (t.1 = 2) then [t.2.2.1] else bif decide (t.1 = 3) then [t.2.2.1, t.2.2.2.1] else []
def succsOf (b : tBlockD) : List Int := succsT b.2.2
theorem succsT_len (t : tTermD) : (succsT t).length ≤ 2 := by
 unfold succsT
 cases decide (t.1 = 2) <;> cases decide (t.1 = 3) <;> simp
theorem succsOf_len (b : tBlockD) : (succsOf b).length ≤ 2 := succsT_len _
/-- All ends lead to blocks, of which there are at most ten. -/
def There (l : List tBlockD) : Prop := l.length ≤ 10 ∧ ∀ b ∈ l, ∀ s ∈ succsOf b, 0 ≤ s ∧ s < l.length
def bfs (l : List tBlockD) (w : Int) : Nat → List Int → List Bool → List Bool
 | 0, _, out => out
 | _ + 1, [], out => out
 | n + 1, b :: q, out => if b = w ∨ out.getD b.toNat false = true then bfs l w n q out else bfs l w n (q ++ succsOf (l.getD b.toNat tBlockZ)) (out.set b.toNat true)
theorem bfs_length (l : List tBlockD) (w : Int) : ∀ (n : Nat) (q : List Int) (out : List Bool), (bfs l w n q out).length = out.length
 | 0, _, _ => rfl
 | _ + 1, [], _ => rfl
 | n + 1, b :: q, out => by
  simp only [bfs]
  split
  ·exact bfs_length l w n q out
  ·rw [bfs_length l w n _ _]; simp
/-- How many are not marked. -/
def off (out : List Bool) : Nat := out.count false
theorem off_set : ∀ (out : List Bool) (b : Nat), b < out.length → out.getD b false = false → off (out.set b true) + 1 = off out
 | [], b, h, _ => by simp at h
 | x :: l, 0, h, hx => by
  simp only [List.getD_cons_zero] at hx
  subst hx
  simp [off]
 | x :: l, b + 1, h, hx => by
  have ih := off_set l b (by simpa using h) (by simpa using hx)
  unfold off at ih ⊢
  simp only [List.set_cons_succ, List.count_cons]
  omega
/-- What may stand in the queue. -/
def okq (l : List tBlockD) (q : List Int) : Prop := ∀ b ∈ q, 0 ≤ b ∧ b < (l.length : Int)
theorem okq_next {l : List tBlockD} {b : Int} {q : List Int} (h : There l) (hq : okq l (b :: q)) : okq l (q ++ succsOf (l.getD b.toNat tBlockZ)) := by
 obtain ⟨h0, h1⟩ := hq b (by simp)
 have hlt : b.toNat < l.length := by omega
 intro c hc
 rcases List.mem_append.1 hc with hc | hc
 ·exact hq c (by simp [hc])
 ·rw [getD_at l _ _ hlt] at hc
  exact h.2 _ (List.getElem_mem hlt) c hc
/-- The blocks that are reached without w. -/
def reachB (l : List tBlockD) (w : Int) : List Bool := bfs l w (3 * l.length + 1) [0] (List.replicate l.length false)
theorem reachB_length (l : List tBlockD) (w : Int) : (reachB l w).length = l.length := by unfold reachB; rw [bfs_length]; simp
theorem off_replicate (n : Nat) : off (List.replicate n false) = n := by unfold off; simp
theorem idx_replicate : ∀ (n : Nat) (i : Int), idx (List.replicate n false) i = []
 | 0, _ => rfl
 | n + 1, i => by simp only [List.replicate_succ, idx]; rw [if_neg (by decide)]; exact idx_replicate n (i + 1)
def domB (l : List tBlockD) (a b : Int) : Bool := (reachB l (-1)).getD b.toNat false && !((reachB l a).getD b.toNat false)
theorem implLeads (k : Nat) (t : tTermD) : U105.f k t = some (rowR (succsT t)) := by
 unfold U105.f succsT
 cases decide (t.1 = 2) <;> cases decide (t.1 = 3) <;> rfl
theorem specSuccs (k : Nat) (f : tFuncD) (x : Int) (h0 : 0 ≤ x) (h1 : x < (f.2.2.1.length : Int)) : U32.f k f x = some (rowR (succsOf (f.2.2.1.getD x.toNat tBlockZ))) := by
 unfold U32.f succsOf succsT
 rw [dpos h0, dpos h1]
 generalize f.2.2.1.getD x.toNat tBlockZ = b
 cases decide (b.2.2.1 = 2) <;> cases decide (b.2.2.1 = 3) <;> rfl
theorem okq_tail {l : List tBlockD} {b : Int} {q : List Int} (hq : okq l (b :: q)) : okq l q := fun c hc => hq c (by simp [hc])
theorem implReach_l (f : tFuncD) (w : Int) (ht : There f.2.2.1) : ∀ (n : Nat) (q : List Int) (out : List Bool), n ≤ 100 → okq f.2.2.1 q → out.length = f.2.2.1.length → q.length + 3 * off out ≤ n → Ev (fun k => U133.l0 k w f out q) (rowR (bfs f.2.2.1 w n q out))
 | 0, [], out, _, _, _, _ => Ev.step (g' := fun _ => some (rowR out)) (Ev.cst rfl) fun k => rfl
 | 0, b :: q, out, _, _, _, hm => by simp at hm
 | n + 1, [], out, _, _, _, _ => Ev.step (g' := fun _ => some (rowR out)) (Ev.cst rfl) fun k => rfl
 | n + 1, b :: q, out, hn, hq, ho, hm => by
  obtain ⟨h0, h1⟩ := hq b (by simp)
  simp only [List.length_cons] at hm
  refine Ev.succ ?_
  show Ev (fun k => U133.l0_ k (U133.l0 k) w f out (b :: q)) _
  unfold U133.l0_
  refine Ev.dp (show (0 : Int) < (((b :: q).length : Nat) : Int) by simp only [List.length_cons]; omega) (Ev.dd (show (0 : Nat) ≤ 0 by omega) (show (0 : Int) < (((b :: q).length : Nat) : Int) by simp only [List.length_cons]; omega) (Ev.dd (show (0 : Nat) ≤ 1 by omega) (show (1 : Int) ≤ (((b :: q).length : Nat) : Int) by simp only [List.length_cons]; omega) ?_))
  show Ev (fun k => bif decide (b = w) then U133.l0 k w f out q else _) _
  by_cases hb : b = w
  ·refine Ev.dp hb ((implReach_l f w ht n q out (by omega) (okq_tail hq) ho (by omega)).rw ?_)
   simp only [bfs]; rw [if_pos (Or.inl hb)]
  ·refine Ev.dn hb (Ev.dd h0 (show b < ((out.length : Nat) : Int) by omega) ?_)
   by_cases hv : out.getD b.toNat false = true
   ·refine Ev.pos hv ((implReach_l f w ht n q out (by omega) (okq_tail hq) ho (by omega)).rw ?_)
    simp only [bfs]; rw [if_pos (Or.inr hv)]
   ·have hf : out.getD b.toNat false = false := by simpa using hv
    have hs := succsOf_len (f.2.2.1.getD b.toNat tBlockZ)
    have hd := off_set out b.toNat (by omega) hf
    refine Ev.neg hf (Ev.dd h0 (show b < ((out.length : Nat) : Int) by omega) (Ev.dd h0 h1 (Ev.bind (Ev.all fun k => implLeads k _) (Ev.dp (show (q.length + (succsOf (f.2.2.1.getD b.toNat tBlockZ)).length) * 8 ≤ 140737488355328 by omega) ?_))))
    refine (implReach_l f w ht n (q ++ succsOf (f.2.2.1.getD b.toNat tBlockZ)) (out.set b.toNat true) (by omega) (okq_next ht hq) (by simpa using ho) (by rw [List.length_append]; omega)).rw ?_
    simp only [bfs]; rw [if_neg (fun h => h.elim hb hv)]
theorem specReach_l (f : tFuncD) (w : Int) (ht : There f.2.2.1) : ∀ (n : Nat) (q : List Int) (out : List Bool), n ≤ 100 → okq f.2.2.1 q → out.length = f.2.2.1.length → q.length + 3 * off out ≤ n → Ev (fun k => U44.l0 k w (idx out 0) f q) (one (idx (bfs f.2.2.1 w n q out) 0))
 | 0, [], out, _, _, _, _ => Ev.step (g' := fun _ => some (one (idx out 0))) (Ev.cst rfl) fun k => rfl
 | 0, b :: q, out, _, _, _, hm => by simp at hm
 | n + 1, [], out, _, _, _, _ => Ev.step (g' := fun _ => some (one (idx out 0))) (Ev.cst rfl) fun k => rfl
 | n + 1, b :: q, out, hn, hq, ho, hm => by
  obtain ⟨h0, h1⟩ := hq b (by simp)
  simp only [List.length_cons] at hm
  have ht10 := ht.1
  have hi : smI (idx out 0) := smI_small (by have := idx_length out 0; omega)
  refine Ev.succ ?_
  show Ev (fun k => U44.l0_ k (U44.l0 k) w (idx out 0) f (b :: q)) _
  unfold U44.l0_
  refine Ev.dp (show (0 : Int) < (((b :: q).length : Nat) : Int) by simp only [List.length_cons]; omega) (Ev.dd (show (0 : Nat) ≤ 0 by omega) (show (0 : Int) < (((b :: q).length : Nat) : Int) by simp only [List.length_cons]; omega) (Ev.dd (show (0 : Nat) ≤ 1 by omega) (show (1 : Int) ≤ (((b :: q).length : Nat) : Int) by simp only [List.length_cons]; omega) (Ev.bind (Ev.all fun k => specCopy k (l := q) (by omega)) ?_)))
  show Ev (fun k => bif decide (b = w) then U44.l0 k w (idx out 0) f q else _) _
  by_cases hb : b = w
  ·refine Ev.dp hb ((specReach_l f w ht n q out (by omega) (okq_tail hq) ho (by omega)).rw ?_)
   simp only [bfs]; rw [if_pos (Or.inl hb)]
  ·refine Ev.dn hb (Ev.bind (has_ev _ b hi) ?_)
   by_cases hv : out.getD b.toNat false = true
   ·refine Ev.dp ((mem_idx0 out b h0).2 hv) ((specReach_l f w ht n q out (by omega) (okq_tail hq) ho (by omega)).rw ?_)
    simp only [bfs]; rw [if_pos (Or.inr hv)]
   ·have hf : out.getD b.toNat false = false := by simpa using hv
    have hs := succsOf_len (f.2.2.1.getD b.toNat tBlockZ)
    have hd := off_set out b.toNat (by omega) hf
    have hni : b ∉ idx out 0 := fun h => hv ((mem_idx0 out b h0).1 h)
    have hset : idx (out.set b.toNat true) 0 = putI b (idx out 0) := by
     have := idx_set out 0 b.toNat (by omega) hf
     rw [show (0 : Int) + (b.toNat : Int) = b by omega] at this
     exact this
    refine Ev.dn hni (Ev.bind (put_ev _ b hi hni) (Ev.bind (Ev.all fun k => specSuccs k f b h0 h1) (Ev.dp (show (q.length + (succsOf (f.2.2.1.getD b.toNat tBlockZ)).length) * 8 ≤ 140737488355328 by omega) ?_)))
    have := specReach_l f w ht n (q ++ succsOf (f.2.2.1.getD b.toNat tBlockZ)) (out.set b.toNat true) (by omega) (okq_next ht hq) (by simpa using ho) (by rw [List.length_append]; omega)
    rw [hset] at this
    refine this.rw ?_
    simp only [bfs]; rw [if_neg (fun h => h.elim hb hv)]
theorem okq_first {l : List tBlockD} (h : 0 < l.length) : okq l [0] := fun b hb => by
 obtain rfl : b = 0 := by simpa using hb
 omega
theorem implReach_ev (f : tFuncD) (w : Int) (ht : There f.2.2.1) (h : 0 < f.2.2.1.length) : Ev (fun k => U133.f k f w) (rowR (reachB f.2.2.1 w)) := by
 have ht10 := ht.1
 unfold U133.f
 refine Ev.pos (by rw [dpos rfl, dpos (show 0 ≤ (f.2.2.1.length : Int) by omega), dpos (show (f.2.2.1.length : Int) * 1 ≤ 281474976710656 by omega)]; rfl) ?_
 exact implReach_l f w ht (3 * f.2.2.1.length + 1) [0] _ (by omega) (okq_first h) (by simp) (by rw [Int.toNat_natCast, off_replicate]; simp; omega)
theorem specReach_ev (f : tFuncD) (w : Int) (ht : There f.2.2.1) (h : 0 < f.2.2.1.length) : Ev (fun k => U44.f k f w) (one (idx (reachB f.2.2.1 w) 0)) := by
 have ht10 := ht.1
 have hz := idx_replicate f.2.2.1.length 0
 unfold U44.f
 by_cases hw : w = 0
 ·refine Ev.dp hw (Ev.cst ?_)
  subst hw
  unfold reachB
  rw [show 3 * f.2.2.1.length + 1 = (3 * f.2.2.1.length - 1 + 1) + 1 by omega]
  simp only [bfs]
  rw [if_pos (Or.inl trivial), hz]
 ·refine Ev.dn hw ?_
  have := specReach_l f w ht (3 * f.2.2.1.length + 1) [0] (List.replicate f.2.2.1.length false) (by omega) (okq_first h) (by simp) (by rw [off_replicate]; simp; omega)
  rw [hz] at this
  exact this
theorem implDom {f : tFuncD} (ht : There f.2.2.1) (h : 0 < f.2.2.1.length) (a b : Int) (h0 : 0 ≤ b) (h1 : b < (f.2.2.1.length : Int)) : Ev (fun k => U135.f k f a b) (one (domB f.2.2.1 a b)) := by
 unfold U135.f domB
 have hl := reachB_length f.2.2.1 (-1)
 have hl' := reachB_length f.2.2.1 a
 refine Ev.bind (implReach_ev f (-1) ht h) (Ev.dd h0 (show b < ((reachB f.2.2.1 (-1)).length : Int) by omega) ?_)
 by_cases hv : (reachB f.2.2.1 (-1)).getD b.toNat false = true
 ·rw [hv, Bool.true_and]
  exact Ev.pos rfl (Ev.bind (implReach_ev f a ht h) (Ev.dd h0 (show b < ((reachB f.2.2.1 a).length : Int) by omega) (Ev.cst rfl)))
 ·rw [Bool.not_eq_true] at hv
  rw [hv, Bool.false_and]
  exact Ev.neg rfl (Ev.cst rfl)
theorem reach_few {l : List tBlockD} (ht : l.length ≤ 10) (w : Int) : smI (idx (reachB l w) 0) := smI_small (by have := idx_length (reachB l w) 0; rw [reachB_length] at this; omega)
theorem specDom {f : tFuncD} (ht : There f.2.2.1) (h : 0 < f.2.2.1.length) (a b : Int) (h0 : 0 ≤ b) : Ev (fun k => U45.f k f a b) (one (domB f.2.2.1 a b)) := by
 unfold U45.f domB
 refine Ev.bind (specReach_ev f (-1) ht h) (Ev.bind (has_ev _ b (reach_few ht.1 _)) ?_)
 by_cases hv : (reachB f.2.2.1 (-1)).getD b.toNat false = true
 ·rw [hv, Bool.true_and]
  refine Ev.dp ((mem_idx0 _ b h0).2 hv) (Ev.bind (specReach_ev f a ht h) (Ev.bind (has_ev _ b (reach_few ht.1 _)) (Ev.cst ?_)))
  congr 2
  by_cases hv' : (reachB f.2.2.1 a).getD b.toNat false = true
  ·rw [hv', dpos ((mem_idx0 _ b h0).2 hv')]
  ·rw [dneg fun h => hv' ((mem_idx0 _ b h0).1 h)]
   rw [Bool.not_eq_true] at hv'
   rw [hv']
 ·rw [dneg fun h => hv ((mem_idx0 _ b h0).1 h)]
  rw [Bool.not_eq_true] at hv
  rw [hv, Bool.false_and]
  exact Ev.neg rfl (Ev.cst rfl)
def predsL (b : Int) : List tBlockD → Nat → List Int
 | [], _ => []
 | x :: l, i => bif decide (b ∈ succsOf x) then (i : Int) :: predsL b l (i + 1) else predsL b l (i + 1)
theorem predsL_len (b : Int) : ∀ (l : List tBlockD) (i : Nat), (predsL b l i).length ≤ l.length
 | [], i => by simp [predsL]
 | x :: l, i => by
  have := predsL_len b l (i + 1)
  simp only [predsL]
  cases decide (b ∈ succsOf x) <;> simp <;> omega
theorem predsL_in (b : Int) : ∀ (l : List tBlockD) (i : Nat) (p : Int), p ∈ predsL b l i → (i : Int) ≤ p ∧ p < ((i + l.length : Nat) : Int)
 | [], i, p, h => by simp [predsL] at h
 | x :: l, i, p, h => by
  have ih := predsL_in b l (i + 1) p
  simp only [predsL] at h
  simp only [List.length_cons]
  cases hb : decide (b ∈ succsOf x) <;> simp only [hb, cond_true, cond_false] at h
  ·have := ih h; omega
  ·rcases List.mem_cons.1 h with rfl | h
   ·omega
   ·have := ih h; omega
theorem implHas (l : List Int) (n : Int) (h : l.length ≤ 1048576) : Ev (fun k => U107.f k l n) (one (decide (n ∈ l))) := by
 have := index_ev (z := 0) (l := l) (p := fun x => decide (n = x)) (L := fun k b a => U106.l0 k l n b a) (q := fun k x => some (one (decide (n = x)))) (by omega) (fun k b a => rfl) (fun x _ => Ev.cst rfl)
 refine this.rw ?_
 congr 1
 rw [Bool.eq_iff_iff, List.any_eq_true, decide_eq_true_eq]
 constructor
 ·rintro ⟨x, hx, e⟩
  simp only [decide_eq_true_eq] at e
  rw [e]; exact hx
 ·intro hm
  exact ⟨n, hm, by simp⟩
section
variable {funcs : Int} {f : tFuncD}
theorem specPreds_l (h10 : f.2.2.1.length ≤ 10) (b : Int) : ∀ (d i : Nat) (acc : List Int), i + d = f.2.2.1.length → acc.length ≤ i → Ev (fun k => U34.l0 k b i f acc) (rowR (acc ++ predsL b (f.2.2.1.drop i) i)) := by
 intro d
 induction d with
 | zero =>
  intro i acc hi ha
  obtain rfl : i = f.2.2.1.length := by omega
  rw [List.drop_length]
  refine Ev.step (g' := fun _ => some (rowR acc)) (Ev.cst (by simp [predsL])) fun k => ?_
  show U34.l0_ k (U34.l0 k) b _ f acc = _
  unfold U34.l0_
  simp only [head_end, cond_false]
 | succ d ih =>
  intro i acc hi ha
  have hlt : i < f.2.2.1.length := by omega
  rw [List.drop_eq_getElem_cons hlt]
  refine Ev.succ ?_
  show Ev (fun k => U34.l0_ k (U34.l0 k) b _ f acc) _
  unfold U34.l0_ predsL
  simp only [head_in hlt, cond_true, wrap_nat (show i < 9223372036854775807 by omega)]
  refine Ev.bind (Ev.all fun k => specSuccs k f i (by omega) (by omega)) ?_
  rw [get_in hlt]
  refine Ev.bind (has_ev (succsOf f.2.2.1[i]) b (smI_small (by have := succsOf_len f.2.2.1[i]; omega))) ?_
  cases hb : decide (b ∈ succsOf f.2.2.1[i]) with
  | true =>
   refine Ev.pos rfl (Ev.dp (by simp only [List.length_cons, List.length_nil]; omega) ((ih (i + 1) (acc ++ [(i : Int)]) (by omega) (by simp; omega)).rw ?_))
   simp
  | false => exact Ev.neg rfl (ih (i + 1) acc (by omega) (by omega))
theorem specPreds (h10 : f.2.2.1.length ≤ 10) (b : Int) : Ev (fun k => U34.f k f b) (rowR (predsL b f.2.2.1 0)) := by
 have := specPreds_l h10 b f.2.2.1.length 0 [] (by omega) (by simp)
 exact this
theorem implPreds_l (h10 : f.2.2.1.length ≤ 10) (b : Int) : ∀ (d i : Nat) (acc : List Int), i + d = f.2.2.1.length → acc.length ≤ i → Ev (fun k => U108.l0 k b f.2.2.1 ((List.length f.2.2.1 : Nat) : Int) i acc) (rowR (acc ++ predsL b (f.2.2.1.drop i) i)) := by
 intro d
 induction d with
 | zero =>
  intro i acc hi ha
  obtain rfl : i = f.2.2.1.length := by omega
  rw [List.drop_length]
  refine Ev.step (g' := fun _ => some (rowR acc)) (Ev.cst (by simp [predsL])) fun k => ?_
  show U108.l0_ k (U108.l0 k) b _ _ _ acc = _
  unfold U108.l0_
  simp only [head_end, cond_false]
 | succ d ih =>
  intro i acc hi ha
  have hlt : i < f.2.2.1.length := by omega
  rw [List.drop_eq_getElem_cons hlt]
  refine Ev.succ ?_
  show Ev (fun k => U108.l0_ k (U108.l0 k) b _ _ _ acc) _
  unfold U108.l0_ predsL
  simp only [head_in hlt, head_0, Bool.and_self, cond_true, get_in hlt, wrap_nat (show i < 9223372036854775807 by omega)]
  refine Ev.bind (Ev.all fun k => implLeads k _) ?_
  refine Ev.bind (implHas (succsOf f.2.2.1[i]) b (by have := succsOf_len f.2.2.1[i]; omega)) ?_
  cases hb : decide (b ∈ succsOf f.2.2.1[i]) with
  | true =>
   refine Ev.pos rfl (Ev.dp (by simp only [List.length_cons, List.length_nil]; omega) ((ih (i + 1) (acc ++ [(i : Int)]) (by omega) (by simp; omega)).rw ?_))
   simp
  | false => exact Ev.neg rfl (ih (i + 1) acc (by omega) (by omega))
theorem implPreds (h10 : f.2.2.1.length ≤ 10) (b : Int) : Ev (fun k => U108.f k f b) (rowR (predsL b f.2.2.1 0)) := by
 have := implPreds_l h10 b f.2.2.1.length 0 [] (by omega) (by simp)
 exact this
def preds (f : tFuncD) (b : Int) : List Int := predsL b f.2.2.1 0
theorem preds_len (f : tFuncD) (b : Int) : (preds f b).length ≤ f.2.2.1.length := predsL_len b _ 0
def entryB (f : tFuncD) : Bool := decide ((f.2.2.1.getD 0 tBlockZ).1.length = 0) && decide ((preds f 0).length = 0)
def allI {α : Type} (p : Nat → α → Bool) : List α → Nat → Bool
 | [], _ => true
 | x :: l, i => p i x && allI p l (i + 1)
def phiN (f : tFuncD) (i : Nat) (x : tBlockD) : Bool := x.1.all fun p => decide (p.2.1.length = (preds f i).length)
theorem implEntry (h1 : 1 ≤ f.2.2.1.length) (h10 : f.2.2.1.length ≤ 10) : Ev (fun k => U109.f k f) (one (entryB f)) := by
 unfold U109.f entryB
 refine Ev.dd (by omega) (by omega) ?_
 have e : ∀ {α : Type} (l : List α), decide (((List.length l : Nat) : Int) = 0) = decide (l.length = 0) := fun l => by
  by_cases h : l.length = 0
  ·rw [dpos h, dpos (by omega)]
  ·rw [dneg h, dneg (by omega)]
 rw [e]
 exact ev_if fun _ => Ev.bind (implPreds h10 0) (Ev.cst (by rw [e]; rfl))
theorem len_eq {α β : Type} (l : List α) (m : List β) : decide (((List.length l : Nat) : Int) = ((List.length m : Nat) : Int)) = decide (l.length = m.length) := by
 by_cases h : l.length = m.length
 ·rw [dpos h, dpos (by omega)]
 ·rw [dneg h, dneg (by omega)]
theorem implPhiN {l : List tPhiD} (h : l.length ≤ 1048576) (n : List Int) : Ev (fun k => U112.f k l ((List.length n : Nat) : Int)) (one (!l.all fun p => decide (p.2.1.length = n.length))) := by
 rw [← any_not]
 exact index_ev (z := tPhiZ) (L := fun k b a => U111.l0 k l b a ((List.length n : Nat) : Int)) (q := fun k x => U110.f k x ((List.length n : Nat) : Int)) (by omega) (fun k b a => rfl) fun x _ => Ev.all fun k => by
  unfold U110.f
  rw [len_eq]
theorem implArePhis (hs : Small tFunc f) (h10 : f.2.2.1.length ≤ 10) : Ev (fun k => U113.f k f) (one (allI (phiN f) f.2.2.1 0)) := by
 have key := Ev.down (G := fun i k => U113.l0 k f.2.2.1 ((List.length f.2.2.1 : Nat) : Int) (i : Int) f) (V := fun i => one (allI (phiN f) (f.2.2.1.drop i) i)) f.2.2.1.length ?_ ?_ 0 (Nat.zero_le _)
 ·exact key
 ·rw [List.drop_length]
  refine Ev.step (g' := fun _ => some (one true)) (Ev.cst rfl) fun k => ?_
  show U113.l0_ k (U113.l0 k) _ _ _ f = _
  unfold U113.l0_
  simp only [head_end, cond_false]
 ·intro i hi ih
  rw [List.drop_eq_getElem_cons hi]
  refine Ev.succ ?_
  show Ev (fun k => U113.l0_ k (U113.l0 k) _ _ _ f) _
  unfold U113.l0_
  simp only [head_in hi, head_0, Bool.and_self, cond_true, get_in hi, wrap_nat (show i < 9223372036854775807 by omega)]
  refine Ev.bind (implPreds h10 i) (Ev.bind (implPhiN (n := preds f i) (blk_small hs _ (List.getElem_mem hi)).1) ?_)
  have e : allI (phiN f) (f.2.2.1[i] :: f.2.2.1.drop (i + 1)) i = (!(!phiN f i f.2.2.1[i]) && allI (phiN f) (f.2.2.1.drop (i + 1)) (i + 1)) := by rw [Bool.not_not]; rfl
  rw [e]
  exact ev_and' ih
theorem specArePhis (hf : Fm funcs f) : Ev (fun k => U35.f k f) (one (allI (phiN f) f.2.2.1 0)) := by
 have h10 := hf.b10
 have key := Ev.down (G := fun i k => U35.l0 k (i : Int) f) (V := fun i => one (allI (phiN f) (f.2.2.1.drop i) i)) f.2.2.1.length ?_ ?_ 0 (Nat.zero_le _)
 ·exact key
 ·rw [List.drop_length]
  refine Ev.step (g' := fun _ => some (one true)) (Ev.cst rfl) fun k => ?_
  show U35.l0_ k (U35.l0 k) (U35.l1 k) _ f = _
  unfold U35.l0_
  simp only [head_end, cond_false]
 ·intro i hi ih
  have hp := (hf.phis (List.getElem_mem hi)).1
  have inner := Ev.down (G := fun j k => U35.l1 k (i : Int) ((List.length (preds f i) : Nat) : Int) (j : Int) f) (V := fun j => one ((f.2.2.1[i].1.drop j).all (fun p => decide (p.2.1.length = (preds f i).length)) && allI (phiN f) (f.2.2.1.drop (i + 1)) (i + 1))) f.2.2.1[i].1.length ?_ ?_ 0 (Nat.zero_le _)
  ·rw [List.drop_eq_getElem_cons hi]
   refine Ev.succ ?_
   show Ev (fun k => U35.l0_ k (U35.l0 k) (U35.l1 k) _ f) _
   unfold U35.l0_
   simp only [head_in hi, cond_true]
   exact Ev.bind (specPreds h10 i) inner
  ·rw [List.drop_length]
   refine Ev.step ih fun k => ?_
   show U35.l1_ k (U35.l0 k) (U35.l1 k) _ _ _ f = _
   unfold U35.l1_
   simp only [head_in hi, head_0, Bool.and_self, cond_true, get_in hi, head_end, cond_false, wrap_nat (show i < 9223372036854775807 by omega)]
  ·intro j hj ihj
   rw [List.drop_eq_getElem_cons hj, List.all_cons, Bool.and_assoc]
   refine Ev.succ ?_
   show Ev (fun k => U35.l1_ k (U35.l0 k) (U35.l1 k) _ _ _ f) _
   unfold U35.l1_
   simp only [head_in hi, head_0, Bool.and_self, cond_true, get_in hi, head_in hj, get_in hj, wrap_nat (show j < 9223372036854775807 by omega), len_eq]
   exact ev_and ihj
def argsB (f : tFuncD) (i : tInstD) : Bool :=
 bif inB 1 17 i.1 then decide (typeOf f i.2.2.1 = i.2.1) && decide (typeOf f i.2.2.2.1 = i.2.1) else
 bif decide (i.1 = 27) then decide (typeOf f i.2.2.1 = i.2.1) else
 bif decide (i.1 = 18) then decide (0 < typeOf f i.2.2.1) && decide (typeOf f i.2.2.1 < i.2.1) else
 bif decide (i.1 = 19) then decide (0 < typeOf f i.2.2.1) && decide (typeOf f i.2.2.1 < i.2.1) else
 bif decide (i.1 = 20) then decide (i.2.1 < typeOf f i.2.2.1) else
 bif decide (i.1 = 22) then decide (typeOf f i.2.2.1 = 1) && (decide (typeOf f i.2.2.2.1 = i.2.1) && decide (typeOf f i.2.2.2.2.1 = i.2.1)) else
 bif decide (i.1 = 23) then decide (typeOf f i.2.2.1 = 32) else
 bif decide (i.1 = 24) then decide (typeOf f i.2.2.1 = 32) && decide (typeOf f i.2.2.2.1 = 8) else
 bif decide (i.1 = 25) then decide (0 < typeOf f i.2.2.1) else true
structure Vi (f : tFuncD) (i : tInstD) : Prop where
 a : vid f i.2.2.1
 b : inB 1 17 i.1 = true ∨ i.1 = 24 ∨ i.1 = 22 → vid f i.2.2.2.1
 c : i.1 = 22 → vid f i.2.2.2.2.1
theorem Fm.vi (hf : Fm funcs f) {x : tBlockD} (hx : x ∈ f.2.2.1) {i : tInstD} (hi : i ∈ x.2.1) : Vi f i := by
 have hin := hf.ins x hx i hi
 have hc : 0 < cntB f := by
  have h1 := le_sumB (w := wB) (fun y _ => wB_nonneg y) hx
  have h2 : 0 < x.2.1.length := List.length_pos_of_mem hi
  rw [cntB_eq]
  have h3 : 0 < wB x := by unfold wB; omega
  omega
 simp only [instB, Bool.and_eq_true] at hin
 obtain ⟨⟨⟨⟨⟨⟨g1, g2⟩, g3⟩, g4⟩, g5⟩, g6⟩, g7⟩ := hin
 rw [inB_iff] at g1
 unfold opsB at g4
 by_cases h1 : 1 ≤ i.1 ∧ i.1 ≤ 17
 ·rw [inB_iff.2 h1, cond_true] at g4
  simp only [List.all_cons, List.all_nil, Bool.and_true, Bool.and_eq_true] at g4
  exact ⟨vid_of g4.1, fun _ => vid_of g4.2, fun h => by omega⟩
 ·have n1 : inB 1 17 i.1 = false := by rw [← Bool.not_eq_true]; exact fun h => h1 (inB_iff.1 h)
  rw [n1, cond_false] at g4
  by_cases h24 : i.1 = 24
  ·rw [dpos h24, cond_true] at g4
   simp only [List.all_cons, List.all_nil, Bool.and_true, Bool.and_eq_true] at g4
   exact ⟨vid_of g4.1, fun _ => vid_of g4.2, fun h => by omega⟩
  ·rw [dneg h24, cond_false] at g4
   by_cases h22 : i.1 = 22
   ·rw [dpos h22, dneg (show ¬ i.1 = 23 by omega), dneg (show ¬ i.1 = 25 by omega), dneg (show ¬ i.1 = 27 by omega), show inB 18 20 i.1 = false from by rw [← Bool.not_eq_true, inB_iff]; omega] at g4
    simp only [cond_true, cond_false, List.all_cons, List.all_nil, Bool.and_true, Bool.and_eq_true] at g4
    exact ⟨vid_of g4.1, fun _ => vid_of g4.2.1, fun _ => vid_of g4.2.2⟩
   ·refine ⟨?_, fun h => ?_, fun h => (h22 h).elim⟩
    ·by_cases h0 : i.1 = 26 ∨ i.1 = 21
     ·have hz : i.2.2.1 = 0 := by
       have hn : named i = 0 := by
        unfold named opsB
        rcases h0 with h0 | h0
        ·rw [dpos h0]; rfl
        ·rw [n1, h0]; rfl
       unfold zerosB at g5
       rw [hn] at g5
       simp only [List.drop_zero, List.all_cons, Bool.and_eq_true, decide_eq_true_eq] at g5
       exact g5.1
      rw [hz]
      exact ⟨Int.le_refl _, hc⟩
     ·rw [dneg h22] at g4
      by_cases h18 : 18 ≤ i.1 ∧ i.1 ≤ 20
      ·rw [inB_iff.2 h18, cond_true] at g4
       simp only [List.all_cons, List.all_nil, Bool.and_true] at g4
       exact vid_of g4
      ·rw [show inB 18 20 i.1 = false from by rw [← Bool.not_eq_true, inB_iff]; exact h18, cond_false] at g4
       have h3 : i.1 = 23 ∨ i.1 = 25 ∨ i.1 = 27 := by omega
       rcases h3 with h3 | h3 | h3 <;> rw [h3] at g4 <;> simpa [vid_of] using vid_of (f := f) (by simpa using g4)
    ·rcases h with h | h | h
     ·rw [n1] at h; cases h
     ·exact (h24 h).elim
     ·exact (h22 h).elim
end
section
variable {funcs : Int} {f : tFuncD}
theorem specTy (hf : Fm funcs f) {id : Int} (h : vid f id) : Ev (fun k => U39.f k f id) (one (typeOf f id)) := specType hf h.1 h.2
theorem implTy (hs : Small tFunc f) (hf : Fm funcs f) {id : Int} (h : vid f id) : Ev (fun k => U119.f k f id) (one (typeOf f id)) := implType hs hf h.1 h.2
theorem op_cases (i : tInstD) : inB 1 17 i.1 = true ∨ i.1 = 18 ∨ i.1 = 19 ∨ i.1 = 20 ∨ i.1 = 22 ∨ i.1 = 23 ∨ i.1 = 24 ∨ i.1 = 25 ∨ i.1 = 27 ∨ (inB 1 17 i.1 = false ∧ i.1 ≠ 18 ∧ i.1 ≠ 19 ∧ i.1 ≠ 20 ∧ i.1 ≠ 22 ∧ i.1 ≠ 23 ∧ i.1 ≠ 24 ∧ i.1 ≠ 25 ∧ i.1 ≠ 27) := by
 cases inB 1 17 i.1 with
 | true => exact .inl rfl
 | false => right; simp only [ne_eq, true_and]; omega
theorem specArgs (hf : Fm funcs f) {i : tInstD} (v : Vi f i) : Ev (fun k => U40.f k f i) (one (argsB f i)) := by
 unfold U40.f
 refine Ev.bind (specTy hf v.a) (Ev.bind (Ev.all fun k => specIn k _ _ _) ?_)
 rcases op_cases i with h | h | h | h | h | h | h | h | h | h
 ·unfold argsB
  rw [h, cond_true]
  exact Ev.pos rfl (ev_if fun _ => Ev.bind (specTy hf (v.b (.inl h))) (Ev.cst rfl))
 ·have e : argsB f i = (decide (0 < typeOf f i.2.2.1) && decide (typeOf f i.2.2.1 < i.2.1)) := by unfold argsB; rw [h]; rfl
  rw [e, h]
  exact Ev.neg rfl (Ev.dp rfl (ev_if fun _ => Ev.cst rfl))
 ·have e : argsB f i = (decide (0 < typeOf f i.2.2.1) && decide (typeOf f i.2.2.1 < i.2.1)) := by unfold argsB; rw [h]; rfl
  rw [e, h]
  exact Ev.neg rfl (Ev.dn (by decide) (Ev.dp rfl (ev_if fun _ => Ev.cst rfl)))
 ·have e : argsB f i = decide (i.2.1 < typeOf f i.2.2.1) := by unfold argsB; rw [h]; rfl
  rw [e, h]
  exact Ev.neg rfl (Ev.dn (by decide) (Ev.dn (by decide) (Ev.dp rfl (Ev.cst rfl))))
 ·have e : argsB f i = (decide (typeOf f i.2.2.1 = 1) && (decide (typeOf f i.2.2.2.1 = i.2.1) && decide (typeOf f i.2.2.2.2.1 = i.2.1))) := by unfold argsB; rw [h]; rfl
  have vb := v.b (.inr (.inr h))
  have vc := v.c h
  rw [e, h]
  exact Ev.neg rfl (Ev.dn (by decide) (Ev.dn (by decide) (Ev.dn (by decide) (Ev.dp rfl (ev_if fun _ => Ev.bind (specTy hf vb) (ev_if fun _ => Ev.bind (specTy hf vc) (Ev.cst rfl)))))))
 ·have e : argsB f i = decide (typeOf f i.2.2.1 = 32) := by unfold argsB; rw [h]; rfl
  rw [e, h]
  exact Ev.neg rfl (Ev.dn (by decide) (Ev.dn (by decide) (Ev.dn (by decide) (Ev.dn (by decide) (Ev.dp rfl (Ev.cst rfl))))))
 ·have e : argsB f i = (decide (typeOf f i.2.2.1 = 32) && decide (typeOf f i.2.2.2.1 = 8)) := by unfold argsB; rw [h]; rfl
  have vb := v.b (.inr (.inl h))
  rw [e, h]
  exact Ev.neg rfl (Ev.dn (by decide) (Ev.dn (by decide) (Ev.dn (by decide) (Ev.dn (by decide) (Ev.dn (by decide) (Ev.dp rfl (ev_if fun _ => Ev.bind (specTy hf vb) (Ev.cst rfl))))))))
 ·have e : argsB f i = decide (0 < typeOf f i.2.2.1) := by unfold argsB; rw [h]; rfl
  rw [e, h]
  exact Ev.neg rfl (Ev.dn (by decide) (Ev.dn (by decide) (Ev.dn (by decide) (Ev.dn (by decide) (Ev.dn (by decide) (Ev.dn (by decide) (Ev.dp rfl (Ev.cst rfl))))))))
 ·have e : argsB f i = decide (typeOf f i.2.2.1 = i.2.1) := by unfold argsB; rw [h]; rfl
  rw [e, h]
  exact Ev.neg rfl (Ev.dn (by decide) (Ev.dn (by decide) (Ev.dn (by decide) (Ev.dn (by decide) (Ev.dn (by decide) (Ev.dn (by decide) (Ev.dn (by decide) (Ev.dp rfl (Ev.cst rfl)))))))))
 ·obtain ⟨h0, h1, h2, h3, h4, h5, h6, h7, h8⟩ := h
  have e : argsB f i = true := by
   unfold argsB
   rw [h0, dneg h1, dneg h2, dneg h3, dneg h4, dneg h5, dneg h6, dneg h7, dneg h8]; rfl
  rw [e, h0]
  exact Ev.neg rfl (Ev.dn h1 (Ev.dn h2 (Ev.dn h3 (Ev.dn h4 (Ev.dn h5 (Ev.dn h6 (Ev.dn h7 (Ev.dn h8 (Ev.cst rfl)))))))))
theorem implTy1 (hs : Small tFunc f) (hf : Fm funcs f) {id w : Int} (h : vid f id) : Ev (fun k => U123.f k id w f) (one (decide (typeOf f id = w))) := Ev.bind (implTy hs hf h) (Ev.cst rfl)
theorem ne_pos (hf : Fm funcs f) {id : Int} (h : vid f id) : decide (0 < typeOf f id) = !decide (typeOf f id = 0) := by
 have := typeOf_nonneg hf h.1 h.2
 by_cases c : typeOf f id = 0
 ·rw [dpos c, dneg (by omega)]; rfl
 ·rw [dneg c, dpos (by omega)]; rfl
theorem implArgs (hs : Small tFunc f) (hf : Fm funcs f) {i : tInstD} (v : Vi f i) : Ev (fun k => U124.f k f i) (one (argsB f i)) := by
 unfold U124.f
 refine Ev.bind (implTy hs hf v.a) (Ev.bind (Ev.all fun k => implBin k _) ?_)
 rcases op_cases i with h | h | h | h | h | h | h | h | h | h
 ·unfold argsB
  rw [h, cond_true]
  exact Ev.pos rfl (Ev.bind (implTy1 hs hf v.a) (ev_if fun _ => Ev.bind (implTy1 hs hf (v.b (.inl h))) (Ev.cst rfl)))
 ·have e : argsB f i = (decide (0 < typeOf f i.2.2.1) && decide (typeOf f i.2.2.1 < i.2.1)) := by unfold argsB; rw [h]; rfl
  rw [e, h, ne_pos hf v.a]
  exact Ev.neg rfl (Ev.dn (by decide) (Ev.dp rfl (ev_if fun _ => Ev.cst rfl)))
 ·have e : argsB f i = (decide (0 < typeOf f i.2.2.1) && decide (typeOf f i.2.2.1 < i.2.1)) := by unfold argsB; rw [h]; rfl
  rw [e, h, ne_pos hf v.a]
  exact Ev.neg rfl (Ev.dn (by decide) (Ev.dn (by decide) (Ev.dp rfl (ev_if fun _ => Ev.cst rfl))))
 ·have e : argsB f i = decide (i.2.1 < typeOf f i.2.2.1) := by unfold argsB; rw [h]; rfl
  rw [e, h]
  exact Ev.neg rfl (Ev.dn (by decide) (Ev.dn (by decide) (Ev.dn (by decide) (Ev.dp rfl (Ev.cst rfl)))))
 ·have e : argsB f i = (decide (typeOf f i.2.2.1 = 1) && (decide (typeOf f i.2.2.2.1 = i.2.1) && decide (typeOf f i.2.2.2.2.1 = i.2.1))) := by unfold argsB; rw [h]; rfl
  have vb := v.b (.inr (.inr h))
  have vc := v.c h
  rw [e, h]
  exact Ev.neg rfl (Ev.dn (by decide) (Ev.dn (by decide) (Ev.dn (by decide) (Ev.dn (by decide) (Ev.dp rfl (Ev.bind (implTy1 hs hf v.a) (ev_if fun _ => Ev.bind (implTy1 hs hf vb) (ev_if fun _ => Ev.bind (implTy1 hs hf vc) (Ev.cst rfl)))))))))
 ·have e : argsB f i = decide (typeOf f i.2.2.1 = 32) := by unfold argsB; rw [h]; rfl
  rw [e, h]
  exact Ev.neg rfl (Ev.dn (by decide) (Ev.dn (by decide) (Ev.dn (by decide) (Ev.dn (by decide) (Ev.dn (by decide) (Ev.dp rfl (Ev.bind (implTy1 hs hf v.a) (Ev.cst rfl))))))))
 ·have e : argsB f i = (decide (typeOf f i.2.2.1 = 32) && decide (typeOf f i.2.2.2.1 = 8)) := by unfold argsB; rw [h]; rfl
  have vb := v.b (.inr (.inl h))
  rw [e, h]
  exact Ev.neg rfl (Ev.dn (by decide) (Ev.dn (by decide) (Ev.dn (by decide) (Ev.dn (by decide) (Ev.dn (by decide) (Ev.dn (by decide) (Ev.dp rfl (Ev.bind (implTy1 hs hf v.a) (ev_if fun _ => Ev.bind (implTy1 hs hf vb) (Ev.cst rfl))))))))))
 ·have e : argsB f i = decide (0 < typeOf f i.2.2.1) := by unfold argsB; rw [h]; rfl
  rw [e, h, ne_pos hf v.a]
  exact Ev.neg rfl (Ev.dn (by decide) (Ev.dn (by decide) (Ev.dn (by decide) (Ev.dn (by decide) (Ev.dn (by decide) (Ev.dn (by decide) (Ev.dn (by decide) (Ev.dp rfl (Ev.cst rfl)))))))))
 ·have e : argsB f i = decide (typeOf f i.2.2.1 = i.2.1) := by unfold argsB; rw [h]; rfl
  rw [e, h]
  exact Ev.neg rfl (Ev.dp rfl (Ev.bind (implTy1 hs hf v.a) (Ev.cst rfl)))
 ·obtain ⟨h0, h1, h2, h3, h4, h5, h6, h7, h8⟩ := h
  have e : argsB f i = true := by
   unfold argsB
   rw [h0, dneg h1, dneg h2, dneg h3, dneg h4, dneg h5, dneg h6, dneg h7, dneg h8]; rfl
  rw [e, h0]
  exact Ev.neg rfl (Ev.dn h8 (Ev.dn h1 (Ev.dn h2 (Ev.dn h3 (Ev.dn h4 (Ev.dn h5 (Ev.dn h6 (Ev.dn h7 (Ev.cst rfl)))))))))
def endW (f : tFuncD) (t : tTermD) : Bool := !(decide (t.1 = 1) && !decide (typeOf f t.2.1 = f.2.1)) && !(decide (t.1 = 3) && !decide (typeOf f t.2.1 = 1))
def phiW (f : tFuncD) (p : tPhiD) : Bool := p.2.1.all fun id => decide (typeOf f id = p.1)
def blkW (f : tFuncD) (x : tBlockD) : Bool := x.1.all (phiW f) && (x.2.1.all (argsB f) && endW f x.2.2)
/-- The end of a block, whoever tells widths. -/
theorem end_ev {T : Nat → Int → Option IR} {t : tTermD} {r : Bool} {g : Nat → Option BR} (ht : t.1 = 1 ∨ t.1 = 3 → Ev (fun k => T k t.2.1) (one (typeOf f t.2.1))) (hg : Ev g (one r)) :
  Ev (fun k => bif decide (t.1 = 1) then (Option.bind (T k t.2.1) fun r2 => bif !decide (r2.1.1.1 = f.2.1) then some (((false, ()), ()), ()) else bif decide (t.1 = 3) then (Option.bind (T k t.2.1) fun r3 => bif !decide (r3.1.1.1 = 1) then some (((false, ()), ()), ()) else g k) else g k)
   else bif decide (t.1 = 3) then (Option.bind (T k t.2.1) fun r4 => bif !decide (r4.1.1.1 = 1) then some (((false, ()), ()), ()) else g k) else g k) (one (endW f t && r)) := by
 unfold endW
 by_cases h1 : t.1 = 1
 ·rw [dpos h1, dneg (show ¬ t.1 = 3 by omega), Bool.true_and, Bool.not_not, Bool.false_and, Bool.not_false, Bool.and_true]
  exact Ev.pos rfl (Ev.bind (ht (.inl h1)) (ev_and (Ev.neg rfl hg)))
 ·rw [dneg h1, Bool.false_and, Bool.not_false, Bool.true_and]
  refine Ev.neg rfl ?_
  by_cases h3 : t.1 = 3
  ·rw [dpos h3, Bool.true_and, Bool.not_not]
   exact Ev.pos rfl (Ev.bind (ht (.inr h3)) (ev_and hg))
  ·rw [dneg h3, Bool.false_and, Bool.not_false, Bool.true_and]
   exact Ev.neg rfl hg
theorem specTypes (hf : Fm funcs f) : Ev (fun k => U41.f k f) (one (f.2.2.1.all (blkW f))) := by
 have h10 := hf.b10
 have key := Ev.down (G := fun i k => U41.l0 k (i : Int) f) (V := fun i => one ((f.2.2.1.drop i).all (blkW f))) f.2.2.1.length ?_ ?_ 0 (Nat.zero_le _)
 ·exact key
 ·rw [List.drop_length]
  refine Ev.step (g' := fun _ => some (one true)) (Ev.cst rfl) fun k => ?_
  show U41.l0_ k (U41.l0 k) (U41.l1 k) (U41.l2 k) (U41.l3 k) _ f = _
  unfold U41.l0_
  simp only [head_end, cond_false]
 ·intro i hi ih
  have hx := List.getElem_mem hi
  obtain ⟨hp, hq⟩ := hf.phis hx
  rw [List.drop_eq_getElem_cons hi, List.all_cons]
  -- the instructions and the end
  have l3 : Ev (fun k => U41.l3 k (i : Int) 0 f f.2.2.1[i]) (one (f.2.2.1[i].2.1.all (argsB f) && (endW f f.2.2.1[i].2.2 && (f.2.2.1.drop (i + 1)).all (blkW f)))) := by
   refine each_ev (z := tInstZ) (l := f.2.2.1[i].2.1) (L := fun k a => U41.l3 k (i : Int) a f f.2.2.1[i]) (V := fun m => one (m.all (argsB f) && (endW f f.2.2.1[i].2.2 && (f.2.2.1.drop (i + 1)).all (blkW f)))) (q := fun k y g => Option.bind (U40.f k f y) fun r1 => bif !r1.1.1.1 then some (((false, ()), ()), ()) else g k)
    (by omega) (fun k a => rfl) ?_ ?_
   ·rw [List.all_nil, Bool.true_and]
    have := end_ev (T := fun k id => U39.f k f id) (t := f.2.2.1[i].2.2) (g := fun k => U41.l0 k ((i + 1 : Nat) : Int) f) (fun h => specTy hf (hf.vt hx h)) ih
    rw [wrap_nat (show i < 9223372036854775807 by omega)]
    exact this
   ·intro y m g hy hg
    rw [List.all_cons, Bool.and_assoc]
    exact Ev.bind (specArgs hf (hf.vi hx hy)) (ev_and hg)
  have l1 := Ev.down (G := fun j k => U41.l1 k (i : Int) (j : Int) f f.2.2.1[i]) (V := fun j => one ((f.2.2.1[i].1.drop j).all (phiW f) && (f.2.2.1[i].2.1.all (argsB f) && (endW f f.2.2.1[i].2.2 && (f.2.2.1.drop (i + 1)).all (blkW f))))) f.2.2.1[i].1.length ?_ ?_ 0 (Nat.zero_le _)
  ·refine Ev.succ ?_
   show Ev (fun k => U41.l0_ k (U41.l0 k) (U41.l1 k) (U41.l2 k) (U41.l3 k) _ f) _
   unfold U41.l0_
   simp only [head_in hi, head_0, Bool.and_self, cond_true, get_in hi]
   refine Ev.rw (s := one (blkW f f.2.2.1[i] && (f.2.2.1.drop (i + 1)).all (blkW f))) l1 ?_
   unfold blkW
   rw [List.drop_zero, Bool.and_assoc, Bool.and_assoc]
  ·rw [List.drop_length]
   refine Ev.step l3 fun k => ?_
   show U41.l1_ k (U41.l0 k) (U41.l1 k) (U41.l2 k) (U41.l3 k) _ _ f _ = _
   unfold U41.l1_
   simp only [head_end, cond_false]
  ·intro j hj ihj
   have hpm := List.getElem_mem hj
   have hpl : f.2.2.1[i].1[j].2.1.length ≤ 10 := by
    have := hf.ph _ hx _ hpm
    simp only [phiB, Bool.and_eq_true, decide_eq_true_eq] at this
    exact this.1.2
   have l2 := Ev.down (G := fun q k => U41.l2 k (i : Int) (j : Int) (q : Int) f f.2.2.1[i]) (V := fun q => one ((f.2.2.1[i].1[j].2.1.drop q).all (fun id => decide (typeOf f id = f.2.2.1[i].1[j].1)) && ((f.2.2.1[i].1.drop (j + 1)).all (phiW f) && (f.2.2.1[i].2.1.all (argsB f) && (endW f f.2.2.1[i].2.2 && (f.2.2.1.drop (i + 1)).all (blkW f)))))) f.2.2.1[i].1[j].2.1.length ?_ ?_ 0 (Nat.zero_le _)
   ·rw [List.drop_eq_getElem_cons hj, List.all_cons, Bool.and_assoc]
    refine Ev.step l2 fun k => ?_
    show U41.l1_ k (U41.l0 k) (U41.l1 k) (U41.l2 k) (U41.l3 k) _ _ f _ = _
    unfold U41.l1_
    simp only [head_in hj, cond_true]
    rfl
   ·rw [List.drop_length, List.all_nil, Bool.true_and]
    refine Ev.step ihj fun k => ?_
    show U41.l2_ k (U41.l0 k) (U41.l1 k) (U41.l2 k) (U41.l3 k) _ _ _ f _ = _
    unfold U41.l2_
    simp only [head_in hj, head_0, Bool.and_self, cond_true, get_in hj, head_end, cond_false, wrap_nat (show j < 9223372036854775807 by omega)]
   ·intro q hq ihq
    rw [List.drop_eq_getElem_cons hq, List.all_cons, Bool.and_assoc]
    refine Ev.succ ?_
    show Ev (fun k => U41.l2_ k (U41.l0 k) (U41.l1 k) (U41.l2 k) (U41.l3 k) _ _ _ f _) _
    unfold U41.l2_
    simp only [head_in hj, head_0, Bool.and_self, cond_true, get_in hj, head_in hq, get_in hq, wrap_nat (show q < 9223372036854775807 by omega)]
    exact Ev.bind (specTy hf (hf.vp hx hpm (List.getElem_mem hq))) (ev_and ihq)
theorem implPhiW (hs : Small tFunc f) (hf : Fm funcs f) {x : tBlockD} (hx : x ∈ f.2.2.1) {p : tPhiD} (hp : p ∈ x.1) : Ev (fun k => U122.f k p.2.1 f p) (one (!phiW f p)) := by
 have hpl : p.2.1.length ≤ 10 := by
  have := hf.ph _ hx _ hp
  simp only [phiB, Bool.and_eq_true, decide_eq_true_eq] at this
  exact this.1.2
 unfold phiW
 rw [← any_not]
 exact index_ev (z := 0) (L := fun k b a => U121.l0 k p.2.1 b a f p) (q := fun k y => U120.f k y f p) (by omega) (fun k b a => rfl) fun y hy => Ev.bind (implTy hs hf (hf.vp hx hp hy)) (Ev.cst rfl)
theorem implInstW (hs : Small tFunc f) (hf : Fm funcs f) {x : tBlockD} (hx : x ∈ f.2.2.1) : Ev (fun k => U127.f k x.2.1 f) (one (!x.2.1.all (argsB f))) := by
 have := (hf.phis hx).2
 rw [← any_not]
 exact index_ev (z := tInstZ) (L := fun k b a => U126.l0 k x.2.1 b a f) (q := fun k y => U125.f k y f) (by omega) (fun k b a => rfl) fun y hy => Ev.bind (implArgs hs hf (hf.vi hx hy)) (Ev.cst rfl)
theorem implTypes (hs : Small tFunc f) (hf : Fm funcs f) : Ev (fun k => U128.f k f) (one (f.2.2.1.all (blkW f))) := by
 have h10 := hf.b10
 have key := Ev.down (G := fun i k => U128.l0 k f.2.2.1 ((List.length f.2.2.1 : Nat) : Int) (i : Int) f) (V := fun i => one ((f.2.2.1.drop i).all (blkW f))) f.2.2.1.length ?_ ?_ 0 (Nat.zero_le _)
 ·exact key
 ·rw [List.drop_length]
  refine Ev.step (g' := fun _ => some (one true)) (Ev.cst rfl) fun k => ?_
  show U128.l0_ k (U128.l0 k) (U128.l1 k) _ _ _ f = _
  unfold U128.l0_
  simp only [head_end, cond_false]
 ·intro i hi ih
  have hx := List.getElem_mem hi
  obtain ⟨hp, hq⟩ := hf.phis hx
  rw [List.drop_eq_getElem_cons hi, List.all_cons]
  have l1 : Ev (fun k => U128.l1 k f.2.2.1 ((List.length f.2.2.1 : Nat) : Int) (i : Int) f.2.2.1[i].1 ((List.length f.2.2.1[i].1 : Nat) : Int) 0 f f.2.2.1[i]) (one (f.2.2.1[i].1.all (phiW f) && (f.2.2.1[i].2.1.all (argsB f) && (endW f f.2.2.1[i].2.2 && (f.2.2.1.drop (i + 1)).all (blkW f))))) := by
   refine each_ev (z := tPhiZ) (l := f.2.2.1[i].1) (L := fun k a => U128.l1 k f.2.2.1 ((List.length f.2.2.1 : Nat) : Int) (i : Int) f.2.2.1[i].1 ((List.length f.2.2.1[i].1 : Nat) : Int) a f f.2.2.1[i]) (V := fun m => one (m.all (phiW f) && (f.2.2.1[i].2.1.all (argsB f) && (endW f f.2.2.1[i].2.2 && (f.2.2.1.drop (i + 1)).all (blkW f)))))
    (q := fun k y g => Option.bind (U122.f k y.2.1 f y) fun r1 => bif r1.1.1.1 then some (((false, ()), ()), ()) else g k) (by omega) (fun k a => rfl) ?_ ?_
   ·rw [List.all_nil, Bool.true_and]
    have := end_ev (T := fun k id => U119.f k f id) (t := f.2.2.1[i].2.2) (g := fun k => U128.l0 k f.2.2.1 ((List.length f.2.2.1 : Nat) : Int) ((i + 1 : Nat) : Int) f) (fun h => implTy hs hf (hf.vt hx h)) ih
    rw [wrap_nat (show i < 9223372036854775807 by omega)]
    have h2 := ev_and' (b := !f.2.2.1[i].2.1.all (argsB f)) this
    rw [Bool.not_not] at h2
    exact Ev.bind (implInstW hs hf hx) h2
   ·intro y m g hy hg
    have h2 := ev_and' (b := !phiW f y) hg
    rw [Bool.not_not] at h2
    rw [List.all_cons, Bool.and_assoc]
    exact Ev.bind (implPhiW hs hf hx hy) h2
  refine Ev.succ ?_
  show Ev (fun k => U128.l0_ k (U128.l0 k) (U128.l1 k) _ _ _ f) _
  unfold U128.l0_
  simp only [head_in hi, head_0, Bool.and_self, cond_true, get_in hi]
  refine Ev.rw (s := one (blkW f f.2.2.1[i] && (f.2.2.1.drop (i + 1)).all (blkW f))) l1 ?_
  unfold blkW
  rw [Bool.and_assoc, Bool.and_assoc]
end
section
variable {m : List tFuncD} {f : tFuncD}
def zipB (T : Int → Int) : List Int → List Int → Bool
 | a :: as1, p :: ps => decide (T a = p) && zipB T as1 ps
 | _, _ => true
def callee (m : List tFuncD) (i : tInstD) : tFuncD := m.getD i.2.2.2.2.2.1.toNat tFuncZ
def callB (m : List tFuncD) (f : tFuncD) (i : tInstD) : Bool :=
 bif decide (i.1 = 26) then decide (i.2.1 = (callee m i).2.1) && (decide (i.2.2.2.2.2.2.1.length = (callee m i).1.length) && zipB (typeOf f) i.2.2.2.2.2.2.1 (callee m i).1) else true
theorem Fm.call (hf : Fm (m.length : Int) f) {x : tBlockD} (hx : x ∈ f.2.2.1) {i : tInstD} (hi : i ∈ x.2.1) (h : i.1 = 26) : 0 ≤ i.2.2.2.2.2.1 ∧ i.2.2.2.2.2.1 < (m.length : Int) ∧ i.2.2.2.2.2.2.1.length ≤ 4 ∧ ∀ id ∈ i.2.2.2.2.2.2.1, vid f id := by
 have hin := hf.ins x hx i hi
 simp only [instB, Bool.and_eq_true, decide_eq_true_eq] at hin
 obtain ⟨⟨⟨⟨⟨⟨g1, g2⟩, g3⟩, g4⟩, g5⟩, g6⟩, g7⟩ := hin
 unfold immB at g7
 rw [dneg (show ¬ i.1 = 21 by omega), dpos h, cond_false, cond_true, inB_iff] at g7
 have e : opsB i = i.2.2.2.2.2.2.1 := by unfold opsB; rw [h]; rfl
 rw [e, List.all_eq_true] at g4
 exact ⟨g7.1, by omega, g2, fun id hid => vid_of (g4 id hid)⟩
theorem specCalls (hm : ∀ g ∈ m, g.1.length ≤ 4) (hf : Fm (m.length : Int) f) : Ev (fun k => U42.f k (m, ()) f) (one (f.2.2.1.all fun x => x.2.1.all (callB m f))) := by
 have h10 := hf.b10
 have key := Ev.down (G := fun i k => U42.l0 k (i : Int) m f) (V := fun i => one ((f.2.2.1.drop i).all fun x => x.2.1.all (callB m f))) f.2.2.1.length ?_ ?_ 0 (Nat.zero_le _)
 ·exact key
 ·rw [List.drop_length]
  refine Ev.step (g' := fun _ => some (one true)) (Ev.cst rfl) fun k => ?_
  show U42.l0_ k (U42.l0 k) (U42.l1 k) (U42.l2 k) _ m f = _
  unfold U42.l0_
  simp only [head_end, cond_false]
 ·intro i hi ih
  have hx := List.getElem_mem hi
  have hq := (hf.phis hx).2
  have l1 := Ev.down (G := fun j k => U42.l1 k (i : Int) (j : Int) m f) (V := fun j => one ((f.2.2.1[i].2.1.drop j).all (callB m f) && ((f.2.2.1.drop (i + 1)).all fun x => x.2.1.all (callB m f)))) f.2.2.1[i].2.1.length ?_ ?_ 0 (Nat.zero_le _)
  ·rw [List.drop_eq_getElem_cons hi, List.all_cons]
   refine Ev.step l1 fun k => ?_
   show U42.l0_ k (U42.l0 k) (U42.l1 k) (U42.l2 k) _ m f = _
   unfold U42.l0_
   simp only [head_in hi, cond_true]
   rfl
  ·rw [List.drop_length, List.all_nil, Bool.true_and]
   refine Ev.step ih fun k => ?_
   show U42.l1_ k (U42.l0 k) (U42.l1 k) (U42.l2 k) _ _ m f = _
   unfold U42.l1_
   simp only [head_in hi, head_0, Bool.and_self, cond_true, get_in hi, head_end, cond_false, wrap_nat (show i < 9223372036854775807 by omega)]
  ·intro j hj ihj
   have hi2 := List.getElem_mem hj
   rw [List.drop_eq_getElem_cons hj, List.all_cons, Bool.and_assoc]
   refine Ev.succ ?_
   show Ev (fun k => U42.l1_ k (U42.l0 k) (U42.l1 k) (U42.l2 k) _ _ m f) _
   unfold U42.l1_
   simp only [head_in hi, head_0, Bool.and_self, cond_true, get_in hi, head_in hj, get_in hj, wrap_nat (show j < 9223372036854775807 by omega)]
   generalize hins : f.2.2.1[i].2.1[j] = ins at hi2 ⊢
   by_cases h26 : ins.1 = 26
   ·obtain ⟨c0, c1, c2, c3⟩ := hf.call hx hi2 h26
    have hlt : ins.2.2.2.2.2.1.toNat < m.length := by omega
    have hg : m.getD ins.2.2.2.2.2.1.toNat tFuncZ = m[ins.2.2.2.2.2.1.toNat] := getD_at _ _ _ hlt
    have hg4 := hm _ (List.getElem_mem hlt)
    have ec : callB m f ins = (decide (ins.2.1 = (m[ins.2.2.2.2.2.1.toNat]).2.1) && (decide (ins.2.2.2.2.2.2.1.length = (m[ins.2.2.2.2.2.1.toNat]).1.length) && zipB (typeOf f) ins.2.2.2.2.2.2.1 (m[ins.2.2.2.2.2.1.toNat]).1)) := by
     unfold callB callee
     rw [dpos h26, hg]; rfl
    rw [ec, hg, Bool.and_assoc, Bool.and_assoc]
    generalize m[ins.2.2.2.2.2.1.toNat] = g at hg4 ⊢
    refine Ev.neg (by rw [dpos h26]; rfl) (Ev.dd c0 c1 (ev_and ?_))
    rw [len_eq]
    by_cases hl : ins.2.2.2.2.2.2.1.length = g.1.length
    ·rw [dpos hl, Bool.true_and]
     refine Ev.neg rfl ?_
     have l2 := Ev.down (G := fun q k => U42.l2 k (i : Int) (j : Int) (q : Int) m f ins g) (V := fun q => one (zipB (typeOf f) (ins.2.2.2.2.2.2.1.drop q) (g.1.drop q) && ((f.2.2.1[i].2.1.drop (j + 1)).all (callB m f) && ((f.2.2.1.drop (i + 1)).all fun x => x.2.1.all (callB m f))))) ins.2.2.2.2.2.2.1.length ?_ ?_ 0 (Nat.zero_le _)
     ·exact l2
     ·rw [List.drop_length]
      refine Ev.step ihj fun k => ?_
      show U42.l2_ k (U42.l0 k) (U42.l1 k) (U42.l2 k) _ _ _ m f _ _ = _
      unfold U42.l2_
      simp only [head_end, cond_false, wrap_nat (show j < 9223372036854775807 by omega)]
     ·intro q hq2 ihq
      have hq3 : q < g.1.length := by omega
      rw [List.drop_eq_getElem_cons hq2, List.drop_eq_getElem_cons hq3]
      unfold zipB
      rw [Bool.and_assoc]
      refine Ev.succ ?_
      show Ev (fun k => U42.l2_ k (U42.l0 k) (U42.l1 k) (U42.l2 k) _ _ _ m f _ _) _
      unfold U42.l2_
      simp only [head_in hq2, head_0, Bool.and_self, cond_true, get_in hq2, head_in hq3, get_in hq3, wrap_nat (show q < 9223372036854775807 by omega)]
      exact Ev.bind (specTy hf (c3 _ (List.getElem_mem hq2))) (ev_and ihq)
    ·rw [dneg hl]
     exact Ev.pos rfl (Ev.cst rfl)
   ·have ec : callB m f ins = true := by
     unfold callB
     rw [dneg h26]; rfl
    rw [ec, Bool.true_and]
    exact Ev.pos (by rw [dneg h26]; rfl) ihj
theorem implCall (hs : Small tFunc f) (hm : ∀ g ∈ m, g.1.length ≤ 4) (hf : Fm (m.length : Int) f) {x : tBlockD} (hx : x ∈ f.2.2.1) {i : tInstD} (hi : i ∈ x.2.1) : Ev (fun k => U130.f k i m f) (one (!callB m f i)) := by
 unfold U130.f
 by_cases h26 : i.1 = 26
 ·obtain ⟨c0, c1, c2, c3⟩ := hf.call hx hi h26
  have hlt : i.2.2.2.2.2.1.toNat < m.length := by omega
  have hg : m.getD i.2.2.2.2.2.1.toNat tFuncZ = m[i.2.2.2.2.2.1.toNat] := getD_at _ _ _ hlt
  have hg4 := hm _ (List.getElem_mem hlt)
  have hc : Ev (fun k => U129.f k (m, ()) f i) (one (callB m f i)) := by
   have ec : callB m f i = (decide (i.2.1 = (m[i.2.2.2.2.2.1.toNat]).2.1) && (decide (i.2.2.2.2.2.2.1.length = (m[i.2.2.2.2.2.1.toNat]).1.length) && zipB (typeOf f) i.2.2.2.2.2.2.1 (m[i.2.2.2.2.2.1.toNat]).1)) := by
    unfold callB callee
    rw [dpos h26, hg]; rfl
   unfold U129.f
   refine Ev.dd c0 c1 ?_
   rw [ec]
   show Ev (fun k => bif !decide (i.2.1 = (m.getD i.2.2.2.2.2.1.toNat tFuncZ).2.1) then some (((false, ()), ()), ()) else bif !decide (((List.length i.2.2.2.2.2.2.1 : Nat) : Int) = ((List.length (m.getD i.2.2.2.2.2.1.toNat tFuncZ).1 : Nat) : Int)) then some (((false, ()), ()), ()) else U129.l0 k i.2.2.2.2.2.2.1 ((List.length i.2.2.2.2.2.2.1 : Nat) : Int) 0 f (m.getD i.2.2.2.2.2.1.toNat tFuncZ)) _
   rw [hg, len_eq]
   generalize m[i.2.2.2.2.2.1.toNat] = g at hg4 ⊢
   refine ev_and ?_
   by_cases hl : i.2.2.2.2.2.2.1.length = g.1.length
   ·rw [dpos hl, Bool.true_and]
    refine Ev.neg rfl ?_
    have l2 := Ev.down (G := fun q k => U129.l0 k i.2.2.2.2.2.2.1 ((List.length i.2.2.2.2.2.2.1 : Nat) : Int) (q : Int) f g) (V := fun q => one (zipB (typeOf f) (i.2.2.2.2.2.2.1.drop q) (g.1.drop q))) i.2.2.2.2.2.2.1.length ?_ ?_ 0 (Nat.zero_le _)
    ·exact l2
    ·rw [List.drop_length]
     refine Ev.step (g' := fun _ => some (one true)) (Ev.cst rfl) fun k => ?_
     show U129.l0_ k (U129.l0 k) _ _ _ f g = _
     unfold U129.l0_
     simp only [head_end, cond_false]
    ·intro q hq2 ihq
     have hq3 : q < g.1.length := by omega
     rw [List.drop_eq_getElem_cons hq2, List.drop_eq_getElem_cons hq3]
     unfold zipB
     refine Ev.succ ?_
     show Ev (fun k => U129.l0_ k (U129.l0 k) _ _ _ f g) _
     unfold U129.l0_
     simp only [head_in hq2, head_0, Bool.and_self, cond_true, get_in hq2, head_in hq3, get_in hq3, wrap_nat (show q < 9223372036854775807 by omega)]
     exact Ev.bind (implTy hs hf (c3 _ (List.getElem_mem hq2))) (ev_and ihq)
   ·rw [dneg hl]
    exact Ev.pos rfl (Ev.cst rfl)
  exact Ev.dp h26 (Ev.bind hc (Ev.cst rfl))
 ·have ec : callB m f i = true := by
   unfold callB
   rw [dneg h26]; rfl
  rw [ec]
  exact Ev.dn h26 (Ev.cst rfl)
theorem implCalls (hs : Small tFunc f) (hm : ∀ g ∈ m, g.1.length ≤ 4) (hf : Fm (m.length : Int) f) {x : tBlockD} (hx : x ∈ f.2.2.1) : Ev (fun k => U132.f k x.2.1 m f) (one (!x.2.1.all (callB m f))) := by
 have := (hf.phis hx).2
 rw [← any_not]
 exact index_ev (z := tInstZ) (L := fun k b a => U131.l0 k x.2.1 b a m f) (q := fun k y => U130.f k y m f) (by omega) (fun k b a => rfl) fun y hy => implCall hs hm hf hx hy
end
section
variable {funcs : Int} {f : tFuncD}
def seesB (f : tFuncD) (id b at' : Int) : Bool := if (placeOf f id).1 = -1 then true else if (placeOf f id).1 = b then decide ((placeOf f id).2 < at') else domB f.2.2.1 (placeOf f id).1 b
theorem Fm.there (hf : Fm funcs f) : There f.2.2.1 := by
 refine ⟨hf.b10, fun x hx s hsx => ?_⟩
 have := hf.tm x hx
 unfold succsOf succsT at hsx
 unfold termB at this
 by_cases h2 : x.2.2.1 = 2
 ·rw [dpos h2, cond_true] at hsx
  rw [h2] at this
  have h3 : (decide (x.2.2.2.1 = 0) && inB 0 ((f.2.2.1.length : Int) - 1) x.2.2.2.2.1 && decide (x.2.2.2.2.2.1 = 0)) = true := this
  simp only [Bool.and_eq_true, inB_iff] at h3
  simp only [List.mem_singleton] at hsx
  subst hsx
  omega
 ·by_cases h3 : x.2.2.1 = 3
  ·rw [dneg h2, dpos h3, cond_false, cond_true] at hsx
   rw [h3] at this
   have h4 : (inB 0 (cntB f - 1) x.2.2.2.1 && inB 0 ((f.2.2.1.length : Int) - 1) x.2.2.2.2.1 && inB 0 ((f.2.2.1.length : Int) - 1) x.2.2.2.2.2.1 && !decide (x.2.2.2.2.1 = x.2.2.2.2.2.1)) = true := this
   simp only [Bool.and_eq_true, inB_iff] at h4
   simp only [List.mem_cons, List.not_mem_nil, or_false] at hsx
   rcases hsx with rfl | rfl <;> omega
  ·rw [dneg h2, dneg h3] at hsx
   cases hsx
theorem specSees (hf : Fm funcs f) {id : Int} (v : vid f id) {b : Int} (b0 : 0 ≤ b) (at' : Int) : Ev (fun k => U46.f k f id b at') (one (seesB f id b at')) := by
 unfold U46.f seesB
 refine Ev.bind (specPlace hf v.1 v.2) ?_
 rcases place_cases id v.1 v.2 with ⟨hl, hp⟩ | ⟨hl, j, hj, hp, ha, hb⟩
 ·rw [hp, if_pos rfl]
  exact Ev.dp rfl (Ev.cst rfl)
 ·rw [hp]
  generalize id - (f.1.length : Int) - sumB wB (f.2.2.1.take j) = pl at ha hb
  rw [if_neg (by show ¬ ((j : Int) = -1); omega)]
  refine Ev.dn (by show ¬ ((j : Int) = -1); omega) ?_
  show Ev (fun k => bif decide ((j : Int) = b) then some (one (decide (pl < at'))) else bif decide (0 ≤ (j : Int)) then Option.bind (U45.f k f (j : Int) b) _ else _) (one (if (j : Int) = b then decide (pl < at') else domB f.2.2.1 (j : Int) b))
  by_cases c : (j : Int) = b
  ·rw [if_pos c]; exact Ev.dp c (Ev.cst rfl)
  ·rw [if_neg c]
   exact Ev.dn c (Ev.dp (by omega) (Ev.bind (specDom hf.there (by have := hf.b1; omega) _ _ b0) (Ev.cst rfl)))
theorem implSeen (hs : Small tFunc f) (hf : Fm funcs f) {id : Int} (v : vid f id) {b : Int} (b0 : 0 ≤ b) (b1 : b < (f.2.2.1.length : Int)) {at' ahead : Int} (h : (placeOf f id).1 = b → (id < ahead ↔ (placeOf f id).2 < at')) : Ev (fun k => U136.f k f id b ahead) (one (seesB f id b at')) := by
 unfold U136.f seesB
 refine Ev.bind (implPlace hs hf v.1 v.2) ?_
 rcases place_cases id v.1 v.2 with ⟨hl, hp⟩ | ⟨hl, j, hj, hp, ha, hb⟩
 ·rw [hp, if_pos rfl]
  exact Ev.dp rfl (Ev.cst rfl)
 ·rw [hp] at h ⊢
  generalize id - (f.1.length : Int) - sumB wB (f.2.2.1.take j) = pl at ha hb h
  rw [if_neg (by show ¬ ((j : Int) = -1); omega)]
  refine Ev.dn (by show ¬ ((j : Int) = -1); omega) ?_
  show Ev (fun k => bif decide ((j : Int) = b) then some (one (decide (id < ahead))) else Option.bind (U135.f k f (j : Int) b) _) (one (if (j : Int) = b then decide (pl < at') else domB f.2.2.1 (j : Int) b))
  by_cases c : (j : Int) = b
  ·rw [if_pos c]
   refine Ev.dp c (Ev.cst ?_)
   have e : decide (id < ahead) = decide (pl < at') := by rw [decide_eq_decide]; exact h c
   rw [e]
  ·rw [if_neg c]
   exact Ev.dn c (Ev.bind (implDom hf.there (by have := hf.b1; omega) _ _ b0 b1) (Ev.cst rfl))
/-- The first id of a block. -/
def firstB (f : tFuncD) (b : Nat) : Int := (f.1.length : Int) + sumB wB (f.2.2.1.take b)
theorem implFirst (hf : Fm funcs f) {b : Nat} (hb : b < f.2.2.1.length) : Ev (fun k => U134.f k f (b : Int)) (one (firstB f b)) := by
 have h4 := hf.p4
 have h10 := hf.b10
 unfold U134.f
 refine Ev.pos (by rw [dpos (show (0 : Nat) ≤ 0 by omega), dpos (show 0 ≤ (b : Int) by omega), dpos (show (b : Int) ≤ (f.2.2.1.length : Int) by omega)]; rfl) ?_
 rw [Int.toNat_natCast]
 exact acc_ev (L := fun k a i => U134.l0 k a (f.2.2.1.take b) ((List.length (f.2.2.1.take b) : Nat) : Int) i) (l := f.2.2.1.take b) (w := wB) (fun x hx => ⟨wB_nonneg x, by have := hf.w60 (List.mem_of_mem_take hx); omega⟩) (by rw [List.length_take]; omega) (fun k a i hi => by
   show U134.l0_ k (U134.l0 k) a _ _ i = _
   unfold U134.l0_
   have hlen : (f.2.2.1.take b).length ≤ 10 := by rw [List.length_take]; omega
   simp only [head_in hi, head_0, Bool.and_self, cond_true, get_in hi, wrap_nat (show i < 9223372036854775807 by omega)]
   rfl) (fun k a => by
   show U134.l0_ k (U134.l0 k) a _ _ _ = _
   unfold U134.l0_
   simp only [head_end, cond_false]) (by omega) (by omega)
end
end
end Go.Proofs.YtbkpngmpdnnloaaGreat.V
