/- PROVED HERE: what the functions that the law FnExactShared reaches do in memory, each as a plain Lean function, and what these tell: part 5 of 7 of the proof of that law; no condition beyond those written out at each theorem. -/
import Derived.Deep.Slices
import Derived.ProofKit
import Derived.Test.YtbkpngmpdnnloaaGreatDoorZFnExactShared0
import Derived.Test.YtbkpngmpdnnloaaGreatDoorZFnExactShared2
import Derived.Test.YtbkpngmpdnnloaaGreatDoorZFnExactShared3
namespace Go.Proofs.YtbkpngmpdnnloaaGreatDoor.V
open Go
set_option linter.unusedVariables false
set_option linter.unusedSimpArgs false
noncomputable section
namespace U169
abbrev R := (((Int × Unit) × Unit) × ((List tFuncD) × Unit))
abbrev T0 : Type := Int → Int → (List tFuncD) → Option R
def l0_ (k : Nat) (l0 : T0) (a0 : Int) (a1 : Int) (a2 : List tFuncD) : Option R := bif decide (a1 < ((List.length a2 : Nat) : Int)) then (bif (decide (0 ≤ a1)) && (decide (a1 < ((List.length a2 : Nat) : Int))) then (Option.bind (U165.f k a0 ((List.getD a2 (Int.toNat a1) tFuncZ).1)) fun r1 => bif (decide (0 ≤ a1)) && (decide (a1 < ((List.length (updAt tFuncZ a2 (Int.toNat a1) (fun q_ => (r1.2.1, q_.2))) : Nat) : Int))) then (bif (decide (0 ≤ a1)) && (decide (a1 < ((List.length (updAt tFuncZ (updAt tFuncZ a2 (Int.toNat a1) (fun q_ => (r1.2.1, q_.2))) (Int.toNat a1) (fun q_ => (q_.1, r1.1.1.1, q_.2.2))) : Nat) : Int))) then (Option.bind (U168.f k (IntKind.wrap .i64 (r1.1.1.1 + 1)) ((List.getD (updAt tFuncZ (updAt tFuncZ a2 (Int.toNat a1) (fun q_ => (r1.2.1, q_.2))) (Int.toNat a1) (fun q_ => (q_.1, r1.1.1.1, q_.2.2))) (Int.toNat a1) tFuncZ).2.2.1)) fun r2 => l0 r2.1.1.1 (IntKind.wrap .i64 (a1 + 1)) (updAt tFuncZ (updAt tFuncZ (updAt tFuncZ a2 (Int.toNat a1) (fun q_ => (r1.2.1, q_.2))) (Int.toNat a1) (fun q_ => (q_.1, r1.1.1.1, q_.2.2))) (Int.toNat a1) (fun q_ => (q_.1, q_.2.1, r2.2.1, q_.2.2.2)))) else none) else none) else none) else (some (((a0, ()), ()), (a2, ())))
def all : Nat → (T0) × Unit
 | 0 => (fun _ _ _ => none, ())
 | k + 1 => (l0_ k (all k).1, ())
def l0 (k : Nat) : T0 := (all k).1
def f (k : Nat) (a0 : Int) (a1 : List tFuncD) : Option R := l0 k a0 0 a1
abbrev S : ShapeParts := ⟨[⟨false, [.own 0]⟩, ⟨false, [.int .i64]⟩], [(0, .row true tFunc)], false, [⟨false, [.int .i64]⟩], [(0, .row true tFunc)], [0]⟩
def s (k : Nat) : FS := S.fs fun x => f k x.1.2.1.1 x.2.1
def E (k : Nat) : Ents := [(⟨41, []⟩, U165.s k), (⟨42, []⟩, U168.s k)]
def L0 (l : T0) : LS R := ⟨[0], [(0, ⟨false, [.own 0]⟩), (1, ⟨false, [.int .i64]⟩), (5, ⟨false, [.int .i64]⟩)], [(0, .row true tFunc)], fun x => l x.1.2.1.1 x.1.2.2.1.1 x.2.1⟩
def L (l0 : T0) : List (LS R) := [L0 l0]
def c : Code := Tryz.f18.body.getD .skip
theorem eq (k : Nat) (x) : (s k).pf x = execF tab (E k) Tryz.f18 c (s k) (L (l0 k)) x := by kernel_rfl
theorem r0 (l0 : T0) (k : Nat) (x) : (L0 (l0_ k l0)).l x = roundOf tab (E k) (L l0) c (fin tab Tryz.f18 (s k)) 0 (L0 l0) x := by kernel_rfl
theorem sound : ∀ k, Sound Tryz.prog 18 (s k) := snd S (fun k => (s k).pf) E (fun k => (EntsOK.cons (U165.sound k) (EntsOK.cons (U168.sound k) EntsOK.nil))) (fun k => L (l0 k)) (fun k => ⟨⟨(L0 (l0 (k + 1))).l, rfl, fun x => r0 (l0 k) k x⟩, trivial⟩) eq
end U169
namespace U170
abbrev R := (((Int × Unit) × Unit) × ((List tFuncD) × Unit))
def f (k : Nat) (a0 : Int) (a1 : List tFuncD) : Option R := Option.bind (U169.f k a0 a1) fun r1 => some (((r1.1.1.1, ()), ()), (r1.2.1, ()))
abbrev S : ShapeParts := ⟨[⟨true, [.own 0]⟩, ⟨false, [.int .i64]⟩], [(0, .row true tFunc)], false, [⟨false, [.int .i64]⟩], [(0, .row true tFunc)], [0]⟩
def s (k : Nat) : FS := S.fs fun x => f k x.1.2.1.1 x.2.1
def E (k : Nat) : Ents := [(⟨18, []⟩, U169.s k)]
def L : List (LS R) := []
def c : Code := Tryz.f9.body.getD .skip
theorem eq (k : Nat) (x) : (s k).pf x = execF tab (E k) Tryz.f9 c (s k) L x := by kernel_rfl
theorem sound : ∀ k, Sound Tryz.prog 9 (s k) := snd S (fun k => (s k).pf) E (fun k => (EntsOK.cons (U169.sound k) EntsOK.nil)) (fun k => L) (fun k => trivial) eq
end U170
namespace U171
abbrev R := (((Int × Unit) × Unit) × Unit)
abbrev T0 : Type := (List Int) → Int → Int → Option R
def l0_ (k : Nat) (l0 : T0) (a0 : List Int) (a1 : Int) (a2 : Int) : Option R := bif decide (a2 < ((List.length a0 : Nat) : Int)) then (bif (decide (0 ≤ a2)) && (decide (a2 < ((List.length a0 : Nat) : Int))) then (bif !decide (List.getD a0 (Int.toNat a2) 0 = a1) then (some (((-1, ()), ()), ())) else (l0 a0 (IntKind.wrap .i64 (a1 + 1)) (IntKind.wrap .i64 (a2 + 1)))) else none) else (some (((a1, ()), ()), ()))
def all : Nat → (T0) × Unit
 | 0 => (fun _ _ _ => none, ())
 | k + 1 => (l0_ k (all k).1, ())
def l0 (k : Nat) : T0 := (all k).1
def f (k : Nat) (a0 : List Int) (a1 : Int) : Option R := l0 k a0 a1 0
abbrev S : ShapeParts := ⟨[⟨false, [.lst (.int .i64)]⟩, ⟨false, [.int .i64]⟩], [], false, [⟨false, [.int .i64]⟩], [], []⟩
def s (k : Nat) : FS := S.fs fun x => f k x.1.1.1 x.1.2.1.1
def E (k : Nat) : Ents := []
def L0 (l : T0) : LS R := ⟨[], [(0, ⟨false, [.lst (.int .i64)]⟩), (1, ⟨false, [.int .i64]⟩), (5, ⟨false, [.int .i64]⟩)], [], fun x => l x.1.1.1 x.1.2.1.1 x.1.2.2.1.1⟩
def L (l0 : T0) : List (LS R) := [L0 l0]
def c : Code := Tryz.f43.body.getD .skip
theorem eq (k : Nat) (x) : (s k).pf x = execF tab (E k) Tryz.f43 c (s k) (L (l0 k)) x := by kernel_rfl
theorem r0 (l0 : T0) (k : Nat) (x) : (L0 (l0_ k l0)).l x = roundOf tab (E k) (L l0) c (fin tab Tryz.f43 (s k)) 0 (L0 l0) x := by kernel_rfl
theorem sound : ∀ k, Sound Tryz.prog 43 (s k) := snd S (fun k => (s k).pf) E (fun k => EntsOK.nil) (fun k => L (l0 k)) (fun k => ⟨⟨(L0 (l0 (k + 1))).l, rfl, fun x => r0 (l0 k) k x⟩, trivial⟩) eq
end U171
namespace U172
abbrev R := (((Int × Unit) × Unit) × Unit)
abbrev T0 : Type := (List tPhiD) → Int → Int → Option R
def l0_ (k : Nat) (l0 : T0) (a0 : List tPhiD) (a1 : Int) (a2 : Int) : Option R := bif decide (a2 < ((List.length a0 : Nat) : Int)) then (bif (decide (0 ≤ a2)) && (decide (a2 < ((List.length a0 : Nat) : Int))) then (bif !decide ((List.getD a0 (Int.toNat a2) tPhiZ).1 = a1) then (some (((-1, ()), ()), ())) else (bif (decide (0 ≤ a2)) && (decide (a2 < ((List.length a0 : Nat) : Int))) then (Option.bind (U171.f k ((List.getD a0 (Int.toNat a2) tPhiZ).2.1) (IntKind.wrap .i64 (a1 + 1))) fun r1 => bif decide (r1.1.1.1 < 0) then (some (((-1, ()), ()), ())) else (l0 a0 r1.1.1.1 (IntKind.wrap .i64 (a2 + 1)))) else none)) else none) else (some (((a1, ()), ()), ()))
def all : Nat → (T0) × Unit
 | 0 => (fun _ _ _ => none, ())
 | k + 1 => (l0_ k (all k).1, ())
def l0 (k : Nat) : T0 := (all k).1
def f (k : Nat) (a0 : List tPhiD) (a1 : Int) : Option R := l0 k a0 a1 0
abbrev S : ShapeParts := ⟨[⟨false, [.lst tPhi]⟩, ⟨false, [.int .i64]⟩], [], false, [⟨false, [.int .i64]⟩], [], []⟩
def s (k : Nat) : FS := S.fs fun x => f k x.1.1.1 x.1.2.1.1
def E (k : Nat) : Ents := [(⟨43, []⟩, U171.s k)]
def L0 (l : T0) : LS R := ⟨[], [(0, ⟨false, [.lst tPhi]⟩), (1, ⟨false, [.int .i64]⟩), (5, ⟨false, [.int .i64]⟩)], [], fun x => l x.1.1.1 x.1.2.1.1 x.1.2.2.1.1⟩
def L (l0 : T0) : List (LS R) := [L0 l0]
def c : Code := Tryz.f81.body.getD .skip
theorem eq (k : Nat) (x) : (s k).pf x = execF tab (E k) Tryz.f81 c (s k) (L (l0 k)) x := by kernel_rfl
theorem r0 (l0 : T0) (k : Nat) (x) : (L0 (l0_ k l0)).l x = roundOf tab (E k) (L l0) c (fin tab Tryz.f81 (s k)) 0 (L0 l0) x := by kernel_rfl
theorem sound : ∀ k, Sound Tryz.prog 81 (s k) := snd S (fun k => (s k).pf) E (fun k => (EntsOK.cons (U171.sound k) EntsOK.nil)) (fun k => L (l0 k)) (fun k => ⟨⟨(L0 (l0 (k + 1))).l, rfl, fun x => r0 (l0 k) k x⟩, trivial⟩) eq
end U172
namespace U173
abbrev R := (((Int × Unit) × Unit) × Unit)
abbrev T0 : Type := (List tInstD) → Int → Int → Option R
def l0_ (k : Nat) (l0 : T0) (a0 : List tInstD) (a1 : Int) (a2 : Int) : Option R := bif decide (a2 < ((List.length a0 : Nat) : Int)) then (bif (decide (0 ≤ a2)) && (decide (a2 < ((List.length a0 : Nat) : Int))) then (bif !decide ((List.getD a0 (Int.toNat a2) tInstZ).1 = a1) then (some (((-1, ()), ()), ())) else (bif (decide (0 ≤ a2)) && (decide (a2 < ((List.length a0 : Nat) : Int))) then (bif !decide ((List.getD a0 (Int.toNat a2) tInstZ).2.1 = IntKind.wrap .i64 (a1 + 1)) then (some (((-1, ()), ()), ())) else (bif (decide (0 ≤ a2)) && (decide (a2 < ((List.length a0 : Nat) : Int))) then (bif !decide ((List.getD a0 (Int.toNat a2) tInstZ).2.2.1 = IntKind.wrap .i64 ((IntKind.wrap .i64 (a1 + 1)) + 1)) then (some (((-1, ()), ()), ())) else (bif (decide (0 ≤ a2)) && (decide (a2 < ((List.length a0 : Nat) : Int))) then (bif !decide ((List.getD a0 (Int.toNat a2) tInstZ).2.2.2.1 = IntKind.wrap .i64 ((IntKind.wrap .i64 ((IntKind.wrap .i64 (a1 + 1)) + 1)) + 1)) then (some (((-1, ()), ()), ())) else (bif (decide (0 ≤ a2)) && (decide (a2 < ((List.length a0 : Nat) : Int))) then (bif !decide ((List.getD a0 (Int.toNat a2) tInstZ).2.2.2.2.1 = IntKind.wrap .i64 ((IntKind.wrap .i64 ((IntKind.wrap .i64 ((IntKind.wrap .i64 (a1 + 1)) + 1)) + 1)) + 1)) then (some (((-1, ()), ()), ())) else (bif (decide (0 ≤ a2)) && (decide (a2 < ((List.length a0 : Nat) : Int))) then (bif !decide ((List.getD a0 (Int.toNat a2) tInstZ).2.2.2.2.2.1 = IntKind.wrap .i64 ((IntKind.wrap .i64 ((IntKind.wrap .i64 ((IntKind.wrap .i64 ((IntKind.wrap .i64 (a1 + 1)) + 1)) + 1)) + 1)) + 1)) then (some (((-1, ()), ()), ())) else (bif (decide (0 ≤ a2)) && (decide (a2 < ((List.length a0 : Nat) : Int))) then (Option.bind (U171.f k ((List.getD a0 (Int.toNat a2) tInstZ).2.2.2.2.2.2.1) (IntKind.wrap .i64 ((IntKind.wrap .i64 ((IntKind.wrap .i64 ((IntKind.wrap .i64 ((IntKind.wrap .i64 ((IntKind.wrap .i64 (a1 + 1)) + 1)) + 1)) + 1)) + 1)) + 1))) fun r1 => bif decide (r1.1.1.1 < 0) then (some (((-1, ()), ()), ())) else (l0 a0 r1.1.1.1 (IntKind.wrap .i64 (a2 + 1)))) else none)) else none)) else none)) else none)) else none)) else none)) else none) else (some (((a1, ()), ()), ()))
def all : Nat → (T0) × Unit
 | 0 => (fun _ _ _ => none, ())
 | k + 1 => (l0_ k (all k).1, ())
def l0 (k : Nat) : T0 := (all k).1
def f (k : Nat) (a0 : List tInstD) (a1 : Int) : Option R := l0 k a0 a1 0
abbrev S : ShapeParts := ⟨[⟨false, [.lst tInst]⟩, ⟨false, [.int .i64]⟩], [], false, [⟨false, [.int .i64]⟩], [], []⟩
def s (k : Nat) : FS := S.fs fun x => f k x.1.1.1 x.1.2.1.1
def E (k : Nat) : Ents := [(⟨43, []⟩, U171.s k)]
def L0 (l : T0) : LS R := ⟨[], [(0, ⟨false, [.lst tInst]⟩), (1, ⟨false, [.int .i64]⟩), (5, ⟨false, [.int .i64]⟩)], [], fun x => l x.1.1.1 x.1.2.1.1 x.1.2.2.1.1⟩
def L (l0 : T0) : List (LS R) := [L0 l0]
def c : Code := Tryz.f82.body.getD .skip
theorem eq (k : Nat) (x) : (s k).pf x = execF tab (E k) Tryz.f82 c (s k) (L (l0 k)) x := by kernel_rfl
theorem r0 (l0 : T0) (k : Nat) (x) : (L0 (l0_ k l0)).l x = roundOf tab (E k) (L l0) c (fin tab Tryz.f82 (s k)) 0 (L0 l0) x := by kernel_rfl
theorem sound : ∀ k, Sound Tryz.prog 82 (s k) := snd S (fun k => (s k).pf) E (fun k => (EntsOK.cons (U171.sound k) EntsOK.nil)) (fun k => L (l0 k)) (fun k => ⟨⟨(L0 (l0 (k + 1))).l, rfl, fun x => r0 (l0 k) k x⟩, trivial⟩) eq
end U173
namespace U174
abbrev R := (((Int × Unit) × Unit) × Unit)
abbrev T0 : Type := (List tBlockD) → Int → Int → Option R
def l0_ (k : Nat) (l0 : T0) (a0 : List tBlockD) (a1 : Int) (a2 : Int) : Option R := bif decide (a2 < ((List.length a0 : Nat) : Int)) then (bif (decide (0 ≤ a2)) && (decide (a2 < ((List.length a0 : Nat) : Int))) then (Option.bind (U172.f k ((List.getD a0 (Int.toNat a2) tBlockZ).1) a1) fun r1 => bif decide (r1.1.1.1 < 0) then (some (((-1, ()), ()), ())) else (bif (decide (0 ≤ a2)) && (decide (a2 < ((List.length a0 : Nat) : Int))) then (Option.bind (U173.f k ((List.getD a0 (Int.toNat a2) tBlockZ).2.1) r1.1.1.1) fun r2 => bif decide (r2.1.1.1 < 0) then (some (((-1, ()), ()), ())) else (bif (decide (0 ≤ a2)) && (decide (a2 < ((List.length a0 : Nat) : Int))) then (bif !decide ((List.getD a0 (Int.toNat a2) tBlockZ).2.2.1 = r2.1.1.1) then (some (((-1, ()), ()), ())) else (bif (decide (0 ≤ a2)) && (decide (a2 < ((List.length a0 : Nat) : Int))) then (bif !decide ((List.getD a0 (Int.toNat a2) tBlockZ).2.2.2.1 = IntKind.wrap .i64 (r2.1.1.1 + 1)) then (some (((-1, ()), ()), ())) else (bif (decide (0 ≤ a2)) && (decide (a2 < ((List.length a0 : Nat) : Int))) then (bif !decide ((List.getD a0 (Int.toNat a2) tBlockZ).2.2.2.2.1 = IntKind.wrap .i64 ((IntKind.wrap .i64 (r2.1.1.1 + 1)) + 1)) then (some (((-1, ()), ()), ())) else (bif (decide (0 ≤ a2)) && (decide (a2 < ((List.length a0 : Nat) : Int))) then (bif !decide ((List.getD a0 (Int.toNat a2) tBlockZ).2.2.2.2.2.1 = IntKind.wrap .i64 ((IntKind.wrap .i64 ((IntKind.wrap .i64 (r2.1.1.1 + 1)) + 1)) + 1)) then (some (((-1, ()), ()), ())) else (l0 a0 (IntKind.wrap .i64 ((IntKind.wrap .i64 ((IntKind.wrap .i64 ((IntKind.wrap .i64 (r2.1.1.1 + 1)) + 1)) + 1)) + 1)) (IntKind.wrap .i64 (a2 + 1)))) else none)) else none)) else none)) else none)) else none)) else none) else (some (((a1, ()), ()), ()))
def all : Nat → (T0) × Unit
 | 0 => (fun _ _ _ => none, ())
 | k + 1 => (l0_ k (all k).1, ())
def l0 (k : Nat) : T0 := (all k).1
def f (k : Nat) (a0 : List tBlockD) (a1 : Int) : Option R := l0 k a0 a1 0
abbrev S : ShapeParts := ⟨[⟨false, [.lst tBlock]⟩, ⟨false, [.int .i64]⟩], [], false, [⟨false, [.int .i64]⟩], [], []⟩
def s (k : Nat) : FS := S.fs fun x => f k x.1.1.1 x.1.2.1.1
def E (k : Nat) : Ents := [(⟨81, []⟩, U172.s k), (⟨82, []⟩, U173.s k)]
def L0 (l : T0) : LS R := ⟨[], [(0, ⟨false, [.lst tBlock]⟩), (1, ⟨false, [.int .i64]⟩), (5, ⟨false, [.int .i64]⟩)], [], fun x => l x.1.1.1 x.1.2.1.1 x.1.2.2.1.1⟩
def L (l0 : T0) : List (LS R) := [L0 l0]
def c : Code := Tryz.f44.body.getD .skip
theorem eq (k : Nat) (x) : (s k).pf x = execF tab (E k) Tryz.f44 c (s k) (L (l0 k)) x := by kernel_rfl
theorem r0 (l0 : T0) (k : Nat) (x) : (L0 (l0_ k l0)).l x = roundOf tab (E k) (L l0) c (fin tab Tryz.f44 (s k)) 0 (L0 l0) x := by kernel_rfl
theorem sound : ∀ k, Sound Tryz.prog 44 (s k) := snd S (fun k => (s k).pf) E (fun k => (EntsOK.cons (U172.sound k) (EntsOK.cons (U173.sound k) EntsOK.nil))) (fun k => L (l0 k)) (fun k => ⟨⟨(L0 (l0 (k + 1))).l, rfl, fun x => r0 (l0 k) k x⟩, trivial⟩) eq
end U174
namespace U175
abbrev R := (((Int × Unit) × Unit) × Unit)
abbrev T0 : Type := (List tFuncD) → Int → Int → Option R
def l0_ (k : Nat) (l0 : T0) (a0 : List tFuncD) (a1 : Int) (a2 : Int) : Option R := bif decide (a2 < ((List.length a0 : Nat) : Int)) then (bif (decide (0 ≤ a2)) && (decide (a2 < ((List.length a0 : Nat) : Int))) then (Option.bind (U171.f k ((List.getD a0 (Int.toNat a2) tFuncZ).1) a1) fun r1 => bif decide (r1.1.1.1 < 0) then (some (((-1, ()), ()), ())) else (bif (decide (0 ≤ a2)) && (decide (a2 < ((List.length a0 : Nat) : Int))) then (bif !decide ((List.getD a0 (Int.toNat a2) tFuncZ).2.1 = r1.1.1.1) then (some (((-1, ()), ()), ())) else (bif (decide (0 ≤ a2)) && (decide (a2 < ((List.length a0 : Nat) : Int))) then (Option.bind (U174.f k ((List.getD a0 (Int.toNat a2) tFuncZ).2.2.1) (IntKind.wrap .i64 (r1.1.1.1 + 1))) fun r2 => bif decide (r2.1.1.1 < 0) then (some (((-1, ()), ()), ())) else (l0 a0 r2.1.1.1 (IntKind.wrap .i64 (a2 + 1)))) else none)) else none)) else none) else (some (((a1, ()), ()), ()))
def all : Nat → (T0) × Unit
 | 0 => (fun _ _ _ => none, ())
 | k + 1 => (l0_ k (all k).1, ())
def l0 (k : Nat) : T0 := (all k).1
def f (k : Nat) (a0 : List tFuncD) (a1 : Int) : Option R := l0 k a0 a1 0
abbrev S : ShapeParts := ⟨[⟨false, [.lst tFunc]⟩, ⟨false, [.int .i64]⟩], [], false, [⟨false, [.int .i64]⟩], [], []⟩
def s (k : Nat) : FS := S.fs fun x => f k x.1.1.1 x.1.2.1.1
def E (k : Nat) : Ents := [(⟨43, []⟩, U171.s k), (⟨44, []⟩, U174.s k)]
def L0 (l : T0) : LS R := ⟨[], [(0, ⟨false, [.lst tFunc]⟩), (1, ⟨false, [.int .i64]⟩), (5, ⟨false, [.int .i64]⟩)], [], fun x => l x.1.1.1 x.1.2.1.1 x.1.2.2.1.1⟩
def L (l0 : T0) : List (LS R) := [L0 l0]
def c : Code := Tryz.f19.body.getD .skip
theorem eq (k : Nat) (x) : (s k).pf x = execF tab (E k) Tryz.f19 c (s k) (L (l0 k)) x := by kernel_rfl
theorem r0 (l0 : T0) (k : Nat) (x) : (L0 (l0_ k l0)).l x = roundOf tab (E k) (L l0) c (fin tab Tryz.f19 (s k)) 0 (L0 l0) x := by kernel_rfl
theorem sound : ∀ k, Sound Tryz.prog 19 (s k) := snd S (fun k => (s k).pf) E (fun k => (EntsOK.cons (U171.sound k) (EntsOK.cons (U174.sound k) EntsOK.nil))) (fun k => L (l0 k)) (fun k => ⟨⟨(L0 (l0 (k + 1))).l, rfl, fun x => r0 (l0 k) k x⟩, trivial⟩) eq
end U175
namespace U176
abbrev R := (((Int × Unit) × Unit) × Unit)
def f (k : Nat) (a0 : tModuleD) (a1 : Int) : Option R := Option.bind (U175.f k a0.1 a1) fun r1 => bif decide (r1.1.1.1 < 0) then (some (((-1, ()), ()), ())) else (some (((r1.1.1.1, ()), ()), ()))
abbrev S : ShapeParts := ⟨[⟨true, [.lst tFunc]⟩, ⟨false, [.int .i64]⟩], [], false, [⟨false, [.int .i64]⟩], [], []⟩
def s (k : Nat) : FS := S.fs fun x => f k x.1.1 x.1.2.1.1
def E (k : Nat) : Ents := [(⟨19, []⟩, U175.s k)]
def L : List (LS R) := []
def c : Code := Tryz.f10.body.getD .skip
theorem eq (k : Nat) (x) : (s k).pf x = execF tab (E k) Tryz.f10 c (s k) L x := by kernel_rfl
theorem sound : ∀ k, Sound Tryz.prog 10 (s k) := snd S (fun k => (s k).pf) E (fun k => (EntsOK.cons (U175.sound k) EntsOK.nil)) (fun k => L) (fun k => trivial) eq
end U176
namespace laws_FnExactShared
abbrev R := (((Bool × Unit) × Unit) × Unit)
set_option maxRecDepth 100000 in
def f (k : Nat) (a0 : tModuleD) : Option R := Option.bind (U9.f k (a0.1, ()) 1048576) fun r1 => bif decide (r1.1.1.1 < 0) then (some (((true, ()), ()), ())) else (Option.bind (U20.f k (a0.1, ())) fun r2 => Option.bind (U62.f k (r2.2.1, ())) fun r3 => Option.bind (U20.f k (a0.1, ())) fun r4 => Option.bind (U153.f k (r4.2.1, ())) fun r5 => Option.bind (U164.f k (r5.2.1, ()) (r3.2.1, ())) fun r6 => bif !r6.1.1.1 then (some (((false, ()), ()), ())) else (bif !(r5.1.2.1.1 == r3.1.2.1.1) then (some (((false, ()), ()), ())) else (Option.bind (U20.f k (a0.1, ())) fun r7 => Option.bind (U164.f k (r4.2.1, ()) (r7.2.1, ())) fun r8 => bif !r8.1.1.1 then (some (((false, ()), ()), ())) else (Option.bind (U170.f k 1 r4.2.1) fun r9 => bif decide (r9.1.1.1 < 0) then (some (((false, ()), ()), ())) else (Option.bind (U164.f k (r5.2.1, ()) (r3.2.1, ())) fun r10 => bif !r10.1.1.1 then (some (((false, ()), ()), ())) else (bif !(r5.1.2.1.1 == r3.1.2.1.1) then (some (((false, ()), ()), ())) else (Option.bind (U170.f k 1 r5.2.1) fun r11 => Option.bind (U176.f k (r11.2.1, ()) 1) fun r12 => bif decide (r12.1.1.1 < 0) then (some (((false, ()), ()), ())) else (bif !decide (r12.1.1.1 = r11.1.1.1) then (some (((false, ()), ()), ())) else (Option.bind (U20.f k (a0.1, ())) fun r13 => Option.bind (U153.f k (r13.2.1, ())) fun r14 => Option.bind (U164.f k (r14.2.1, ()) (r3.2.1, ())) fun r15 => bif !r15.1.1.1 then (some (((false, ()), ()), ())) else (bif !(r14.1.2.1.1 == r3.1.2.1.1) then (some (((false, ()), ()), ())) else (Option.bind (U176.f k (r11.2.1, ()) 1) fun r16 => bif decide (r16.1.1.1 < 0) then (some (((false, ()), ()), ())) else (bif !decide (r16.1.1.1 = r11.1.1.1) then (some (((false, ()), ()), ())) else (some (((true, ()), ()), ()))))))))))))))
abbrev S : ShapeParts := ⟨[⟨true, [.lst tFunc]⟩], [], false, [⟨false, [.bool]⟩], [], []⟩
def s (k : Nat) : FS := S.fs fun x => f k x.1.1
def E (k : Nat) : Ents := [(⟨4, []⟩, U9.s k), (⟨6, []⟩, U20.s k), (⟨5, []⟩, U62.s k), (⟨7, []⟩, U153.s k), (⟨8, []⟩, U164.s k), (⟨9, []⟩, U170.s k), (⟨10, []⟩, U176.s k)]
def L : List (LS R) := []
def c : Code := Tryz.f3.body.getD .skip
set_option maxRecDepth 100000 in
theorem eq (k : Nat) (x) : (s k).pf x = execF tab (E k) Tryz.f3 c (s k) L x := by kernel_rfl
set_option maxRecDepth 100000 in
theorem sound : ∀ k, Sound Tryz.prog 3 (s k) := snd S (fun k => (s k).pf) E (fun k => (EntsOK.cons (U9.sound k) (EntsOK.cons (U20.sound k) (EntsOK.cons (U62.sound k) (EntsOK.cons (U153.sound k) (EntsOK.cons (U164.sound k) (EntsOK.cons (U170.sound k) (EntsOK.cons (U176.sound k) EntsOK.nil)))))))) (fun k => L) (fun k => trivial) eq
end laws_FnExactShared
section
open Go Go.Deep Go.RowKit
/-- What is known of a datum that was read. -/
def Wf : (t : T) → t.Den → Prop
 | .int k, n => (Lit.int k n).wf = true
 | .bool, _ => True
 | .str, s => ByteArray.size s ≤ 9223372036854775807
 | .list t, xs => List.length (α := t.Den) xs ≤ 9223372036854775807 ∧ ∀ x : t.Den, List.Mem (α := t.Den) x xs → Wf t x
 | .pair a b, x => Wf a (Prod.fst (α := a.Den) (β := b.Den) x) ∧ Wf b (Prod.snd (α := a.Den) (β := b.Den) x)
 | .unit, _ => True
def OpensC (P : Program) (ty : TypeId) (t r : T) : Prop :=
 ∀ (H : Type) (enc : TypeId × Value → H) (w : World) (base : Nat) (spare : Nat → Bool) (held : Bool) (fuel : Nat) (cs : List Value) (x : DataW H × List MemPlace), DataW.trod enc P w base spare held fuel ty cs = some x →
  ∀ (y : r.Den) (us : List Value), Rd (fun b => b < w.heap.size) w r y us → Wf r y → ∃ a : t.Den, Rd (fun b => b < w.heap.size) w t a (cs ++ us) ∧ Wf t a
def Opens (P : Program) (ty : TypeId) (t : T) : Prop :=
 ∀ (H : Type) (enc : TypeId × Value → H) (w : World) (base : Nat) (spare : Nat → Bool) (held : Bool) (fuel : Nat) (cs : List Value) (x : DataW H × List MemPlace), DataW.trod enc P w base spare held fuel ty cs = some x →
  ∃ a : t.Den, Rd (fun b => b < w.heap.size) w t a cs ∧ Wf t a
theorem OpensC.whole {P : Program} {ty : TypeId} {t : T} (h : OpensC P ty t .unit) : Opens P ty t := by
 intro H enc w base spare held fuel cs x hx
 obtain ⟨a, h1, h2⟩ := h H enc w base spare held fuel cs x hx () [] rfl trivial
 rw [List.append_nil] at h1
 exact ⟨a, h1, h2⟩
theorem OpensC.one {P : Program} {ty : TypeId} {e : T} (h : OpensC P ty (.pair e .unit) .unit) : Opens P ty e := by
 intro H enc w base spare held fuel cs x hx
 obtain ⟨a, ⟨us, ws, h0, h1, h2⟩, h3⟩ := h H enc w base spare held fuel cs x hx () [] rfl trivial
 simp only [Rd] at h2
 subst h2
 simp only [List.append_nil] at h0
 subst h0
 exact ⟨_, h1, h3.1⟩
theorem OpensC.leaf {P : Program} {ty : TypeId} {e r : T} (h : Opens P ty e) : OpensC P ty (.pair e r) r := by
 intro H enc w base spare held fuel cs x hx y us hy hw
 obtain ⟨a, h1, h2⟩ := h H enc w base spare held fuel cs x hx
 exact ⟨(a, y), ⟨cs, us, rfl, h1, hy⟩, h2, hw⟩
theorem opens_list {P : Program} {ty el : TypeId} {e : T} (hu : P.underlying ty = some (.slice el)) (hc : P.cellsOf el = e.sz) (h1 : 1 ≤ e.sz) (h : Opens P el e) : Opens P ty (.list e) := by
 intro H enc w base spare held fuel cs x hx
 rcases open_slice hu hx with ⟨rfl, -⟩ | ⟨a, len, cap, m, n, D, Pl, rfl, hb, hl, hm, hmm, -, hel⟩
 ·exact ⟨([] : List e.Den), ⟨none, 0, rfl, Nat.le_refl _, fun h => absurd rfl h⟩, Nat.zero_le _, fun _ h => (List.not_mem_nil h).elim⟩
 ·have hlm : len ≤ m := by rw [hmm]; split <;> omega
  have hspot : len ≠ 0 → a.spot = none ∧ a.block < w.heap.size := by
   intro hn
   obtain ⟨cs', c1, c2⟩ := hel 0 (by omega)
   obtain ⟨-, l1, l2⟩ := World.cells?_some c1
   rw [hc] at l1 l2
   have h0 := l2 0 (by omega)
   simp only [Nat.zero_mul, Addr.add, if_true] at h0
   rw [List.getElem?_eq_getElem (by omega)] at h0
   unfold World.cell? at h0
   split at h0
   ·rename_i hh
    refine ⟨?_, (Array.getElem?_eq_some_iff.1 hh).1⟩
    split at h0
    ·cases h0
    ·rename_i hs
     simpa using hs
   ·cases h0
  have hadd : len ≠ 0 → ∀ n, a.add n = ⟨a.block, a.off + n, none⟩ := by
   intro hn n
   have hs := (hspot hn).1
   unfold Addr.add
   split
   ·rename_i h0
    subst h0
    cases a
    simp only at hs
    subst hs
    rfl
   ·rfl
  have each : ∀ n, n ≤ len → ∃ (xs : List e.Den) (us : List Value), xs.length = n ∧ (∀ x ∈ xs, Wf e x) ∧ At w a.block a.off us ∧ ELs (Rd (fun b => b < w.heap.size) w e) e.sz xs us := by
   intro n
   induction n with
   | zero => exact fun _ => ⟨[], [], rfl, fun _ h => (List.not_mem_nil h).elim, fun j v hj => by simp at hj, rfl⟩
   | succ n ih =>
    intro hn
    obtain ⟨xs, us, i1, i2, i4, i5⟩ := ih (by omega)
    obtain ⟨cs', c1, c2⟩ := hel n (by omega)
    obtain ⟨y, y1, y2⟩ := h H enc w base spare held _ cs' _ c2
    obtain ⟨-, l1, l2⟩ := World.cells?_some c1
    rw [hc] at l1 l2
    have hcell : ∀ j, j < e.sz → w.cell? ⟨a.block, a.off + (n * e.sz + j), none⟩ = cs'[j]? := by
     intro j hj
     have := l2 j hj
     rw [Deep.add_add, hadd (by omega)] at this
     exact this
    refine ⟨xs ++ [y], us ++ cs', by simp [i1], fun x hx => ?_, fun j v hj => ?_, ?_⟩
    ·rcases List.mem_append.1 hx with hx | hx
     ·exact i2 x hx
     ·simp only [List.mem_singleton] at hx; subst hx; exact y2
    ·have hul : us.length = n * e.sz := by have := i5.length; rw [i1] at this; exact this
     rcases Nat.lt_or_ge j us.length with hlt | hge
     ·rw [List.getElem?_append_left hlt] at hj
      exact i4 j v hj
     ·rw [List.getElem?_append_right hge] at hj
      have hlt := (List.getElem?_eq_some_iff.1 hj).1
      have := hcell (j - us.length) (by omega)
      rw [hj, show a.off + (n * e.sz + (j - us.length)) = a.off + j by omega] at this
      exact this
    ·refine i5.app ⟨cs', [], by simp, l1, y1, rfl⟩
  obtain ⟨xs, us, i1, i2, i4, i5⟩ := each len (Nat.le_refl _)
  refine ⟨xs, ⟨some a, cap, by rw [i1], by omega, fun hne => ?_⟩, ?_, i2⟩
  ·have hn : len ≠ 0 := fun h0 => hne (List.length_eq_zero_iff.1 (by omega))
   obtain ⟨s1, s2⟩ := hspot hn
   refine ⟨a.block, a.off, us, ?_, s2, i4, i5⟩
   cases a
   simp only at s1
   subst s1
   rfl
  ·have : cap ≤ maxLen := hm
   unfold maxLen at this
   show xs.length ≤ _
   omega
theorem opens_int {P : Program} {t : TypeId} {k : IntKind} (hu : P.underlying t = some (.int k)) : Opens P t (.int k) := by
 intro H enc w base spare held fuel cs x h
 obtain ⟨n, rfl, -, hw⟩ := DataW.trod_int hu h
 exact ⟨n, rfl, hw⟩
/-- Fields from place o on, of m cells. -/
def OpensF (P : Program) (o m : Nat) (fs : List Field) (t r : T) : Prop :=
 ∀ (H : Type) (enc : TypeId × Value → H) (w : World) (base : Nat) (spare : Nat → Bool) (held : Bool) (fuel : Nat) (cs : List Value),
  (∀ f ∈ fs, ∃ x, DataW.trod enc P w base spare held fuel f.type ((cs.drop f.offset).take (P.cellsOf f.type)) = some x) → cs.length = o + m →
  ∀ (y : r.Den) (us : List Value), Rd (fun b => b < w.heap.size) w r y us → Wf r y → ∃ a : t.Den, Rd (fun b => b < w.heap.size) w t a (cs.drop o ++ us) ∧ Wf t a
theorem opensF_nil {P : Program} {o : Nat} {t : T} : OpensF P o 0 [] t t := by
 intro H enc w base spare held fuel cs h hl y us hy hw
 refine ⟨y, ?_, hw⟩
 rw [List.drop_eq_nil_of_le (by omega), List.nil_append]
 exact hy
theorem opensF_cons {P : Program} {o m n : Nat} {f : Field} {fs : List Field} {t t1 r : T} (ho : f.offset = o) (hc : P.cellsOf f.type = m) (hd : OpensC P f.type t t1) (hs : OpensF P (o + m) n fs t1 r) : OpensF P o (m + n) (f :: fs) t r := by
 intro H enc w base spare held fuel cs h hl y us hy hw
 obtain ⟨x, hx⟩ := h f (by simp)
 obtain ⟨a1, q1, q2⟩ := hs H enc w base spare held fuel cs (fun f hf => h f (by simp [hf])) (by omega) y us hy hw
 rw [ho, hc] at hx
 obtain ⟨a, q3, q4⟩ := hd H enc w base spare held fuel _ _ hx a1 _ q1 q2
 refine ⟨a, ?_, q4⟩
 rw [← List.append_assoc, ← List.drop_drop, List.take_append_drop] at q3
 exact q3
theorem opensC_struct {P : Program} {ty : TypeId} {fs : Array Field} {m : Nat} {t r : T} (hu : P.underlying ty = some (.struct fs)) (hc : P.cellsOf ty = m) (hd : OpensF P 0 m fs.toList t r) : OpensC P ty t r := by
 intro H enc w base spare held fuel cs x h y us hy hw
 obtain ⟨xs, n, -, -, hl, hxs, hf⟩ := DataW.trod_struct hu h
 have := hd H enc w base spare held n cs (fun f hm => by
  obtain ⟨i, hi, rfl⟩ := List.getElem_of_mem hm
  have hi' : i < fs.size := by simpa using hi
  have := hf i fs[i] (by simp [hi'])
  rw [List.getElem?_eq_getElem (by omega)] at this
  exact ⟨_, by simpa using this⟩) (by rw [hl, hc, Nat.zero_add]) y us hy hw
 simpa using this
def gh0 (W : World) : Gh := ⟨fun _ => none, fun _ => none, fun b => b < W.heap.size⟩
theorem rval_struct {W : World} {t : T} {a : t.Den} {cs : Array Value} (h : Rd (fun b => b < W.heap.size) W t a cs.toList) : RVal (gh0 W) [] W true (cellsOf t a) (.agg cs) :=
 ⟨cs, rfl, rcs_cells (g := gh0 W) h⟩
theorem law_calls {P : Program} {f : FuncId} {ins : List VS} {pf : DenV ins × DenO [] → Option (DenV [⟨false, [.bool]⟩] × DenO [])} (hs : Sound P f ⟨ins, [], false, [⟨false, [.bool]⟩], [], [], pf⟩) {x : DenV ins} (hx : pf (x, ()) = some (((true, ()), ()), ())) {W : World} {args : Array Value}
  (hlx : LX (gh0 W).F W) (h : RVals (gh0 W) [] W (instV ins x) args.toList) : Calls P f args W fun e W' => e = .returned (.bool true) ∧ Below W.heap.size W W' := by
 have hG : RelG (gh0 W) [] W := ⟨fun o ob h => (by cases h), fun b o h => (by cases h), fun b h => h, hlx⟩
 refine (hs.2 (x, ()) (((true, ()), ()), ()) hx (gh0 W) W args hG h).mono fun e W' he => ?_
 cases e with
 | returned v =>
  obtain ⟨g', O⟩ := he
  have hv : RVal g' [] W' false [.bool true] v := O.val
  obtain ⟨u, us, e, h1, h2⟩ := hv
  obtain ⟨rfl, rfl⟩ : u = v ∧ us = [] := by simpa using e.symm
  have h3 : u = .bool true := h1.2
  refine ⟨by rw [h3], O.ext.os, O.ext.tape, O.ext.output, O.ext.size, fun k hk => O.ext.block k hk (by simp [gh0])⟩
 | panicked c => exact he.elim
 | outgrown => exact he.elim
end
theorem opensC137 (r : T) : OpensC Tryz.prog 137 (.pair (.int .i64) (.pair (.list (.int .i64)) r)) r := opensC_struct Tryz.underlying137 (by kernel_rfl) (opensF_cons (o := 0) (m := 1) (n := 1) rfl (by kernel_rfl) (OpensC.leaf (opens_int Tryz.underlying2)) (opensF_cons (o := 1) (m := 1) (n := 0) rfl (by kernel_rfl) (OpensC.leaf (opens_list Tryz.underlying37 (by kernel_rfl) (by decide) (opens_int Tryz.underlying2))) opensF_nil))
theorem opensC139 (r : T) : OpensC Tryz.prog 139 (.pair (.int .i64) (.pair (.int .i64) (.pair (.int .i64) (.pair (.int .i64) (.pair (.int .i64) (.pair (.int .i64) (.pair (.list (.int .i64)) r))))))) r := opensC_struct Tryz.underlying139 (by kernel_rfl) (opensF_cons (o := 0) (m := 1) (n := 6) rfl (by kernel_rfl) (OpensC.leaf (opens_int Tryz.underlying2)) (opensF_cons (o := 1) (m := 1) (n := 5) rfl (by kernel_rfl) (OpensC.leaf (opens_int Tryz.underlying2)) (opensF_cons (o := 2) (m := 1) (n := 4) rfl (by kernel_rfl) (OpensC.leaf (opens_int Tryz.underlying2)) (opensF_cons (o := 3) (m := 1) (n := 3) rfl (by kernel_rfl) (OpensC.leaf (opens_int Tryz.underlying2)) (opensF_cons (o := 4) (m := 1) (n := 2) rfl (by kernel_rfl) (OpensC.leaf (opens_int Tryz.underlying2)) (opensF_cons (o := 5) (m := 1) (n := 1) rfl (by kernel_rfl) (OpensC.leaf (opens_int Tryz.underlying2)) (opensF_cons (o := 6) (m := 1) (n := 0) rfl (by kernel_rfl) (OpensC.leaf (opens_list Tryz.underlying37 (by kernel_rfl) (by decide) (opens_int Tryz.underlying2))) opensF_nil)))))))
theorem opensC107 (r : T) : OpensC Tryz.prog 107 (.pair (.int .i64) (.pair (.int .i64) (.pair (.int .i64) (.pair (.int .i64) r)))) r := opensC_struct Tryz.underlying107 (by kernel_rfl) (opensF_cons (o := 0) (m := 1) (n := 3) rfl (by kernel_rfl) (OpensC.leaf (opens_int Tryz.underlying2)) (opensF_cons (o := 1) (m := 1) (n := 2) rfl (by kernel_rfl) (OpensC.leaf (opens_int Tryz.underlying2)) (opensF_cons (o := 2) (m := 1) (n := 1) rfl (by kernel_rfl) (OpensC.leaf (opens_int Tryz.underlying2)) (opensF_cons (o := 3) (m := 1) (n := 0) rfl (by kernel_rfl) (OpensC.leaf (opens_int Tryz.underlying2)) opensF_nil))))
theorem opensC109 (r : T) : OpensC Tryz.prog 109 (.pair (.list tPhi) (.pair (.list tInst) (.pair (.int .i64) (.pair (.int .i64) (.pair (.int .i64) (.pair (.int .i64) r)))))) r := opensC_struct Tryz.underlying109 (by kernel_rfl) (opensF_cons (o := 0) (m := 1) (n := 5) rfl (by kernel_rfl) (OpensC.leaf (opens_list Tryz.underlying105 (by kernel_rfl) (by decide) (OpensC.whole (opensC137 _)))) (opensF_cons (o := 1) (m := 1) (n := 4) rfl (by kernel_rfl) (OpensC.leaf (opens_list Tryz.underlying106 (by kernel_rfl) (by decide) (OpensC.whole (opensC139 _)))) (opensF_cons (o := 2) (m := 4) (n := 0) rfl (by kernel_rfl) (opensC107 _) opensF_nil)))
theorem opensC49 (r : T) : OpensC Tryz.prog 49 (.pair (.list (.int .i64)) (.pair (.int .i64) (.pair (.list tBlock) r))) r := opensC_struct Tryz.underlying49 (by kernel_rfl) (opensF_cons (o := 0) (m := 1) (n := 2) rfl (by kernel_rfl) (OpensC.leaf (opens_list Tryz.underlying37 (by kernel_rfl) (by decide) (opens_int Tryz.underlying2))) (opensF_cons (o := 1) (m := 1) (n := 1) rfl (by kernel_rfl) (OpensC.leaf (opens_int Tryz.underlying2)) (opensF_cons (o := 2) (m := 1) (n := 0) rfl (by kernel_rfl) (OpensC.leaf (opens_list Tryz.underlying47 (by kernel_rfl) (by decide) (OpensC.whole (opensC109 _)))) opensF_nil)))
theorem opensC24 (r : T) : OpensC Tryz.prog 24 (.pair (.list tFunc) r) r := opensC_struct Tryz.underlying24 (by kernel_rfl) (opensF_cons (o := 0) (m := 1) (n := 0) rfl (by kernel_rfl) (OpensC.leaf (opens_list Tryz.underlying22 (by kernel_rfl) (by decide) (OpensC.whole (opensC49 _)))) opensF_nil)
def Ev {R : Type} (g : Nat → Option R) (r : R) : Prop := ∃ n, ∀ k, n ≤ k → g k = some r
abbrev one {α : Type} (x : α) : ((α × Unit) × Unit) × Unit := (((x, ()), ()), ())
abbrev rowR {α : Type} (xs : α) : ((Unit × Unit) × Unit) × (α × Unit) := ((((), ()), ()), (xs, ()))
section
variable {R S : Type}
theorem Ev.cst {o : Option R} {r : R} (h : o = some r) : Ev (fun _ => o) r := ⟨0, fun _ _ => h⟩
theorem Ev.all {g : Nat → Option R} {r : R} (h : ∀ k, g k = some r) : Ev g r := ⟨0, fun k _ => h k⟩
theorem Ev.congr {g g' : Nat → Option R} {r : R} (h : Ev g' r) (e : ∀ k, g k = g' k) : Ev g r := by
 obtain ⟨n, h⟩ := h
 exact ⟨n, fun k hk => by rw [e, h k hk]⟩
theorem Ev.step {g g' : Nat → Option R} {r : R} (h : Ev g' r) (e : ∀ k, g (k + 1) = g' k) : Ev g r := by
 obtain ⟨n, h⟩ := h
 refine ⟨n + 1, fun k hk => ?_⟩
 obtain ⟨k, rfl⟩ : ∃ j, k = j + 1 := ⟨k - 1, by omega⟩
 rw [e, h k (by omega)]
theorem Ev.bind {g : Nat → Option S} {f : Nat → S → Option R} {a : S} {r : R} (h : Ev g a) (k : Ev (fun n => f n a) r) : Ev (fun n => Option.bind (g n) (f n)) r := by
 obtain ⟨n, h⟩ := h
 obtain ⟨m, k⟩ := k
 exact ⟨max n m, fun j hj => by show Option.bind (g j) (f j) = some r; rw [h j (by omega), Option.bind_some]; exact k j (by omega)⟩
theorem Ev.rw {g : Nat → Option R} {r s : R} (h : Ev g r) (e : r = s) : Ev g s := e ▸ h
theorem Ev.pos {c : Bool} {f g : Nat → Option R} {r : R} (hc : c = true) (h : Ev f r) : Ev (fun k => bif c then f k else g k) r := h.congr fun k => by rw [hc]; rfl
theorem Ev.neg {c : Bool} {f g : Nat → Option R} {r : R} (hc : c = false) (h : Ev g r) : Ev (fun k => bif c then f k else g k) r := h.congr fun k => by rw [hc]; rfl
theorem Ev.uniq {g : Nat → Option R} {r s : R} (h : Ev g r) (k : Ev g s) : r = s := by
 obtain ⟨n, h⟩ := h
 obtain ⟨m, k⟩ := k
 have a := h (max n m) (by omega)
 have b := k (max n m) (by omega)
 rw [a] at b; exact Option.some.inj b
theorem Ev.ex {g : Nat → Option R} {r : R} (h : Ev g r) : ∃ k, g k = some r := by
 obtain ⟨n, h⟩ := h
 exact ⟨n, h n (Nat.le_refl _)⟩
end
def W (x : Int) : Int := IntKind.wrap .i64 x
theorem wrap_id {x : Int} (h0 : -9223372036854775808 ≤ x) (h1 : x ≤ 9223372036854775807) : IntKind.wrap .i64 x = x := by
 have e : IntKind.wrap .i64 x = if (true && decide (x % 18446744073709551616 ≥ 9223372036854775808)) = true then x % 18446744073709551616 - 18446744073709551616 else x % 18446744073709551616 := rfl
 rw [e]
 simp only [Bool.true_and, decide_eq_true_eq]
 split <;> omega
theorem wrap_nat {i : Nat} (h : i < 9223372036854775807) : IntKind.wrap .i64 ((i : Int) + 1) = ((i + 1 : Nat) : Int) := by
 rw [wrap_id (by omega) (by omega)]; omega
theorem getD_at {α : Type} (l : List α) (z : α) (j : Nat) (h : j < l.length) : l.getD j z = l[j] := by simp [List.getD, List.getElem?_eq_getElem h]
theorem dpos {c : Prop} [Decidable c] (h : c) : decide c = true := by simp [h]
theorem dneg {c : Prop} [Decidable c] (h : ¬ c) : decide c = false := by simp [h]
theorem Ev.dp {R : Type} {p : Prop} [Decidable p] {f g : Nat → Option R} {r : R} (h : p) (e : Ev f r) : Ev (fun k => bif decide p then f k else g k) r := Ev.pos (dpos h) e
theorem Ev.dn {R : Type} {p : Prop} [Decidable p] {f g : Nat → Option R} {r : R} (h : ¬ p) (e : Ev g r) : Ev (fun k => bif decide p then f k else g k) r := Ev.neg (dneg h) e
theorem Ev.dd {R : Type} {p q : Prop} [Decidable p] [Decidable q] {f g : Nat → Option R} {r : R} (h : p) (h' : q) (e : Ev f r) : Ev (fun k => bif decide p && decide q then f k else g k) r := Ev.pos (by rw [dpos h, dpos h']; rfl) e
theorem Ev.succ {R : Type} {g : Nat → Option R} {r : R} (h : Ev (fun k => g (k + 1)) r) : Ev g r := Ev.step h fun _ => rfl
/-- A loop over places 0 .. n, backwards. -/
theorem Ev.down {R : Type} {G : Nat → Nat → Option R} {V : Nat → R} (n : Nat) (hend : Ev (G n) (V n)) (hstep : ∀ i, i < n → Ev (G (i + 1)) (V (i + 1)) → Ev (G i) (V i)) : ∀ i, i ≤ n → Ev (G i) (V i) := by
 intro i hi
 obtain ⟨d, rfl⟩ : ∃ d, i = n - d := ⟨n - i, by omega⟩
 clear hi
 induction d with
 | zero => exact hend
 | succ d ih =>
  by_cases h : d < n
  ·have e : n - (d + 1) + 1 = n - d := by omega
   exact hstep (n - (d + 1)) (by omega) (by rw [e]; exact ih)
  ·have e : n - (d + 1) = n - d := by omega
   rw [e]; exact ih
section
variable {α R : Type} {z : α} {l : List α}
/-- What a loop's head asks: is the place one of the list? -/
theorem head_in {i : Nat} (h : i < l.length) : (decide ((i : Int) < (l.length : Int))) = true := dpos (by omega)
theorem head_0 {i : Nat} : (decide (0 ≤ (i : Int))) = true := dpos (by omega)
theorem head_end : (decide ((l.length : Int) < (l.length : Int))) = false := dneg (by omega)
theorem get_in {i : Nat} (h : i < l.length) : l.getD (Int.toNat (i : Int)) z = l[i] := by rw [Int.toNat_natCast]; exact getD_at l z i h
/-- The loops that ask something of each element. -/
theorem each_ev {L : Nat → Int → Option R} {q : Nat → α → (Nat → Option R) → Option R} {tail : Nat → Option R} {V : List α → R} (hlen : l.length ≤ 9223372036854775807)
  (hL : ∀ k a, L (k + 1) a = bif decide (a < (l.length : Int)) then (bif decide (0 ≤ a) && decide (a < (l.length : Int)) then q k (l.getD a.toNat z) (fun j => L j (IntKind.wrap .i64 (a + 1))) else none) else tail k)
  (hend : Ev tail (V [])) (hstep : ∀ x m (g : Nat → Option R), x ∈ l → Ev g (V m) → Ev (fun k => q k x g) (V (x :: m))) : Ev (fun k => L k 0) (V l) := by
 have := Ev.down (G := fun i k => L k (i : Int)) (V := fun i => V (l.drop i)) l.length ?_ ?_ 0 (Nat.zero_le _)
 ·exact this
 ·rw [List.drop_length]
  refine hend.step fun k => ?_
  rw [hL, head_end]; rfl
 ·intro i hi ih
  rw [List.drop_eq_getElem_cons hi]
  refine (hstep l[i] (l.drop (i + 1)) (fun j => L j (((i + 1 : Nat)) : Int)) (List.getElem_mem hi) ih).step fun k => ?_
  show L (k + 1) (i : Int) = _
  rw [hL]
  simp only [head_in hi, head_0, Bool.and_self, cond_true, get_in hi, wrap_nat (show i < 9223372036854775807 by omega)]
/-- slices.IndexFunc. -/
def ixF (p : α → Bool) : List α → Nat → Int
 | [], _ => -1
 | x :: l, i => bif p x then (i : Int) else ixF p l (i + 1)
theorem ixF_any (p : α → Bool) : ∀ (l : List α) (i : Nat), decide (0 ≤ ixF p l i) = l.any p
 | [], i => by simp [ixF]
 | x :: l, i => by
  have ih := ixF_any p l (i + 1)
  rw [List.any_cons]
  unfold ixF
  rcases Bool.eq_false_or_eq_true (p x) with h | h
  ·simp only [h, cond_true, Bool.true_or]; exact dpos (by omega)
  ·simp only [h, cond_false, Bool.false_or]; exact ih
theorem index_ev {p : α → Bool} {q : Nat → α → Option (((Bool × Unit) × Unit) × Unit)} {L : Nat → Int → Int → Option (((Int × Unit) × Unit) × Unit)} (hlen : l.length ≤ 9223372036854775807)
  (hL : ∀ k b a, L (k + 1) b a = bif decide (a < b) then (bif decide (0 ≤ a) && decide (a < (l.length : Int)) then (Option.bind (q k (l.getD a.toNat z)) fun r1 => bif r1.1.1.1 then some (((a, ()), ()), ()) else L k b (IntKind.wrap .i64 (a + 1))) else none) else some (((-1, ()), ()), ()))
  (hq : ∀ x ∈ l, Ev (fun k => q k x) (one (p x))) : Ev (fun k => Option.bind (L k (l.length : Int) 0) fun r1 => some (((decide (0 ≤ r1.1.1.1), ()), ()), ())) (one (l.any p)) := by
 have := Ev.down (G := fun i k => L k (l.length : Int) (i : Int)) (V := fun i => one (ixF p (l.drop i) i)) l.length ?_ ?_ 0 (Nat.zero_le _)
 ·refine (Ev.bind (f := fun _ r1 => some (((decide (0 ≤ r1.1.1.1), ()), ()), ())) this (Ev.cst rfl)).rw ?_
  show one (decide (0 ≤ ixF p l 0)) = _
  rw [ixF_any]
 ·rw [List.drop_length]
  refine Ev.step (g' := fun _ => some (((-1, ()), ()), ())) (Ev.cst rfl) fun k => ?_
  show L (k + 1) _ _ = _
  rw [hL, head_end]; rfl
 ·intro i hi ih
  rw [List.drop_eq_getElem_cons hi]
  have h1 := hq l[i] (List.getElem_mem hi)
  refine Ev.step (g' := fun k => Option.bind (q k l[i]) fun r1 => bif r1.1.1.1 then some ((((i : Int), ()), ()), ()) else L k (l.length : Int) ((i + 1 : Nat) : Int)) ?_ fun k => ?_
  ·refine Ev.bind h1 ?_
   simp only [ixF]
   cases p l[i] with
   | true => exact Ev.cst rfl
   | false => exact ih
  ·show L (k + 1) _ _ = _
   rw [hL]
   simp only [head_in hi, head_0, Bool.and_self, cond_true, get_in hi, wrap_nat (show i < 9223372036854775807 by omega)]
end
/-- All lists are short. -/
def Small : (t : T) → t.Den → Prop
 | .list t, xs => List.length (α := t.Den) xs ≤ 1048576 ∧ ∀ x : t.Den, List.Mem (α := t.Den) x xs → Small t x
 | .pair a b, x => Small a (Prod.fst (α := a.Den) (β := b.Den) x) ∧ Small b (Prod.snd (α := a.Den) (β := b.Den) x)
 | _, _ => True
abbrev IR := (((Int × Unit) × Unit) × Unit)
abbrev BR := (((Bool × Unit) × Unit) × Unit)
def SzP {α : Type} (wf small : α → Prop) (f : Nat → α → Int → Option IR) : Prop := ∀ (x : α), wf x → ∀ n : Int, 0 ≤ n → n ≤ 1048576 → ∃ s, Ev (fun k => f k x n) (one s) ∧ -1 ≤ s ∧ s ≤ n ∧ (0 ≤ s → small x)
abbrev SzOK (t : T) (f : Nat → t.Den → Int → Option IR) : Prop := SzP (Wf t) (Small t) f
theorem sz_list {α : Type} {wf small : α → Prop} {z : α} {f : Nat → α → Int → Option IR} (hf : SzP wf small f) {L : Nat → List α → Int → Int → Option IR} {F : Nat → List α → Int → Option IR}
  (hL : ∀ k l a1 a2, L (k + 1) l a1 a2 = bif decide (a2 < (l.length : Int)) then (bif decide (0 ≤ a2) && decide (a2 < (l.length : Int)) then (Option.bind (f k (l.getD a2.toNat z) a1) fun r1 => bif decide (r1.1.1.1 < 0) then some (((-1, ()), ()), ()) else L k l r1.1.1.1 (IntKind.wrap .i64 (a2 + 1))) else none) else some (((a1, ()), ()), ()))
  (hF : ∀ k l a, F k l a = bif decide (IntKind.wrap .i64 (a - (l.length : Int)) < 0) then some (((-1, ()), ()), ()) else L k l (IntKind.wrap .i64 (a - (l.length : Int))) 0) : SzP (fun l : List α => l.length ≤ 9223372036854775807 ∧ ∀ x ∈ l, wf x) (fun l : List α => l.length ≤ 1048576 ∧ ∀ x ∈ l, small x) F := by
 intro l hw n h0 h1
 obtain ⟨hlen, hel⟩ := hw
 have key : ∀ (d i : Nat) (n : Int), i + d = l.length → 0 ≤ n → n ≤ 1048576 → ∃ s, Ev (fun k => L k l n (i : Int)) (one s) ∧ -1 ≤ s ∧ s ≤ n ∧ (0 ≤ s → ∀ x ∈ l.drop i, small x) := by
  intro d
  induction d with
  | zero =>
   intro i n hi h0 h1
   have hi' : i = l.length := by omega
   subst hi'
   refine ⟨n, Ev.step (g' := fun _ => some (one n)) (Ev.cst rfl) fun k => ?_, by omega, Int.le_refl _, fun _ x hx => by rw [List.drop_length] at hx; cases hx⟩
   rw [hL, head_end]; rfl
  | succ d ih =>
   intro i n hi h0 h1
   have hi' : i < l.length := by omega
   have hmem : l[i] ∈ l := List.getElem_mem hi'
   obtain ⟨s, e1, e2, e3, e4⟩ := hf (l[i]) (hel _ hmem) n h0 h1
   have hstep : ∀ k, L (k + 1) l n (i : Int) = Option.bind (f k (l[i]) n) fun r1 => bif decide (r1.1.1.1 < 0) then some (((-1, ()), ()), ()) else L k l r1.1.1.1 ((i + 1 : Nat) : Int) := fun k => by
    rw [hL]
    simp only [head_in hi', head_0, Bool.and_self, cond_true, get_in hi', wrap_nat (show i < 9223372036854775807 by omega)]
   rcases Int.lt_or_le s 0 with hs | hs
   ·refine ⟨-1, Ev.step (Ev.bind (f := fun k r1 => bif decide (r1.1.1.1 < 0) then some (((-1, ()), ()), ()) else L k l r1.1.1.1 ((i + 1 : Nat) : Int)) e1 ?_) hstep, by omega, by omega, fun h => by omega⟩
    exact Ev.pos (dpos hs) (Ev.cst rfl)
   ·obtain ⟨s', q1, q2, q3, q4⟩ := ih (i + 1) s (by omega) hs (by omega)
    refine ⟨s', Ev.step (Ev.bind (f := fun k r1 => bif decide (r1.1.1.1 < 0) then some (((-1, ()), ()), ()) else L k l r1.1.1.1 ((i + 1 : Nat) : Int)) e1 (Ev.neg (dneg (show ¬ s < 0 by omega)) q1)) hstep, q2, by omega, fun h x hx => ?_⟩
    rw [List.drop_eq_getElem_cons hi'] at hx
    rcases List.mem_cons.1 hx with rfl | hx
    ·exact e4 hs
    ·exact q4 h x hx
 have hw : IntKind.wrap .i64 (n - (l.length : Int)) = n - (l.length : Int) := wrap_id (by omega) (by omega)
 rcases Int.lt_or_le (n - (l.length : Int)) 0 with hs | hs
 ·refine ⟨-1, (Ev.cst rfl : Ev (fun _ => some (one (-1 : Int))) _).congr fun k => ?_, by omega, by omega, fun h => by omega⟩
  rw [hF, hw, dpos hs]; rfl
 ·obtain ⟨s, q1, q2, q3, q4⟩ := key (l.length) 0 _ (by omega) hs (by omega)
  refine ⟨s, q1.congr fun k => ?_, q2, by omega, fun h => ⟨by omega, fun x hx => q4 h x (by simpa using hx)⟩⟩
  rw [hF, hw, dneg (by omega)]; rfl
/-- A copy, element by element. -/
theorem to_list {α R : Type} {z : α} {L : Nat → List α → Int → List α → Option (((Unit × Unit) × Unit) × (List α × Unit))} {q : Nat → α → (α → Option (((Unit × Unit) × Unit) × (List α × Unit))) → Option (((Unit × Unit) × Unit) × (List α × Unit))} {F : Nat → List α → Option (((Unit × Unit) × Unit) × (List α × Unit))} {b : Int}
  (hL : ∀ k l a1 a2, L (k + 1) l a1 a2 = bif decide (a1 < (l.length : Int)) then (bif decide (0 ≤ a1) && decide (a1 < (l.length : Int)) then q k (l.getD a1.toNat z) (fun y => bif decide (0 ≤ a1) && decide (a1 < (a2.length : Int)) then L k l (IntKind.wrap .i64 (a1 + 1)) (a2.set a1.toNat y) else none) else none) else some ((((), ()), ()), (a2, ())))
  (hF : ∀ k l, F k l = bif decide ((l.length : Int) = (l.length : Int)) && decide (0 ≤ (l.length : Int)) && decide ((l.length : Int) * b ≤ 281474976710656) then L k l 0 (List.replicate (Int.toNat (l.length : Int)) z) else none)
  {l : List α} (hlen : l.length ≤ 1048576) (hb0 : 0 ≤ b) (hb : b ≤ 1000) (hq : ∀ x ∈ l, ∀ (h : Nat → α → Option (((Unit × Unit) × Unit) × (List α × Unit))) r, Ev (fun k => h k x) r → Ev (fun k => q k x (h k)) r) : Ev (fun k => F k l) (rowR l) := by
 have h1 := Ev.down (G := fun i k => L k l (i : Int) (l.take i ++ List.replicate (l.length - i) z)) (V := fun _ => rowR l) l.length ?_ ?_ 0 (Nat.zero_le _)
 ·refine h1.congr fun k => ?_
  have hsz : (l.length : Int) * b ≤ 281474976710656 := by
   have : (l.length : Int) * b ≤ 1048576 * 1000 := Int.mul_le_mul (by omega) hb hb0 (by omega)
   omega
  rw [hF, dpos rfl, dpos (show 0 ≤ (l.length : Int) by omega), dpos hsz]
  simp
 ·refine Ev.step (g' := fun _ => some (rowR l)) (Ev.cst rfl) fun k => ?_
  show L (k + 1) l _ _ = _
  rw [hL, head_end]
  simp
 ·intro i hi ih
  refine Ev.step (g' := fun k => q k l[i] (fun y => bif decide (0 ≤ (i : Int)) && decide ((i : Int) < (((l.take i ++ List.replicate (l.length - i) z).length : Nat) : Int)) then L k l ((i + 1 : Nat) : Int) ((l.take i ++ List.replicate (l.length - i) z).set i y) else none)) (hq _ (List.getElem_mem hi) (fun k y => bif decide (0 ≤ (i : Int)) && decide ((i : Int) < (((l.take i ++ List.replicate (l.length - i) z).length : Nat) : Int)) then L k l ((i + 1 : Nat) : Int) ((l.take i ++ List.replicate (l.length - i) z).set i y) else none) _ ?_) fun k => ?_
  ·refine Ev.pos ?_ (ih.congr fun k => ?_)
   ·rw [dpos (by omega), dpos (by simp; omega)]; rfl
   ·congr 1
    rw [List.set_append_right _ _ (by simp; omega)]
    have e1 : i - (l.take i).length = 0 := by simp; omega
    have e2 : l.length - i = (l.length - (i + 1)) + 1 := by omega
    rw [e1, e2, List.replicate_succ, List.set_cons_zero, List.take_succ_eq_append_getElem hi, List.append_assoc]
    rfl
  ·show L (k + 1) l _ _ = _
   rw [hL]
   simp only [head_in hi, head_0, Bool.and_self, cond_true, get_in hi, wrap_nat (show i < 9223372036854775807 by omega), Int.toNat_natCast]
   rw [getD_at l z i hi]
/-- A list compared with itself. -/
theorem eq_list {α : Type} {z : α} {L : Nat → List α → List α → Int → Option BR} {q : Nat → α → α → Option BR → Option BR} {F : Nat → List α → List α → Option BR}
  (hL : ∀ k l m a, L (k + 1) l m a = bif decide (a < (l.length : Int)) then (bif decide (0 ≤ a) && decide (a < (l.length : Int)) then (bif decide (0 ≤ a) && decide (a < (m.length : Int)) then q k (l.getD a.toNat z) (m.getD a.toNat z) (L k l m (IntKind.wrap .i64 (a + 1))) else none) else none) else some (((true, ()), ()), ()))
  (hF : ∀ k l m, F k l m = bif !decide ((l.length : Int) = (m.length : Int)) then some (((false, ()), ()), ()) else L k l m 0)
  {l : List α} (hlen : l.length ≤ 1048576) (hq : ∀ x ∈ l, ∀ (g : Nat → Option BR) r, Ev g r → Ev (fun k => q k x x (g k)) r) : Ev (fun k => F k l l) (one true) := by
 have h1 := Ev.down (G := fun i k => L k l l (i : Int)) (V := fun _ => one true) l.length ?_ ?_ 0 (Nat.zero_le _)
 ·refine h1.congr fun k => ?_
  rw [hF, dpos rfl]; rfl
 ·refine Ev.step (g' := fun _ => some (one true)) (Ev.cst rfl) fun k => ?_
  show L (k + 1) l l _ = _
  rw [hL, head_end]; rfl
 ·intro i hi ih
  refine Ev.step (hq _ (List.getElem_mem hi) (fun k => L k l l ((i + 1 : Nat) : Int)) _ ih) fun k => ?_
  show L (k + 1) l l _ = _
  rw [hL]
  simp only [head_in hi, head_0, Bool.and_self, cond_true, get_in hi, wrap_nat (show i < 9223372036854775807 by omega)]
def inB (lo hi x : Int) : Bool := decide (lo ≤ x) && decide (x ≤ hi)
def wOk (w : Int) : Bool := decide (w = 1) || decide (w = 8) || decide (w = 16) || decide (w = 32)
def opsB (i : tInstD) : List Int :=
 bif inB 1 17 i.1 then [i.2.2.1, i.2.2.2.1] else bif decide (i.1 = 24) then [i.2.2.1, i.2.2.2.1] else bif inB 18 20 i.1 then [i.2.2.1] else bif decide (i.1 = 23) then [i.2.2.1] else bif decide (i.1 = 25) then [i.2.2.1] else bif decide (i.1 = 27) then [i.2.2.1] else
 bif decide (i.1 = 22) then [i.2.2.1, i.2.2.2.1, i.2.2.2.2.1] else bif decide (i.1 = 26) then i.2.2.2.2.2.2.1 else []
theorem specIn (k : Nat) (a lo hi : Int) : U21.f k a lo hi = some (one (inB lo hi a)) := by
 unfold U21.f inB
 cases decide (lo ≤ a) <;> rfl
theorem implIn (k : Nat) (a lo hi : Int) : U63.f k a lo hi = some (one (inB lo hi a)) := by
 unfold U63.f inB
 cases decide (lo ≤ a) <;> rfl
theorem specW (k : Nat) (a : Int) : U23.f k a = some (one (wOk a)) := by
 unfold U23.f wOk
 cases decide (a = 1) <;> cases decide (a = 8) <;> cases decide (a = 16) <;> rfl
theorem implW (k : Nat) (a : Int) : U64.f k a = some (one (wOk a)) := by
 unfold U64.f wOk
 cases decide (a = 1) <;> cases decide (a = 8) <;> cases decide (a = 16) <;> rfl
theorem specCopy (k : Nat) {l : List Int} (h : l.length ≤ 1048576) : U24.f k l = some (rowR l) := by
 unfold U24.f
 rw [dpos (by simp; omega)]; rfl
theorem implClone (k : Nat) {l : List Int} (h : l.length ≤ 1048576) : slices_Clone_int64_int64.f k l = some (rowR l) := by
 unfold slices_Clone_int64_int64.f cloneF
 rw [dpos (by omega)]; rfl
theorem specOps (k : Nat) {i : tInstD} (h : i.2.2.2.2.2.2.1.length ≤ 1048576) : U25.f k i = some (rowR (opsB i)) := by
 unfold U25.f opsB
 simp only [specIn, specCopy k h, Option.bind_some]
 cases inB 1 17 i.1
 ·cases decide (i.1 = 24)
  ·cases inB 18 20 i.1
   ·cases decide (i.1 = 23)
    ·cases decide (i.1 = 25)
     ·cases decide (i.1 = 27)
      ·cases decide (i.1 = 22)
       ·cases decide (i.1 = 26) <;> rfl
       ·rfl
      ·rfl
     ·rfl
    ·rfl
   ·rfl
  ·rfl
 ·rfl
theorem implBin (k : Nat) (a : Int) : U75.f k a = some (one (inB 1 17 a)) := by
 unfold U75.f
 rw [implIn]; rfl
theorem implCast (k : Nat) (a : Int) : U76.f k a = some (one (inB 18 20 a)) := by
 unfold U76.f
 rw [implIn]; rfl
theorem implOps (k : Nat) {i : tInstD} (h : i.2.2.2.2.2.2.1.length ≤ 1048576) : U77.f k i = some (rowR (opsB i)) := by
 unfold U77.f opsB
 simp only [implBin, implCast, implClone k h, Option.bind_some]
 cases inB 1 17 i.1
 ·cases decide (i.1 = 24)
  ·cases inB 18 20 i.1
   ·cases decide (i.1 = 23)
    ·cases decide (i.1 = 25)
     ·cases decide (i.1 = 27)
      ·cases decide (i.1 = 22)
       ·cases decide (i.1 = 26) <;> rfl
       ·rfl
      ·rfl
     ·rfl
    ·rfl
   ·rfl
  ·rfl
 ·rfl
def topOf (w : Int) : Int := bif decide (w = 1) then 1 else bif decide (w = 8) then 255 else bif decide (w = 16) then 65535 else 4294967295
def valB (w x : Int) : Bool := wOk w && inB 0 (topOf w) x
theorem wOk_cases {w : Int} (h : wOk w = true) : w = 1 ∨ w = 8 ∨ w = 16 ∨ w = 32 := by
 simp only [wOk, Bool.or_eq_true, decide_eq_true_eq] at h
 omega
theorem specVal (k : Nat) (w x : Int) : U27.f k w x = some (one (valB w x)) := by
 unfold U27.f valB
 simp only [specW, Option.bind_some]
 cases h : wOk w with
 | false => rfl
 | true => rcases wOk_cases h with rfl | rfl | rfl | rfl <;> (unfold U26.f; simp only [specIn]; rfl)
theorem implVal (k : Nat) (w x : Int) : U86.f k w x = some (one (valB w x)) := by
 unfold U86.f valB
 simp only [implW, Option.bind_some]
 cases h : wOk w with
 | false => rfl
 | true => rcases wOk_cases h with rfl | rfl | rfl | rfl <;> (unfold U85.f; simp only [implIn]; rfl)
def widB (i : tInstD) : Bool := bif decide (i.1 = 24) || decide (i.1 = 25) then decide (i.2.1 = 0) else bif decide (i.1 = 23) then decide (i.2.1 = 8) else wOk i.2.1
def immB (i : tInstD) (funcs : Int) : Bool := bif decide (i.1 = 21) then valB i.2.1 i.2.2.2.2.2.1 else bif decide (i.1 = 26) then inB 0 (funcs - 1) i.2.2.2.2.2.1 else decide (i.2.2.2.2.2.1 = 0)
def named (i : tInstD) : Nat := bif decide (i.1 = 26) then 0 else (opsB i).length
def zerosB (i : tInstD) : Bool := ([i.2.2.1, i.2.2.2.1, i.2.2.2.2.1].drop (named i)).all fun n => decide (n = 0)
def instB (count funcs : Int) (i : tInstD) : Bool :=
 inB 1 27 i.1 && decide (i.2.2.2.2.2.2.1.length ≤ 4) && (decide (i.2.2.2.2.2.2.1.length = 0) || decide (i.1 = 26)) && (opsB i).all (inB 0 (count - 1)) && zerosB i && widB i && immB i funcs
theorem implWid (k : Nat) (i : tInstD) : U84.f k i = some (one (widB i)) := by
 unfold U84.f widB
 simp only [implW, Option.bind_some]
 by_cases h : i.1 = 24
 ·simp [h]
 ·by_cases h2 : i.1 = 25
  ·simp [h2]
  ·simp only [dneg h, dneg h2, cond_false, Bool.or_self]
   cases decide (i.1 = 23) <;> rfl
theorem implImm (k : Nat) (i : tInstD) {funcs : Int} (h0 : 0 ≤ funcs) (h1 : funcs ≤ 9223372036854775807) : U87.f k i funcs = some (one (immB i funcs)) := by
 unfold U87.f immB
 simp only [implVal, implIn, Option.bind_some, wrap_id (show -9223372036854775808 ≤ funcs - 1 by omega) (show funcs - 1 ≤ 9223372036854775807 by omega)]
 cases decide (i.1 = 21) <;> cases decide (i.1 = 26) <;> rfl
def termB (count blocks : Int) (t : tTermD) : Bool :=
 bif decide (t.1 = 1) then inB 0 (count - 1) t.2.1 && decide (t.2.2.1 = 0) && decide (t.2.2.2.1 = 0) else
 bif decide (t.1 = 2) then decide (t.2.1 = 0) && inB 0 (blocks - 1) t.2.2.1 && decide (t.2.2.2.1 = 0) else
 bif decide (t.1 = 3) then inB 0 (count - 1) t.2.1 && inB 0 (blocks - 1) t.2.2.1 && inB 0 (blocks - 1) t.2.2.2.1 && !decide (t.2.2.1 = t.2.2.2.1) else
 decide (t.1 = 4) && decide (t.2.1 = 0) && decide (t.2.2.1 = 0) && decide (t.2.2.2.1 = 0)
theorem specTerm (k : Nat) (t : tTermD) {count blocks : Int} (h0 : 0 ≤ count) (h1 : count ≤ 9223372036854775807) (h2 : 0 ≤ blocks) (h3 : blocks ≤ 9223372036854775807) : U29.f k t count blocks = some (one (termB count blocks t)) := by
 unfold U29.f termB
 simp only [specIn, Option.bind_some, wrap_id (show -9223372036854775808 ≤ count - 1 by omega) (show count - 1 ≤ 9223372036854775807 by omega), wrap_id (show -9223372036854775808 ≤ blocks - 1 by omega) (show blocks - 1 ≤ 9223372036854775807 by omega)]
 cases decide (t.1 = 1)
 ·cases decide (t.1 = 2)
  ·cases decide (t.1 = 3)
   ·cases decide (t.1 = 4) <;> cases decide (t.2.1 = 0) <;> cases decide (t.2.2.1 = 0) <;> rfl
   ·cases inB 0 (count - 1) t.2.1 <;> cases inB 0 (blocks - 1) t.2.2.1 <;> cases inB 0 (blocks - 1) t.2.2.2.1 <;> rfl
  ·cases decide (t.2.1 = 0) <;> cases inB 0 (blocks - 1) t.2.2.1 <;> rfl
 ·cases inB 0 (count - 1) t.2.1 <;> cases decide (t.2.2.1 = 0) <;> rfl
theorem implTerm1 (k : Nat) (a : Int) {f : tFuncD} (h : f.2.2.1.length ≤ 1048576) : U92.f k a f = some (one (inB 0 ((f.2.2.1.length : Int) - 1) a)) := by
 unfold U92.f
 rw [implIn, wrap_id (by omega) (by omega)]; rfl
theorem implTerm (k : Nat) (t : tTermD) {f : tFuncD} (h : f.2.2.1.length ≤ 1048576) {count : Int} (h0 : 0 ≤ count) (h1 : count ≤ 9223372036854775807) : U93.f k f t count = some (one (termB count (f.2.2.1.length : Int) t)) := by
 unfold U93.f termB
 simp only [implIn, implTerm1 k _ h, Option.bind_some, wrap_id (show -9223372036854775808 ≤ count - 1 by omega) (show count - 1 ≤ 9223372036854775807 by omega)]
 generalize (f.2.2.1.length : Int) = blocks
 cases decide (t.1 = 1)
 ·cases decide (t.1 = 2)
  ·cases decide (t.1 = 3)
   ·cases decide (t.1 = 4) <;> cases decide (t.2.1 = 0) <;> cases decide (t.2.2.1 = 0) <;> rfl
   ·cases inB 0 (count - 1) t.2.1 <;> cases inB 0 (blocks - 1) t.2.2.1 <;> cases inB 0 (blocks - 1) t.2.2.2.1 <;> rfl
  ·cases decide (t.2.1 = 0) <;> cases inB 0 (blocks - 1) t.2.2.1 <;> rfl
 ·cases inB 0 (count - 1) t.2.1 <;> cases decide (t.2.2.1 = 0) <;> rfl
theorem any_not {α : Type} {p : α → Bool} : ∀ {l : List α}, (l.any fun x => !p x) = !l.all p
 | [] => rfl
 | x :: l => by simp only [List.any_cons, List.all_cons, any_not (l := l), Bool.not_and]
theorem implIn1 {l : List Int} (h : l.length ≤ 1048576) {count : Int} (h0 : 0 ≤ count) (h1 : count ≤ 9223372036854775807) : Ev (fun k => U80.f k l count) (one (!l.all (inB 0 (count - 1)))) := by
 rw [← any_not]
 exact index_ev (z := 0) (L := fun k b a => U79.l0 k l b a count) (q := fun k x => U78.f k x count) (by omega) (fun k b a => rfl) fun x _ => Ev.all fun k => by
  unfold U78.f
  rw [implIn, wrap_id (by omega) (by omega)]; rfl
theorem implZero {l : List Int} (h : l.length ≤ 1048576) : Ev (fun k => U83.f k l) (one (!l.all fun n => decide (n = 0))) := by
 rw [← any_not]
 exact index_ev (z := 0) (L := fun k b a => U82.l0 k l b a) (q := fun k x => U81.f k x) (by omega) (fun k b a => rfl) fun x _ => Ev.all fun k => rfl
theorem opsB_len {i : tInstD} (h : i.2.2.2.2.2.2.1.length ≤ 1048576) : (opsB i).length ≤ 1048576 := by
 unfold opsB
 cases inB 1 17 i.1 <;> cases decide (i.1 = 24) <;> cases inB 18 20 i.1 <;> cases decide (i.1 = 23) <;> cases decide (i.1 = 25) <;> cases decide (i.1 = 27) <;> cases decide (i.1 = 22) <;> cases decide (i.1 = 26) <;> simp only [cond_true, cond_false, List.length_cons, List.length_nil] <;> omega
theorem opsB_few {i : tInstD} (h : i.1 ≠ 26) : (opsB i).length ≤ 3 := by
 unfold opsB
 rw [dneg h]
 cases inB 1 17 i.1 <;> cases decide (i.1 = 24) <;> cases inB 18 20 i.1 <;> cases decide (i.1 = 23) <;> cases decide (i.1 = 25) <;> cases decide (i.1 = 27) <;> cases decide (i.1 = 22) <;> simp
theorem ev_and {g : Nat → Option BR} {b c : Bool} (h : Ev g (one c)) : Ev (fun k => bif !b then some (one false) else g k) (one (b && c)) := by
 cases b with
 | true => exact Ev.neg rfl h
 | false => exact Ev.pos rfl (Ev.cst rfl)
theorem ev_and' {g : Nat → Option BR} {b c : Bool} (h : Ev g (one c)) : Ev (fun k => bif b then some (one false) else g k) (one (!b && c)) := by
 cases b with
 | true => exact Ev.pos rfl (Ev.cst rfl)
 | false => exact Ev.neg rfl h
/-- What comes behind the operands, in the program. -/
theorem implTail {i : tInstD} {l : List Int} (hl : l.length ≤ 1048576) {funcs : Int} (h0 : 0 ≤ funcs) (h1 : funcs ≤ 9223372036854775807) : Ev (fun k => Option.bind (U83.f k l) fun r4 => bif r4.1.1.1 then some (((false, ()), ()), ()) else Option.bind (U84.f k i) fun r5 => bif r5.1.1.1 then Option.bind (U87.f k i funcs) fun r6 => some (((r6.1.1.1, ()), ()), ()) else some (((false, ()), ()), ())) (one ((l.all fun n => decide (n = 0)) && widB i && immB i funcs)) := by
 refine Ev.bind (implZero hl) ?_
 cases l.all fun n => decide (n = 0) with
 | false => exact Ev.cst rfl
 | true =>
  refine Ev.all fun k => ?_
  simp only [implWid, implImm k i h0 h1, Option.bind_some]
  cases widB i <;> cases immB i funcs <;> rfl
theorem implInst {i : tInstD} (hs : i.2.2.2.2.2.2.1.length ≤ 1048576) {count funcs : Int} (h0 : 0 ≤ count) (h1 : count ≤ 9223372036854775807) (h2 : 0 ≤ funcs) (h3 : funcs ≤ 9223372036854775807) : Ev (fun k => U88.f k i count funcs) (one (instB count funcs i)) := by
 have rest : i.1 = 26 ∨ i.1 ≠ 26 → Ev (fun k => Option.bind (U77.f k i) fun r2 => Option.bind (U80.f k r2.2.1 count) fun r3 => bif r3.1.1.1 then some (((false, ()), ()), ()) else
   bif decide (i.1 = 26) then (bif (decide ((0 : Int) ≤ 0)) && (decide ((0 : Int) ≤ ((List.length [i.2.2.1, i.2.2.2.1, i.2.2.2.2.1] : Nat) : Int))) then (Option.bind (U83.f k [i.2.2.1, i.2.2.2.1, i.2.2.2.2.1]) fun r4 => bif r4.1.1.1 then some (((false, ()), ()), ()) else Option.bind (U84.f k i) fun r5 => bif r5.1.1.1 then Option.bind (U87.f k i funcs) fun r6 => some (((r6.1.1.1, ()), ()), ()) else some (((false, ()), ()), ())) else none)
   else (bif (decide (0 ≤ ((List.length r2.2.1 : Nat) : Int))) && (decide (((List.length r2.2.1 : Nat) : Int) ≤ ((List.length [i.2.2.1, i.2.2.2.1, i.2.2.2.2.1] : Nat) : Int))) then (Option.bind (U83.f k (List.drop (Int.toNat ((List.length r2.2.1 : Nat) : Int)) [i.2.2.1, i.2.2.2.1, i.2.2.2.2.1])) fun r4 => bif r4.1.1.1 then some (((false, ()), ()), ()) else Option.bind (U84.f k i) fun r5 => bif r5.1.1.1 then Option.bind (U87.f k i funcs) fun r6 => some (((r6.1.1.1, ()), ()), ()) else some (((false, ()), ()), ())) else none))
   (one ((opsB i).all (inB 0 (count - 1)) && (zerosB i && widB i && immB i funcs))) := by
  intro hd
  refine Ev.bind (Ev.all fun k => implOps k hs) (Ev.bind (implIn1 (opsB_len hs) h0 h1) ?_)
  cases (opsB i).all (inB 0 (count - 1)) with
  | false => exact Ev.cst rfl
  | true =>
   rcases hd with hd | hd
   ·refine Ev.neg rfl (Ev.pos (dpos hd) (Ev.pos rfl ?_))
    have := implTail (i := i) (l := [i.2.2.1, i.2.2.2.1, i.2.2.2.2.1]) (by simp) h2 h3
    refine this.rw ?_
    unfold zerosB named
    rw [dpos hd]; rfl
   ·refine Ev.neg rfl (Ev.neg (dneg hd) (Ev.pos ?_ ?_))
    ·have := opsB_few hd
     show (decide (0 ≤ ((opsB i).length : Int)) && decide (((opsB i).length : Int) ≤ 3)) = true
     rw [dpos (by omega), dpos (by omega)]; rfl
    ·have := implTail (i := i) (l := List.drop (opsB i).length [i.2.2.1, i.2.2.2.1, i.2.2.2.2.1]) (by simp; omega) h2 h3
     refine this.rw ?_
     unfold zerosB named
     rw [dneg hd]; rfl
 have rest := rest (Decidable.em _)
 unfold U88.f
 refine Ev.bind (Ev.all fun k => implIn k _ _ _) ?_
 unfold instB
 generalize hz : ((opsB i).all (inB 0 (count - 1)) && (zerosB i && widB i && immB i funcs)) = zz at rest
 have hzz : ∀ b c d : Bool, (b && c && d && (opsB i).all (inB 0 (count - 1)) && zerosB i && widB i && immB i funcs) = (b && c && d && zz) := fun b c d => by rw [← hz]; simp only [Bool.and_assoc]
 rw [hzz]
 cases inB 1 27 i.1 with
 | false => exact Ev.pos rfl (Ev.cst rfl)
 | true =>
  refine Ev.neg rfl ?_
  by_cases h4 : 4 < ((i.2.2.2.2.2.2.1.length : Nat) : Int)
  ·refine Ev.pos (dpos h4) (Ev.cst ?_)
   rw [dneg (show ¬ i.2.2.2.2.2.2.1.length ≤ 4 by omega)]; rfl
  ·refine Ev.neg (dneg h4) ?_
   rw [dpos (show i.2.2.2.2.2.2.1.length ≤ 4 by omega)]
   by_cases h5 : 0 < ((i.2.2.2.2.2.2.1.length : Nat) : Int)
   ·refine Ev.pos (dpos h5) ?_
    rw [dneg (show ¬ i.2.2.2.2.2.2.1.length = 0 by omega)]
    by_cases h6 : i.1 = 26
    ·exact Ev.neg (by rw [dpos h6]; rfl) (rest.rw (by rw [dpos h6]; rfl))
    ·exact Ev.pos (by rw [dneg h6]; rfl) (Ev.cst (by rw [dneg h6]; rfl))
   ·refine Ev.neg (dneg h5) (rest.rw ?_)
    rw [dpos (show i.2.2.2.2.2.2.1.length = 0 by omega)]; rfl
theorem zeros_at {a b c : Int} : ∀ n : Nat, ([a, b, c].drop n).all (fun n => decide (n = 0)) = ((bif decide ((n : Int) < 1) then decide (a = 0) else true) && (bif decide ((n : Int) < 2) then decide (b = 0) else true) && (bif decide ((n : Int) < 3) then decide (c = 0) else true))
 | 0 => by simp [Bool.and_assoc]
 | 1 => by simp
 | 2 => by simp
 | n + 3 => by
  rw [dneg (show ¬ (((n + 3 : Nat) : Int) < 1) by omega), dneg (show ¬ (((n + 3 : Nat) : Int) < 2) by omega), dneg (show ¬ (((n + 3 : Nat) : Int) < 3) by omega)]
  simp
set_option synthInstance.maxHeartbeats 400000 in
set_option synthInstance.maxSize 100000 in
theorem specInst0 {i : tInstD} {ids : List Int} (hl : ids.length ≤ 1048576) {count funcs : Int} (h0 : 0 ≤ count) (h1 : count ≤ 9223372036854775807) (h2 : 0 ≤ funcs) (h3 : funcs ≤ 9223372036854775807) (hn : named i = bif decide (i.1 = 26) then 0 else ids.length) :
  Ev (fun k => U28.l0 k count funcs 0 i ids) (one (ids.all (inB 0 (count - 1)) && (decide (i.2.2.2.2.2.2.1.length ≤ 4) && zerosB i && widB i && immB i funcs))) := by
 refine each_ev (z := 0) (L := fun k a => U28.l0 k count funcs a i ids) (V := fun m => one (m.all (inB 0 (count - 1)) && (decide (i.2.2.2.2.2.2.1.length ≤ 4) && zerosB i && widB i && immB i funcs))) (q := fun k x g => Option.bind (U21.f k x 0 (IntKind.wrap .i64 (count - 1))) fun r1 => bif !r1.1.1.1 then some (((false, ()), ()), ()) else g k) (by omega) (fun k a => rfl) ?_ ?_
 ·refine Ev.all fun k => ?_
  have hz : zerosB i = ((bif decide (((named i : Nat) : Int) < 1) then decide (i.2.2.1 = 0) else true) && (bif decide (((named i : Nat) : Int) < 2) then decide (i.2.2.2.1 = 0) else true) && (bif decide (((named i : Nat) : Int) < 3) then decide (i.2.2.2.2.1 = 0) else true)) := zeros_at _
  rw [hz, hn]
  simp only [specVal, specIn, specW, Option.bind_some, wrap_id (show -9223372036854775808 ≤ funcs - 1 by omega) (show funcs - 1 ≤ 9223372036854775807 by omega), List.all_nil, Bool.true_and]
  have h4 : decide (i.2.2.2.2.2.2.1.length ≤ 4) = !decide (4 < ((List.length i.2.2.2.2.2.2.1 : Nat) : Int)) := by
   by_cases h : 4 < ((List.length i.2.2.2.2.2.2.1 : Nat) : Int)
   ·rw [dpos h, dneg (by omega)]; rfl
   ·rw [dneg h, dpos (by omega)]; rfl
  rw [h4]
  unfold widB immB
  have fin : ∀ (o24 o25 o26 o21 o23 w0 w8 wk : Bool), decide (i.1 = 24) = o24 → decide (i.1 = 25) = o25 → decide (i.1 = 26) = o26 → decide (i.1 = 21) = o21 → decide (i.1 = 23) = o23 → decide (i.2.1 = 0) = w0 → decide (i.2.1 = 8) = w8 → wOk i.2.1 = wk →
    (o24 = true ∧ o25 = false ∧ o26 = false ∧ o21 = false ∧ o23 = false ∨ o24 = false ∧ o25 = true ∧ o26 = false ∧ o21 = false ∧ o23 = false ∨ o24 = false ∧ o25 = false ∧ o26 = true ∧ o21 = false ∧ o23 = false ∨ o24 = false ∧ o25 = false ∧ o26 = false ∧ o21 = true ∧ o23 = false ∨ o24 = false ∧ o25 = false ∧ o26 = false ∧ o21 = false ∧ o23 = true ∨ o24 = false ∧ o25 = false ∧ o26 = false ∧ o21 = false ∧ o23 = false) ∧
    (w0 = true ∧ w8 = false ∧ wk = false ∨ w0 = false ∧ w8 = true ∧ wk = true ∨ w0 = false ∧ w8 = false) := by
   rintro _ _ _ _ _ _ _ _ rfl rfl rfl rfl rfl rfl rfl rfl
   simp only [decide_eq_true_eq, decide_eq_false_iff_not]
   refine ⟨by omega, ?_⟩
   by_cases h : i.2.1 = 0
   ·exact .inl ⟨h, by omega, by rw [h]; rfl⟩
   ·by_cases h' : i.2.1 = 8
    ·exact .inr (.inl ⟨h, h', by rw [h']; rfl⟩)
    ·exact .inr (.inr ⟨h, h'⟩)
  have fin := fin _ _ _ _ _ _ _ _ rfl rfl rfl rfl rfl rfl rfl rfl
  clear hz h4 hn
  generalize decide (i.1 = 24) = o24 at fin ⊢
  generalize decide (i.1 = 25) = o25 at fin ⊢
  generalize decide (i.1 = 26) = o26 at fin ⊢
  generalize decide (i.1 = 21) = o21 at fin ⊢
  generalize decide (i.1 = 23) = o23 at fin ⊢
  generalize decide (i.2.1 = 0) = w0 at fin ⊢
  generalize decide (i.2.1 = 8) = w8 at fin ⊢
  generalize wOk i.2.1 = wk at fin ⊢
  have z1 : decide (((0 : Nat) : Int) < 1) = true := rfl
  have z2 : decide (((0 : Nat) : Int) < 2) = true := rfl
  have z3 : decide (((0 : Nat) : Int) < 3) = true := rfl
  have y1 : decide ((0 : Int) < 1) = true := rfl
  have y2 : decide ((0 : Int) < 2) = true := rfl
  have y3 : decide ((0 : Int) < 3) = true := rfl
  obtain ⟨f1, f2⟩ := fin
  rcases f1 with ⟨rfl, rfl, rfl, rfl, rfl⟩ | ⟨rfl, rfl, rfl, rfl, rfl⟩ | ⟨rfl, rfl, rfl, rfl, rfl⟩ | ⟨rfl, rfl, rfl, rfl, rfl⟩ | ⟨rfl, rfl, rfl, rfl, rfl⟩ | ⟨rfl, rfl, rfl, rfl, rfl⟩ <;> rcases f2 with ⟨rfl, rfl, rfl⟩ | ⟨rfl, rfl, rfl⟩ | ⟨rfl, rfl⟩ <;>
   simp only [cond_true, cond_false, z1, z2, z3, y1, y2, y3, beq_self_eq_true, Bool.not_true, Bool.not_false, Bool.or_true, Bool.or_false, Bool.and_false, Bool.false_and, Bool.true_and, Bool.and_true, show (true == false) = false from rfl, show (false == true) = false from rfl, Int.reduceLT, decide_true, decide_false] <;>
   generalize decide (4 < ((List.length i.2.2.2.2.2.2.1 : Nat) : Int)) = l4 <;>
   generalize decide (((ids.length : Nat) : Int) < 1) = n1 <;> generalize decide (((ids.length : Nat) : Int) < 2) = n2 <;> generalize decide (((ids.length : Nat) : Int) < 3) = n3 <;>
   generalize decide (i.2.2.1 = 0) = a <;> generalize decide (i.2.2.2.1 = 0) = b <;> generalize decide (i.2.2.2.2.1 = 0) = c <;> generalize decide (i.2.2.2.2.2.1 = 0) = m <;>
   generalize valB i.2.1 i.2.2.2.2.2.1 = va <;> generalize inB 0 (funcs - 1) i.2.2.2.2.2.1 = vb <;> revert l4 n1 n2 n3 a b c m va vb <;> (try revert wk) <;> decide +kernel
 ·intro x m g hx hg
  refine Ev.bind (Ev.all fun k => specIn k _ _ _) ?_
  rw [wrap_id (by omega) (by omega), List.all_cons, Bool.and_assoc]
  exact ev_and hg
theorem specInst {i : tInstD} (hs : i.2.2.2.2.2.2.1.length ≤ 1048576) {count funcs : Int} (h0 : 0 ≤ count) (h1 : count ≤ 9223372036854775807) (h2 : 0 ≤ funcs) (h3 : funcs ≤ 9223372036854775807) : Ev (fun k => U28.f k i count funcs) (one (instB count funcs i)) := by
 have hn : named i = bif decide (i.1 = 26) then 0 else (opsB i).length := rfl
 have l0 := specInst0 (opsB_len hs) h0 h1 h2 h3 hn
 unfold U28.f
 refine Ev.bind (Ev.all fun k => specIn k _ _ _) ?_
 unfold instB
 generalize hz : ((opsB i).all (inB 0 (count - 1))) = za at l0 ⊢
 cases inB 1 27 i.1 with
 | false => exact Ev.pos rfl (Ev.cst rfl)
 | true =>
  refine Ev.neg rfl ?_
  have done : ∀ b : Bool, b = true → Ev (fun k => Option.bind (U25.f k i) fun r3 => U28.l0 k count funcs 0 i r3.2.1) (one (true && decide (i.2.2.2.2.2.2.1.length ≤ 4) && b && za && zerosB i && widB i && immB i funcs)) := by
   rintro _ rfl
   refine (Ev.bind (f := fun k r3 => U28.l0 k count funcs 0 i r3.2.1) (Ev.all fun k => specOps k hs) l0).rw ?_
   generalize decide (i.2.2.2.2.2.2.1.length ≤ 4) = z4
   generalize zerosB i = z5
   generalize widB i = z6
   generalize immB i funcs = z7
   clear l0 hz
   revert za z4 z5 z6 z7
   decide
  by_cases h6 : i.1 = 26
  ·exact Ev.neg (by rw [dpos h6]; rfl) (done _ (by rw [dpos h6, Bool.or_true]))
  ·refine Ev.pos (by rw [dneg h6]; rfl) ?_
   by_cases h5 : 0 < ((i.2.2.2.2.2.2.1.length : Nat) : Int)
   ·refine Ev.pos (dpos h5) (Ev.cst ?_)
    rw [dneg (show ¬ i.2.2.2.2.2.2.1.length = 0 by omega), dneg h6]
    simp
   ·exact Ev.neg (dneg h5) (done _ (by rw [dpos (show i.2.2.2.2.2.2.1.length = 0 by omega), Bool.true_or]))
def sumB {α : Type} (w : α → Int) : List α → Int
 | [] => 0
 | x :: l => w x + sumB w l
theorem sumB_le {α : Type} {w : α → Int} {m : Int} : ∀ {l : List α}, (∀ x ∈ l, 0 ≤ w x ∧ w x ≤ m) → 0 ≤ sumB w l ∧ sumB w l ≤ l.length * m
 | [], _ => by simp [sumB]
 | x :: l, h => by
  obtain ⟨a, b⟩ := sumB_le (l := l) fun y hy => h y (by simp [hy])
  obtain ⟨c, d⟩ := h x (by simp)
  simp only [sumB, List.length_cons]
  have : ((l.length + 1 : Nat) : Int) * m = l.length * m + m := by
   rw [Int.natCast_add, Int.add_mul]; simp
  omega
theorem acc_ev {α : Type} {l : List α} {w : α → Int} {L : Nat → Int → Int → Option IR} (hw : ∀ x ∈ l, 0 ≤ w x ∧ w x ≤ 2097152) (hlen : l.length ≤ 1048576)
  (h1 : ∀ k a (i : Nat) (h : i < l.length), L (k + 1) a (i : Int) = L k (IntKind.wrap .i64 (a + IntKind.wrap .i64 (w l[i]))) ((i + 1 : Nat) : Int)) (h2 : ∀ k a, L (k + 1) a (l.length : Int) = some (one a)) {a : Int} (ha : 0 ≤ a) (ha' : a ≤ 1048576) : Ev (fun k => L k a 0) (one (a + sumB w l)) := by
 have key : ∀ (d i : Nat) (a : Int), i + d = l.length → 0 ≤ a → a ≤ 1048576 + i * 2097152 → Ev (fun k => L k a (i : Int)) (one (a + sumB w (l.drop i))) := by
  intro d
  induction d with
  | zero =>
   intro i a hi h0 h3
   have hi' : i = l.length := by omega
   subst hi'
   rw [List.drop_length]
   exact Ev.step (g' := fun _ => some (one a)) (Ev.cst (by simp [sumB])) fun k => h2 k a
  | succ d ih =>
   intro i a hi h0 h3
   have hi' : i < l.length := by omega
   obtain ⟨w0, w1⟩ := hw l[i] (List.getElem_mem hi')
   have := ih (i + 1) (a + w l[i]) (by omega) (by omega) (by omega)
   refine (Ev.step this fun k => ?_).rw ?_
   ·show L (k + 1) a (i : Int) = _
    rw [h1 k a i hi', wrap_id (x := w l[i]) (by omega) (by omega), wrap_id (by omega) (by omega)]
   ·rw [List.drop_eq_getElem_cons hi']
    simp only [sumB]
    rw [Int.add_assoc]
 have := key l.length 0 a (by omega) ha (by omega)
 simpa using this
def cntB (f : tFuncD) : Int := (f.1.length : Int) + sumB (fun x : tBlockD => ((x.1.length : Nat) : Int) + ((x.2.1.length : Nat) : Int)) f.2.2.1
theorem blk_small {f : tFuncD} (h : Small tFunc f) : ∀ x ∈ f.2.2.1, x.1.length ≤ 1048576 ∧ x.2.1.length ≤ 1048576 := fun x hx => by
 have := h.2.2.1.2 x hx
 exact ⟨this.1.1, this.2.1.1⟩
theorem cntB_le {f : tFuncD} (h : Small tFunc f) : 0 ≤ cntB f ∧ cntB f ≤ 1048576 + 1048576 * 2097152 := by
 have h1 : f.1.length ≤ 1048576 := h.1.1
 have h2 : f.2.2.1.length ≤ 1048576 := h.2.2.1.1
 have := sumB_le (w := fun x : tBlockD => ((x.1.length : Nat) : Int) + ((x.2.1.length : Nat) : Int)) (m := 2097152) (l := f.2.2.1) fun x hx => by
  have := blk_small h x hx
  omega
 unfold cntB
 omega
theorem specCount {f : tFuncD} (h : Small tFunc f) : Ev (fun k => U22.f k f) (one (cntB f)) := by
 have h1 : f.1.length ≤ 1048576 := h.1.1
 exact acc_ev (L := fun k a i => U22.l0 k a i f) (l := f.2.2.1) (w := fun x : tBlockD => ((x.1.length : Nat) : Int) + ((x.2.1.length : Nat) : Int)) (fun x hx => by have := blk_small h x hx; omega) h.2.2.1.1 (fun k a i hi => by
   show U22.l0_ k (U22.l0 k) a i f = _
   unfold U22.l0_
   have hlen : f.2.2.1.length ≤ 1048576 := h.2.2.1.1
   simp only [head_in hi, head_0, Bool.and_self, cond_true, get_in hi, wrap_nat (show i < 9223372036854775807 by omega)]) (fun k a => by
   show U22.l0_ k (U22.l0 k) a _ f = _
   unfold U22.l0_
   simp only [head_end, cond_false]) (by omega) (by omega)
theorem implCount {f : tFuncD} (h : Small tFunc f) : Ev (fun k => U68.f k f) (one (cntB f)) := by
 have h1 : f.1.length ≤ 1048576 := h.1.1
 exact acc_ev (L := fun k a i => U68.l0 k a f.2.2.1 ((List.length f.2.2.1 : Nat) : Int) i) (l := f.2.2.1) (w := fun x : tBlockD => ((x.1.length : Nat) : Int) + ((x.2.1.length : Nat) : Int)) (fun x hx => by have := blk_small h x hx; omega) h.2.2.1.1 (fun k a i hi => by
   show U68.l0_ k (U68.l0 k) a f.2.2.1 _ i = _
   unfold U68.l0_
   have hlen : f.2.2.1.length ≤ 1048576 := h.2.2.1.1
   simp only [head_in hi, head_0, Bool.and_self, cond_true, get_in hi, wrap_nat (show i < 9223372036854775807 by omega)]) (fun k a => by
   show U68.l0_ k (U68.l0 k) a f.2.2.1 _ _ = _
   unfold U68.l0_
   simp only [head_end, cond_false]) (by omega) (by omega)
def phiB (count : Int) (p : tPhiD) : Bool := wOk p.1 && decide (p.2.1.length ≤ 10) && p.2.1.all (inB 0 (count - 1))
def blockB (count funcs blocks : Int) (b : tBlockD) : Bool := b.1.all (phiB count) && b.2.1.all (instB count funcs) && termB count blocks b.2.2
def funcB (funcs : Int) (f : tFuncD) : Bool :=
 decide (f.1.length ≤ 4) && wOk f.2.1 && inB 1 10 (f.2.2.1.length : Int) && decide (cntB f ≤ 60) && f.1.all wOk && f.2.2.1.all (blockB (cntB f) funcs (f.2.2.1.length : Int))
section
variable {f : tFuncD} {funcs count blocks : Int}
theorem specFunc4 {x : tBlockD} (hx : Small tBlock x) (h0 : 0 ≤ count) (h1 : count ≤ 9223372036854775807) (h2 : 0 ≤ funcs) (h3 : funcs ≤ 9223372036854775807) (h4 : 0 ≤ blocks) (h5 : blocks ≤ 9223372036854775807) {j : Nat} (hj : j < 9223372036854775807) {r : Bool}
  (hr : Ev (fun k => U30.l1 k funcs count blocks ((j + 1 : Nat) : Int) f) (one r)) : Ev (fun k => U30.l4 k funcs count blocks j 0 f x) (one (x.2.1.all (instB count funcs) && (termB count blocks x.2.2 && r))) := by
 have hs := hx.2.1
 refine each_ev (z := tInstZ) (l := x.2.1) (L := fun k a => U30.l4 k funcs count blocks j a f x) (V := fun m => one (m.all (instB count funcs) && (termB count blocks x.2.2 && r))) (q := fun k y g => Option.bind (U28.f k y count funcs) fun r1 => bif !r1.1.1.1 then some (((false, ()), ()), ()) else g k)
  (by have := hs.1; show List.length (α := tInstD) x.2.1 ≤ _; have : List.length (α := tInstD) x.2.1 ≤ 1048576 := this; omega) (fun k a => rfl) ?_ ?_
 ·refine Ev.bind (Ev.all fun k => specTerm k x.2.2 h0 h1 h4 h5) ?_
  rw [wrap_nat hj, List.all_nil, Bool.true_and]
  exact ev_and hr
 ·intro y m g hy hg
  refine Ev.bind (specInst (i := y) ((hs.2 y hy).2.2.2.2.2.2.1.1) h0 h1 h2 h3) ?_
  rw [List.all_cons, Bool.and_assoc]
  exact ev_and hg
theorem specFunc2 {x : tBlockD} (hx : Small tBlock x) (h0 : 0 ≤ count) (h1 : count ≤ 9223372036854775807) (h2 : 0 ≤ funcs) (h3 : funcs ≤ 9223372036854775807) (h4 : 0 ≤ blocks) (h5 : blocks ≤ 9223372036854775807) {j : Nat} (hj : j < 9223372036854775807) {r : Bool}
  (hr : Ev (fun k => U30.l1 k funcs count blocks ((j + 1 : Nat) : Int) f) (one r)) : Ev (fun k => U30.l2 k funcs count blocks j 0 f x) (one (blockB count funcs blocks x && r)) := by
 have hs := hx.1
 have hlen : x.1.length ≤ 1048576 := hs.1
 have tail := specFunc4 (f := f) hx h0 h1 h2 h3 h4 h5 hj hr
 have key := Ev.down (G := fun i k => U30.l2 k funcs count blocks j (i : Int) f x) (V := fun i => one ((x.1.drop i).all (phiB count) && (x.2.1.all (instB count funcs) && (termB count blocks x.2.2 && r)))) x.1.length ?_ ?_ 0 (Nat.zero_le _)
 ·refine key.rw ?_
  unfold blockB
  rw [List.drop_zero, Bool.and_assoc, Bool.and_assoc]
 ·rw [List.drop_length]
  refine tail.step fun k => ?_
  show U30.l2_ k (U30.l0 k) (U30.l1 k) (U30.l2 k) (U30.l3 k) (U30.l4 k) funcs count blocks j _ f x = _
  unfold U30.l2_
  simp only [head_end, cond_false]
 ·intro i hi ih
  have hp := hs.2 x.1[i] (List.getElem_mem hi)
  have hpl : x.1[i].2.1.length ≤ 1048576 := hp.2.1.1
  -- the inner loop
  have inner := Ev.down (G := fun q k => U30.l3 k funcs count blocks j i (q : Int) f x) (V := fun q => one ((x.1[i].2.1.drop q).all (inB 0 (count - 1)) && ((x.1.drop (i + 1)).all (phiB count) && (x.2.1.all (instB count funcs) && (termB count blocks x.2.2 && r))))) x.1[i].2.1.length ?_ ?_ 0 (Nat.zero_le _)
  ·rw [List.drop_eq_getElem_cons hi, List.all_cons]
   refine Ev.step (g' := fun k => Option.bind (U23.f k x.1[i].1) fun r1 => bif !r1.1.1.1 then some (((false, ()), ()), ()) else bif decide (10 < ((List.length x.1[i].2.1 : Nat) : Int)) then some (((false, ()), ()), ()) else U30.l3 k funcs count blocks j i 0 f x) ?_ fun k => ?_
   ·refine Ev.bind (Ev.all fun k => specW k _) ?_
    have e1 : ∀ R, (phiB count x.1[i] && R) = (wOk x.1[i].1 && (!decide (10 < ((List.length x.1[i].2.1 : Nat) : Int)) && (x.1[i].2.1.all (inB 0 (count - 1)) && R))) := fun R => by
     have e : decide (x.1[i].2.1.length ≤ 10) = !decide (10 < ((List.length x.1[i].2.1 : Nat) : Int)) := by
      by_cases h : 10 < ((List.length x.1[i].2.1 : Nat) : Int)
      ·rw [dpos h, dneg (by omega)]; rfl
      ·rw [dneg h, dpos (by omega)]; rfl
     unfold phiB
     rw [e, Bool.and_assoc, Bool.and_assoc]
    rw [Bool.and_assoc, e1]
    refine ev_and ?_
    exact ev_and' inner
   ·show U30.l2_ k (U30.l0 k) (U30.l1 k) (U30.l2 k) (U30.l3 k) (U30.l4 k) funcs count blocks j _ f x = _
    unfold U30.l2_
    simp only [head_in hi, head_0, Bool.and_self, cond_true, get_in hi]
  ·rw [List.drop_length, List.all_nil, Bool.true_and]
   refine ih.step fun k => ?_
   show U30.l3_ k (U30.l0 k) (U30.l1 k) (U30.l2 k) (U30.l3 k) (U30.l4 k) funcs count blocks j _ _ f x = _
   unfold U30.l3_
   simp only [head_in hi, head_0, Bool.and_self, cond_true, get_in hi, head_end, cond_false, wrap_nat (show i < 9223372036854775807 by omega)]
  ·intro q hq ihq
   rw [List.drop_eq_getElem_cons hq, List.all_cons, Bool.and_assoc]
   refine Ev.step (g' := fun k => Option.bind (U21.f k x.1[i].2.1[q] 0 (IntKind.wrap .i64 (count - 1))) fun r1 => bif !r1.1.1.1 then some (((false, ()), ()), ()) else U30.l3 k funcs count blocks j i ((q + 1 : Nat) : Int) f x) ?_ fun k => ?_
   ·rw [wrap_id (by omega) (by omega)]
    exact Ev.bind (Ev.all fun k => specIn k _ _ _) (ev_and ihq)
   ·show U30.l3_ k (U30.l0 k) (U30.l1 k) (U30.l2 k) (U30.l3 k) (U30.l4 k) funcs count blocks j _ _ f x = _
    unfold U30.l3_
    simp only [head_in hi, head_0, Bool.and_self, cond_true, get_in hi, head_in hq, get_in hq, wrap_nat (show q < 9223372036854775807 by omega)]
theorem specFunc1 (hf : Small tFunc f) (h0 : 0 ≤ count) (h1 : count ≤ 9223372036854775807) (h2 : 0 ≤ funcs) (h3 : funcs ≤ 9223372036854775807) (h4 : 0 ≤ blocks) (h5 : blocks ≤ 9223372036854775807) : Ev (fun k => U30.l1 k funcs count blocks 0 f) (one (f.2.2.1.all (blockB count funcs blocks))) := by
 have hs := hf.2.2.1
 have hlen : f.2.2.1.length ≤ 1048576 := hs.1
 have key := Ev.down (G := fun i k => U30.l1 k funcs count blocks (i : Int) f) (V := fun i => one ((f.2.2.1.drop i).all (blockB count funcs blocks))) f.2.2.1.length ?_ ?_ 0 (Nat.zero_le _)
 ·exact key
 ·rw [List.drop_length]
  refine Ev.step (g' := fun _ => some (one true)) (Ev.cst rfl) fun k => ?_
  show U30.l1_ k (U30.l0 k) (U30.l1 k) (U30.l2 k) (U30.l3 k) (U30.l4 k) funcs count blocks _ f = _
  unfold U30.l1_
  simp only [head_end, cond_false]
 ·intro i hi ih
  rw [List.drop_eq_getElem_cons hi, List.all_cons]
  refine (specFunc2 (f := f) (x := f.2.2.1[i]) (hs.2 _ (List.getElem_mem hi)) h0 h1 h2 h3 h4 h5 (show i < 9223372036854775807 by omega) ih).step fun k => ?_
  show U30.l1_ k (U30.l0 k) (U30.l1 k) (U30.l2 k) (U30.l3 k) (U30.l4 k) funcs count blocks _ f = _
  unfold U30.l1_
  simp only [head_in hi, head_0, Bool.and_self, cond_true, get_in hi]
theorem le_not {a b : Int} : decide (a ≤ b) = !decide (b < a) := by
 by_cases h : b < a
 ·rw [dpos h, dneg (by omega)]; rfl
 ·rw [dneg h, dpos (by omega)]; rfl
theorem len_not {n m : Nat} : decide (n ≤ m) = !decide ((m : Int) < (n : Int)) := by
 by_cases h : (m : Int) < (n : Int)
 ·rw [dpos h, dneg (by omega)]; rfl
 ·rw [dneg h, dpos (by omega)]; rfl
theorem specFunc (hf : Small tFunc f) (h2 : 0 ≤ funcs) (h3 : funcs ≤ 9223372036854775807) : Ev (fun k => U30.f k f funcs) (one (funcB funcs f)) := by
 have hs := hf.2.2.1
 have hlen : f.2.2.1.length ≤ 1048576 := hs.1
 have hpl : f.1.length ≤ 1048576 := hf.1.1
 obtain ⟨c0, c1⟩ := cntB_le hf
 unfold U30.f funcB
 simp only [Bool.and_assoc]
 refine Ev.bind (specCount hf) ?_
 rw [len_not]
 refine ev_and' (Ev.bind (Ev.all fun k => specW k _) (ev_and (Ev.bind (Ev.all fun k => specIn k _ _ _) (ev_and ?_))))
 rw [le_not]
 refine ev_and' ?_
 exact each_ev (z := 0) (l := f.1) (L := fun k a => U30.l0 k funcs (cntB f) (f.2.2.1.length : Int) a f) (V := fun m => one (m.all wOk && f.2.2.1.all (blockB (cntB f) funcs (f.2.2.1.length : Int)))) (q := fun k y g => Option.bind (U23.f k y) fun r1 => bif !r1.1.1.1 then some (((false, ()), ()), ()) else g k)
  (by omega) (fun k a => rfl) (specFunc1 hf c0 (by omega) h2 h3 (by omega) (by omega)) fun y m g hy hg => by
   refine Ev.bind (Ev.all fun k => specW k _) ?_
   rw [List.all_cons, Bool.and_assoc]
   exact ev_and hg
end
theorem Ev.sk1 {R : Type} {g : Nat → Option R} {r : R} (h : Ev (fun k => g (k + 1)) r) : Ev g r := Ev.step h fun _ => rfl
/-- A loop whose state is known at each place. -/
theorem st_loop {σ R : Type} {n0 : Nat} {L : Nat → Int → σ → Option R} {T : Nat → σ → Option R} (S : Nat → σ)
  (hend : ∀ r, Ev (fun k => T k (S n0)) r → Ev (fun k => L k (n0 : Int) (S n0)) r)
  (hstep : ∀ i r, i < n0 → Ev (fun k => L k ((i + 1 : Nat) : Int) (S (i + 1))) r → Ev (fun k => L k (i : Int) (S i)) r) {r : R} (h : Ev (fun k => T k (S n0)) r) : Ev (fun k => L k 0 (S 0)) r :=
 Ev.down (G := fun i k => L k (i : Int) (S i)) (V := fun _ => r) n0 (hend r h) (fun i hi e => hstep i r hi e) 0 (Nat.zero_le _)
/-- A number's text. -/
def decB (n : Int) : ByteArray := ⟨(Lib.itoa n).toArray⟩
theorem ba_ext {a b : ByteArray} (h : a.data = b.data) : a = b := by cases a; cases b; cases h; rfl
theorem digit_str : ∀ r : Nat, r < 10 → strOf [IntKind.wrap .u8 (IntKind.wrap .i64 (48 + (r : Int)))] = ⟨#[UInt8.ofNat (48 + r)]⟩ := by
 intro r h
 have h1 : r = 0 ∨ r = 1 ∨ r = 2 ∨ r = 3 ∨ r = 4 ∨ r = 5 ∨ r = 6 ∨ r = 7 ∨ r = 8 ∨ r = 9 := by omega
 rcases h1 with rfl | rfl | rfl | rfl | rfl | rfl | rfl | rfl | rfl | rfl <;> rfl
theorem nd_le {u : Nat} (h : u < 18446744073709551616) : Lib.nDigits u ≤ 20 := by
 by_cases h0 : u = 0
 ·subst h0; rw [Lib.nDigits_small (by omega)]; omega
 ·have := Lib.numDigits_eq u (by omega) h
  split at this <;> omega
theorem big_eq : big = 9223372036854775807 := rfl
theorem specDec_s {u : Nat} (h10 : u < 10) {t : ByteArray} (ht : t.size + Lib.nDigits u ≤ 1000000) : Ev (fun k => U56.l0 k (u : Int) t) (one ((⟨(Lib.decDigits u).toArray⟩ : ByteArray) ++ t)) := by
 refine Ev.sk1 ?_
 show Ev (fun k => U56.l0_ k (U56.l0 k) (u : Int) t) _
 unfold U56.l0_
 have hd := digit_str u h10
 have hn := Lib.nDigits_small h10
 refine Ev.dn (by omega) ?_
 rw [hd]
 refine Ev.dp (by rw [big_eq]; have : (⟨#[UInt8.ofNat (48 + u)]⟩ : ByteArray).size = 1 := rfl; omega) (Ev.cst ?_)
 rw [Lib.decDigits_one h10]
theorem specDec_l : ∀ (n u : Nat), u ≤ n → u < 4611686018427387904 → ∀ t : ByteArray, t.size + Lib.nDigits u ≤ 1000000 → Ev (fun k => U56.l0 k (u : Int) t) (one ((⟨(Lib.decDigits u).toArray⟩ : ByteArray) ++ t)) := by
 intro n
 induction n with
 | zero =>
  intro u hu h1 t ht
  exact specDec_s (by omega) ht
 | succ n ih =>
  intro u hu h1 t ht
  by_cases h10 : u < 10
  ·exact specDec_s h10 ht
  ·refine Ev.sk1 ?_
   show Ev (fun k => U56.l0_ k (U56.l0 k) (u : Int) t) _
   unfold U56.l0_
   have hm : Int.tmod (u : Int) 10 = ((u % 10 : Nat) : Int) := by rw [Int.tmod_eq_emod_of_nonneg (by omega)]; omega
   have hq : Int.tdiv (u : Int) 10 = ((u / 10 : Nat) : Int) := by rw [Int.tdiv_eq_ediv_of_nonneg (by omega)]; omega
   have hd := digit_str (u % 10) (by omega)
   have hn := Lib.nDigits_big h10
   have hw : IntKind.wrap .i64 ((u / 10 : Nat) : Int) = ((u / 10 : Nat) : Int) := wrap_id (by omega) (by omega)
   have hs1 : (⟨#[UInt8.ofNat (48 + u % 10)]⟩ : ByteArray).size = 1 := rfl
   rw [hm, hq, hd, hw]
   refine Ev.dp (by omega) (Ev.pos (by decide) (Ev.dp (by rw [big_eq]; omega) (Ev.pos (by decide) ?_)))
   refine (ih (u / 10) (by omega) (by omega) _ (by rw [ByteArray.size_append, hs1]; omega)).rw ?_
   have e : Lib.decDigits u = Lib.decDigits (u / 10) ++ [UInt8.ofNat (48 + u % 10)] := by rw [Lib.decDigits, dif_neg h10]
   rw [e]
   have e2 : (⟨(Lib.decDigits (u / 10) ++ [UInt8.ofNat (48 + u % 10)]).toArray⟩ : ByteArray) = (⟨(Lib.decDigits (u / 10)).toArray⟩ : ByteArray) ++ ⟨#[UInt8.ofNat (48 + u % 10)]⟩ := ba_ext (by simp [ByteArray.data_append])
   rw [e2, ByteArray.append_assoc]
theorem decB_nat (u : Nat) : decB (u : Int) = ⟨(Lib.decDigits u).toArray⟩ := by
 unfold decB Lib.itoa
 rw [if_neg (by omega), Int.toNat_natCast]
theorem decB_size {n : Int} (h0 : 0 ≤ n) (h1 : n < 4611686018427387904) : (decB n).size ≤ 20 := by
 obtain ⟨u, rfl⟩ : ∃ u : Nat, n = u := ⟨n.toNat, by omega⟩
 rw [decB_nat]
 show (Lib.decDigits u).toArray.size ≤ 20
 rw [List.size_toArray, Lib.decDigits_length]
 exact nd_le (by omega)
theorem specDec {n : Int} (h0 : 0 ≤ n) (h1 : n < 4611686018427387904) : Ev (fun k => U56.f k n) (one (decB n)) := by
 obtain ⟨u, rfl⟩ : ∃ u : Nat, n = u := ⟨n.toNat, by omega⟩
 unfold U56.f
 refine Ev.dn (by omega) ?_
 have hn := nd_le (u := u) (by omega)
 refine (specDec_l u u (Nat.le_refl _) (by omega) ByteArray.empty (by show 0 + _ ≤ _; omega)).rw ?_
 rw [decB_nat, ByteArray.append_empty]
theorem implDec (k : Nat) {n : Int} (h0 : 0 ≤ n) (h1 : n < 4611686018427387904) : strconv_FormatInt.f k n 10 = some (one (decB n)) := by
 unfold strconv_FormatInt.f fmtF
 rw [dpos rfl, dpos (show -9223372036854775808 ≤ n by omega), dpos (show n ≤ 9223372036854775807 by omega)]
 rfl
def blank : ByteArray := ByteArray.mk #[32]
def numB (n : Int) : ByteArray := blank ++ decB n
def numsB : List Int → ByteArray
 | [] => ByteArray.empty
 | n :: l => numB n ++ numsB l
theorem numsB_app : ∀ a b : List Int, numsB (a ++ b) = numsB a ++ numsB b
 | [], b => by show numsB b = ByteArray.empty ++ numsB b; rw [ByteArray.empty_append]
 | n :: a, b => by show numB n ++ numsB (a ++ b) = (numB n ++ numsB a) ++ numsB b; rw [numsB_app a b, ByteArray.append_assoc]
theorem numsB_push {l : List Int} {i : Nat} (h : i < l.length) : numsB (l.take i) ++ numB l[i] = numsB (l.take (i + 1)) := by
 rw [List.take_succ_eq_append_getElem h, numsB_app]
 show _ = _ ++ (numB l[i] ++ ByteArray.empty)
 rw [ByteArray.append_empty]
def okN (n : Int) : Prop := 0 ≤ n ∧ n < 4611686018427387904
theorem numB_size {n : Int} (h : okN n) : (numB n).size ≤ 21 := by
 unfold numB
 rw [ByteArray.size_append]
 have := decB_size h.1 h.2
 have hb : blank.size = 1 := rfl
 omega
theorem numsB_size : ∀ {l : List Int}, (∀ n ∈ l, okN n) → (numsB l).size ≤ 21 * l.length
 | [], _ => Nat.le_refl _
 | n :: l, h => by
  show (numB n ++ numsB l).size ≤ _
  rw [ByteArray.size_append, List.length_cons]
  have a := numB_size (h n (by simp))
  have b := numsB_size (l := l) fun m hm => h m (by simp [hm])
  omega
theorem take_ok {l : List Int} (h : ∀ n ∈ l, okN n) (i : Nat) : ∀ n ∈ l.take i, okN n := fun n hn => h n (List.mem_of_mem_take hn)
theorem specNums {l : List Int} (hl : l.length ≤ 100) (h : ∀ n ∈ l, okN n) : Ev (fun k => U57.f k l) (one (numsB l)) := by
 unfold U57.f
 refine st_loop (n0 := l.length) (L := fun k a s => U57.l0 k l s a) (T := fun k s => some (one s)) (fun i => numsB (l.take i)) (fun r e => Ev.sk1 ?_) (fun i r hlt e => Ev.sk1 ?_) ?_
 ·show Ev (fun k => U57.l0_ k (U57.l0 k) _ _ _) _
  simp only [U57.l0_, head_end, cond_false]
  exact e
 ·show Ev (fun k => U57.l0_ k (U57.l0 k) _ _ _) _
  have hs := numsB_size (take_ok h i)
  have hlen : (l.take i).length ≤ 100 := by rw [List.length_take]; omega
  have hn := h _ (List.getElem_mem hlt)
  have hd := decB_size hn.1 hn.2
  have hb : (ByteArray.mk #[32]).size = 1 := rfl
  simp only [U57.l0_, head_in hlt, head_0, Bool.and_self, cond_true, Int.toNat_natCast, getD_at _ _ _ hlt, wrap_nat (show i < 9223372036854775807 by omega)]
  refine Ev.dp (by rw [big_eq, hb]; omega) (Ev.bind (specDec hn.1 hn.2) (Ev.dp (by rw [big_eq, ByteArray.size_append, hb]; show _ + (decB l[i]).size ≤ _; omega) ?_))
  simp only [← numsB_push hlt, numB, ← ByteArray.append_assoc] at e
  exact e
 ·simp only [List.take_length]; exact Ev.cst rfl
theorem implLine {w : ByteArray} (hw : w.size ≤ 100000) {l : List Int} (hl : l.length ≤ 100) (h : ∀ n ∈ l, okN n) : Ev (fun k => U143.f k w l) (one (w ++ numsB l)) := by
 unfold U143.f
 have h0 : w = w ++ numsB (l.take 0) := by show w = w ++ ByteArray.empty; rw [ByteArray.append_empty]
 have key := st_loop (n0 := l.length) (L := fun k a s => U143.l0 k s l (l.length : Int) a) (T := fun k s => some (one s)) (fun i => w ++ numsB (l.take i)) (fun r e => Ev.sk1 ?_) (fun i r hlt e => Ev.sk1 ?_) (r := one (w ++ numsB l)) ?_
 ·rw [← h0] at key; exact key
 ·show Ev (fun k => U143.l0_ k (U143.l0 k) _ _ _ _) _
  simp only [U143.l0_, head_end, cond_false]
  exact e
 ·show Ev (fun k => U143.l0_ k (U143.l0 k) _ _ _ _) _
  have hs := numsB_size (take_ok h i)
  have hlen : (l.take i).length ≤ 100 := by rw [List.length_take]; omega
  have hn := h _ (List.getElem_mem hlt)
  have hd := decB_size hn.1 hn.2
  have hb : (ByteArray.mk #[32]).size = 1 := rfl
  simp only [U143.l0_, head_in hlt, head_0, Bool.and_self, cond_true, Int.toNat_natCast, getD_at _ _ _ hlt, wrap_nat (show i < 9223372036854775807 by omega)]
  refine Ev.bind (Ev.all fun k => implDec k hn.1 hn.2) (Ev.dp (by rw [big_eq, hb]; show _ + (decB l[i]).size ≤ _; omega) (Ev.dp (by rw [big_eq, ByteArray.size_append, ByteArray.size_append, hb]; show _ + (_ + (decB l[i]).size) ≤ _; omega) ?_))
  simp only [← numsB_push hlt, numB, ← ByteArray.append_assoc] at e
  simp only [← ByteArray.append_assoc]
  exact e
 ·simp only [List.take_length]; exact Ev.cst rfl
set_option maxRecDepth 100000 in
def opS : ByteArray := (ByteArray.mk #[97, 100, 100, 32, 115, 117, 98, 32, 109, 117, 108, 32, 117, 100, 105, 118, 32, 115, 100, 105, 118, 32, 117, 114, 101, 109, 32, 115, 114, 101, 109, 32, 97, 110, 100, 32, 111, 114, 32, 120, 111, 114, 32, 115, 104, 108, 32, 108, 115, 104, 114, 32, 97, 115, 104, 114, 32, 101, 113, 32, 110, 101, 32, 117, 108, 116, 32, 115, 108, 116, 32, 122, 101, 120, 116, 32, 115, 101, 120, 116, 32, 116, 114, 117, 110, 99, 32, 99, 111, 110, 115, 116, 32, 115, 101, 108, 101, 99, 116, 32, 108, 111, 97, 100, 32, 115, 116, 111, 114, 101, 32, 112, 114, 105, 110, 116, 32, 99, 97, 108, 108, 32, 99, 111, 112, 121])
def wordsL : List ByteArray := Lib.splitB (ByteArray.mk #[32]) 0 (Lib.countB opS (ByteArray.mk #[32])) opS
theorem words_len : wordsL.length = 27 := by kernel_rfl
theorem words_small : (wordsL.all fun w => Nat.ble w.size 10) = true := by kernel_rfl
theorem specWords (k : Nat) : U55.f k = some (rowR (ByteArray.empty :: wordsL)) := by kernel_rfl
theorem implWords (k : Nat) : U142.f k = some (rowR wordsL) := by kernel_rfl
def wordB (op : Int) : ByteArray := wordsL.getD (op - 1).toNat ByteArray.empty
theorem wordB_size (op : Int) : (wordB op).size ≤ 10 := by
 unfold wordB
 by_cases h : (op - 1).toNat < wordsL.length
 ·rw [getD_at _ _ _ h]
  have := List.all_eq_true.1 words_small _ (List.getElem_mem h)
  exact Nat.le_of_ble_eq_true this
 ·rw [List.getD_eq_getElem?_getD, List.getElem?_eq_none (by omega)]
  exact Nat.zero_le _
theorem word_spec {W : List ByteArray} {op : Int} (h : 1 ≤ op) : (ByteArray.empty :: W).getD op.toNat ByteArray.empty = W.getD (op - 1).toNat ByteArray.empty := by
 obtain ⟨n, hn⟩ : ∃ n, op.toNat = n + 1 := ⟨op.toNat - 1, by omega⟩
 rw [hn, show (op - 1).toNat = n by omega]
 rfl
def hasI (i : tInstD) : Bool := decide (i.1 = 21) || decide (i.1 = 26)
def textW (w : ByteArray) (i : tInstD) : ByteArray := bif hasI i then ((w ++ numB i.2.1) ++ numB i.2.2.2.2.2.1) ++ numsB (opsB i) else (w ++ numB i.2.1) ++ numsB (opsB i)
def textI (i : tInstD) : ByteArray := textW (wordB i.1) i
structure Txt (i : tInstD) : Prop where
 op1 : 1 ≤ i.1
 op2 : i.1 ≤ 27
 w : okN i.2.1
 m : okN i.2.2.2.2.2.1
 al : i.2.2.2.2.2.2.1.length ≤ 4
 ol : (opsB i).length ≤ 4
 o : ∀ n ∈ opsB i, okN n
theorem txt_ofN {c m : Int} (hc : c ≤ 60) (hm3 : m ≤ 3) {i : tInstD} (h : instB c m i = true) : Txt i := by
 simp only [instB, Bool.and_eq_true, decide_eq_true_eq, List.all_eq_true] at h
 obtain ⟨⟨⟨⟨⟨⟨h1, h2⟩, h3⟩, h4⟩, h5⟩, h6⟩, h7⟩ := h
 have ho : 1 ≤ i.1 ∧ i.1 ≤ 27 := by simpa [inB] using h1
 have hw : okN i.2.1 := by
  unfold widB at h6
  by_cases c1 : i.1 = 24
  ·rw [dpos c1] at h6
   have : i.2.1 = 0 := by simpa using h6
   exact ⟨by omega, by omega⟩
  ·by_cases c2 : i.1 = 25
   ·rw [dpos c2, Bool.or_true] at h6
    have : i.2.1 = 0 := by simpa using h6
    exact ⟨by omega, by omega⟩
   ·rw [dneg c1, dneg c2] at h6
    by_cases c3 : i.1 = 23
    ·rw [dpos c3] at h6
     have : i.2.1 = 8 := by simpa using h6
     exact ⟨by omega, by omega⟩
    ·rw [dneg c3] at h6
     rcases wOk_cases (show wOk i.2.1 = true from h6) with e | e | e | e <;> exact ⟨by omega, by omega⟩
 have hm : okN i.2.2.2.2.2.1 := by
  unfold immB at h7
  by_cases c1 : i.1 = 21
  ·rw [dpos c1] at h7
   have h8 : (wOk i.2.1 && inB 0 (topOf i.2.1) i.2.2.2.2.2.1) = true := h7
   rw [Bool.and_eq_true] at h8
   have h9 : 0 ≤ i.2.2.2.2.2.1 ∧ i.2.2.2.2.2.1 ≤ topOf i.2.1 := by simpa [inB] using h8.2
   have ht : topOf i.2.1 ≤ 4294967295 := by
    rcases wOk_cases h8.1 with e | e | e | e <;> rw [e] <;> decide
   exact ⟨h9.1, by omega⟩
  ·rw [dneg c1] at h7
   by_cases c2 : i.1 = 26
   ·rw [dpos c2] at h7
    have h9 : 0 ≤ i.2.2.2.2.2.1 ∧ i.2.2.2.2.2.1 ≤ m - 1 := by simpa [inB] using h7
    exact ⟨h9.1, by omega⟩
   ·rw [dneg c2] at h7
    have : i.2.2.2.2.2.1 = 0 := by simpa using h7
    exact ⟨by omega, by omega⟩
 have hol : (opsB i).length ≤ 4 := by
  by_cases h26 : i.1 = 26
  ·have e : opsB i = i.2.2.2.2.2.2.1 := by unfold opsB inB; rw [h26]; rfl
   rw [e]; exact h2
  ·have := opsB_few h26; omega
 refine ⟨ho.1, ho.2, hw, hm, h2, hol, fun n hn => ?_⟩
 have := h4 n hn
 have h9 : 0 ≤ n ∧ n ≤ c - 1 := by simpa [inB] using this
 exact ⟨h9.1, by omega⟩
theorem specTextW {i : tInstD} (h : Txt i) {W : List ByteArray} {w : ByteArray} (hk : ∀ k, U55.f k = some (rowR (ByteArray.empty :: W))) (hW : W.length = 27) (hg : W.getD (i.1 - 1).toNat ByteArray.empty = w) (hws : w.size ≤ 10) : Ev (fun k => U58.f k i) (one (textW w i)) := by
 have hd := decB_size h.w.1 h.w.2
 have hdm := decB_size h.m.1 h.m.2
 have hn := numsB_size h.o
 have hol := h.ol
 have hb : (ByteArray.mk #[32]).size = 1 := rfl
 have hal : i.2.2.2.2.2.2.1.length ≤ 1048576 := by have := h.al; omega
 have hlen : ((List.length (ByteArray.empty :: W) : Nat) : Int) = 28 := by rw [List.length_cons, hW]; rfl
 unfold U58.f
 refine Ev.bind (Ev.all hk) ?_
 simp only [word_spec h.op1, hg]
 refine Ev.dd (by have := h.op1; omega) (by show i.1 < ((List.length (ByteArray.empty :: W) : Nat) : Int); rw [hlen]; have := h.op2; omega) (Ev.dp (by rw [big_eq, hb]; omega) (Ev.bind (specDec h.w.1 h.w.2) (Ev.dp (by rw [big_eq, ByteArray.size_append, hb]; show _ + (decB i.2.1).size ≤ _; omega) ?_)))
 have tail : ∀ (t : ByteArray), t.size ≤ 1000 → ∀ r, t ++ numsB (opsB i) = r → Ev (fun k => Option.bind (U25.f k i) fun r9 => Option.bind (U57.f k r9.2.1) fun r10 => bif decide (ByteArray.size t + ByteArray.size r10.1.1.1 ≤ big) then (some (((t ++ r10.1.1.1, ()), ()), ())) else none) (one r) := fun t ht r hr =>
  Ev.bind (Ev.all fun k => specOps k hal) (Ev.bind (specNums (by show (opsB i).length ≤ 100; omega) h.o) (Ev.dp (by rw [big_eq]; show _ + (numsB (opsB i)).size ≤ _; omega) (Ev.cst (by rw [← hr]))))
 by_cases c1 : i.1 = 21
 ·have e : textW w i = ((w ++ numB i.2.1) ++ numB i.2.2.2.2.2.1) ++ numsB (opsB i) := by unfold textW hasI; rw [dpos c1]; rfl
  rw [e]
  refine Ev.dp c1 (Ev.dp (by rw [big_eq, ByteArray.size_append, ByteArray.size_append, hb]; show _ + (decB i.2.1).size + _ ≤ _; omega) (Ev.bind (specDec h.m.1 h.m.2) (Ev.dp (by rw [big_eq, ByteArray.size_append, ByteArray.size_append, ByteArray.size_append, hb]; show _ + (decB i.2.1).size + _ + (decB i.2.2.2.2.2.1).size ≤ _; omega) (tail _ (by rw [ByteArray.size_append, ByteArray.size_append, ByteArray.size_append, ByteArray.size_append, hb]; show _ + (decB i.2.1).size + _ + (decB i.2.2.2.2.2.1).size ≤ _; omega) _ ?_))))
  simp only [numB, blank, one, ← ByteArray.append_assoc]
 ·by_cases c2 : i.1 = 26
  ·have e : textW w i = ((w ++ numB i.2.1) ++ numB i.2.2.2.2.2.1) ++ numsB (opsB i) := by unfold textW hasI; rw [dpos c2, Bool.or_true]; rfl
   rw [e]
   refine Ev.dn c1 (Ev.dp c2 (Ev.dp (by rw [big_eq, ByteArray.size_append, ByteArray.size_append, hb]; show _ + (decB i.2.1).size + _ ≤ _; omega) (Ev.bind (specDec h.m.1 h.m.2) (Ev.dp (by rw [big_eq, ByteArray.size_append, ByteArray.size_append, ByteArray.size_append, hb]; show _ + (decB i.2.1).size + _ + (decB i.2.2.2.2.2.1).size ≤ _; omega) (tail _ (by rw [ByteArray.size_append, ByteArray.size_append, ByteArray.size_append, ByteArray.size_append, hb]; show _ + (decB i.2.1).size + _ + (decB i.2.2.2.2.2.1).size ≤ _; omega) _ ?_)))))
   simp only [numB, blank, one, ← ByteArray.append_assoc]
  ·have e : textW w i = (w ++ numB i.2.1) ++ numsB (opsB i) := by unfold textW hasI; rw [dneg c1, dneg c2]; rfl
   rw [e]
   refine Ev.dn c1 (Ev.dn c2 (tail _ (by rw [ByteArray.size_append, ByteArray.size_append, hb]; show _ + (decB i.2.1).size ≤ _; omega) _ ?_))
   simp only [numB, blank, one, ← ByteArray.append_assoc]
theorem specText {i : tInstD} (h : Txt i) : Ev (fun k => U58.f k i) (one (textI i)) := specTextW h specWords words_len (by unfold wordB; rfl) (wordB_size _)
theorem nums1 (n : Int) : numsB [n] = numB n := by show numB n ++ ByteArray.empty = _; rw [ByteArray.append_empty]
theorem implTextW {i : tInstD} (h : Txt i) {W : List ByteArray} {w : ByteArray} (hk : ∀ k, U142.f k = some (rowR W)) (hW : W.length = 27) (hg : W.getD (i.1 - 1).toNat ByteArray.empty = w) (hws : w.size ≤ 10) : Ev (fun k => U145.f k i) (one (textW w i)) := by
 have hw := numB_size h.w
 have hm := numB_size h.m
 have hal : i.2.2.2.2.2.2.1.length ≤ 1048576 := by have := h.al; omega
 have hol := h.ol
 have hwr : IntKind.wrap .i64 (i.1 - 1) = i.1 - 1 := wrap_id (by have := h.op1; omega) (by have := h.op2; omega)
 unfold U145.f
 rw [hwr]
 refine Ev.bind (Ev.all hk) (Ev.dd (by have := h.op1; omega) (by show i.1 - 1 < ((List.length W : Nat) : Int); rw [hW]; have := h.op2; omega) ?_)
 have l1 := implLine (w := w) (by omega) (l := [i.2.1]) (by simp) (fun n hn => by rw [List.mem_singleton.1 hn]; exact h.w)
 rw [nums1] at l1
 show Ev (fun k => Option.bind (U143.f k (W.getD (i.1 - 1).toNat ByteArray.empty) [i.2.1]) _) _
 rw [hg]
 refine Ev.bind l1 ?_
 unfold U144.f
 cases hi : hasI i with
 | true =>
  have e : textW w i = ((w ++ numB i.2.1) ++ numB i.2.2.2.2.2.1) ++ numsB (opsB i) := by unfold textW; rw [hi]; rfl
  rw [e]
  have l2 := implLine (w := w ++ numB i.2.1) (by rw [ByteArray.size_append]; omega) (l := [i.2.2.2.2.2.1]) (by simp) (fun n hn => by rw [List.mem_singleton.1 hn]; exact h.m)
  rw [nums1] at l2
  refine Ev.bind (a := one true) (Ev.cst (by unfold hasI at hi; cases c1 : decide (i.1 = 21) <;> simp_all)) (Ev.pos rfl (Ev.bind l2 (Ev.bind (Ev.all fun k => implOps k hal) (Ev.bind (implLine (w := (w ++ numB i.2.1) ++ numB i.2.2.2.2.2.1) (by rw [ByteArray.size_append, ByteArray.size_append]; omega) (by show (opsB i).length ≤ 100; omega) h.o) (Ev.cst rfl)))))
 | false =>
  have e : textW w i = (w ++ numB i.2.1) ++ numsB (opsB i) := by unfold textW; rw [hi]; rfl
  rw [e]
  refine Ev.bind (a := one false) (Ev.cst (by unfold hasI at hi; cases c1 : decide (i.1 = 21) <;> simp_all)) (Ev.neg rfl (Ev.bind (Ev.all fun k => implOps k hal) (Ev.bind (implLine (w := w ++ numB i.2.1) (by rw [ByteArray.size_append]; omega) (by show (opsB i).length ≤ 100; omega) h.o) (Ev.cst rfl))))
theorem implText {i : tInstD} (h : Txt i) : Ev (fun k => U145.f k i) (one (textI i)) := implTextW h implWords words_len (by unfold wordB; rfl) (wordB_size _)
theorem implWs {l : List Int} (h : l.length ≤ 1048576) : Ev (fun k => U67.f k l) (one (!l.all wOk)) := by
 rw [← any_not]
 exact index_ev (z := 0) (L := fun k b a => U66.l0 k l b a) (q := fun k x => U65.f k x) (by omega) (fun k b a => rfl) fun x _ => Ev.all fun k => by
  unfold U65.f
  rw [implW]; rfl
theorem implIds {l : List Int} (h : l.length ≤ 1048576) {count : Int} (h0 : 0 ≤ count) (h1 : count ≤ 9223372036854775807) : Ev (fun k => U71.f k l count) (one (!l.all (inB 0 (count - 1)))) := by
 rw [← any_not]
 exact index_ev (z := 0) (L := fun k b a => U70.l0 k l b a count) (q := fun k x => U69.f k x count) (by omega) (fun k b a => rfl) fun x _ => Ev.all fun k => by
  unfold U69.f
  rw [implIn, wrap_id (by omega) (by omega)]; rfl
theorem ev_nt {g : Nat → Option BR} {b c : Bool} (h : Ev g (one (!c))) : Ev (fun k => bif !b then some (one true) else g k) (one (!(b && c))) := by
 cases b with
 | true => exact Ev.neg rfl h
 | false => exact Ev.pos rfl (Ev.cst rfl)
theorem ev_nt' {g : Nat → Option BR} {b c : Bool} (h : Ev g (one (!c))) : Ev (fun k => bif b then some (one true) else g k) (one (!(!b && c))) := by
 cases b with
 | true => exact Ev.pos rfl (Ev.cst rfl)
 | false => exact Ev.neg rfl h
theorem implPhi {p : tPhiD} (hp : Small tPhi p) {count : Int} (h0 : 0 ≤ count) (h1 : count ≤ 9223372036854775807) : Ev (fun k => U72.f k p count) (one (!phiB count p)) := by
 have hl : p.2.1.length ≤ 1048576 := hp.2.1.1
 unfold U72.f phiB
 rw [Bool.and_assoc, len_not]
 exact Ev.bind (Ev.all fun k => implW k _) (ev_nt (ev_nt' (Ev.bind (implIds hl h0 h1) (Ev.cst rfl))))
theorem implPhis {l : List tPhiD} (hs : Small (.list tPhi) l) {count : Int} (h0 : 0 ≤ count) (h1 : count ≤ 9223372036854775807) : Ev (fun k => U74.f k l count) (one (!l.all (phiB count))) := by
 have hl : l.length ≤ 1048576 := hs.1
 rw [← any_not]
 exact index_ev (z := tPhiZ) (L := fun k b a => U73.l0 k l b a count) (q := fun k x => U72.f k x count) (by omega) (fun k b a => rfl) fun x hx => implPhi (hs.2 x hx) h0 h1
theorem implInsts {l : List tInstD} (hs : Small (.list tInst) l) {count funcs : Int} (h0 : 0 ≤ count) (h1 : count ≤ 9223372036854775807) (h2 : 0 ≤ funcs) (h3 : funcs ≤ 9223372036854775807) : Ev (fun k => U91.f k l count funcs) (one (!l.all (instB count funcs))) := by
 have hl : l.length ≤ 1048576 := hs.1
 rw [← any_not]
 refine index_ev (z := tInstZ) (L := fun k b a => U90.l0 k l b a count funcs) (q := fun k x => U89.f k x count funcs) (by omega) (fun k b a => rfl) fun x hx => ?_
 exact Ev.bind (implInst (i := x) ((hs.2 x hx).2.2.2.2.2.2.1.1) h0 h1 h2 h3) (Ev.cst rfl)
theorem implFunc {f : tFuncD} (hf : Small tFunc f) {funcs : Int} (h2 : 0 ≤ funcs) (h3 : funcs ≤ 9223372036854775807) : Ev (fun k => U94.f k f funcs) (one (funcB funcs f)) := by
 have hs := hf.2.2.1
 have hlen : f.2.2.1.length ≤ 1048576 := hs.1
 have hpl : f.1.length ≤ 1048576 := hf.1.1
 obtain ⟨c0, c1⟩ := cntB_le hf
 have c1 : cntB f ≤ 9223372036854775807 := by omega
 have hord : funcB funcs f = (!decide (((4 : Nat) : Int) < ((f.1.length : Nat) : Int)) && (wOk f.2.1 && (inB 1 10 (f.2.2.1.length : Int) && (f.1.all wOk && (!decide (60 < cntB f) && f.2.2.1.all (blockB (cntB f) funcs (f.2.2.1.length : Int))))))) := by
  unfold funcB
  rw [len_not, le_not]
  generalize decide (((4 : Nat) : Int) < ((f.1.length : Nat) : Int)) = a
  generalize decide (60 < cntB f) = b
  generalize f.1.all wOk = c
  cases a <;> cases b <;> cases c <;> simp [Bool.and_assoc]
 rw [hord]
 unfold U94.f
 refine ev_and' (Ev.bind (Ev.all fun k => implW k _) (ev_and (Ev.bind (Ev.all fun k => implIn k _ _ _) (ev_and (Ev.bind (implWs hpl) ?_)))))
 have inner : Ev (fun k => Option.bind (U68.f k f) fun r4 => bif decide (60 < r4.1.1.1) then some (((false, ()), ()), ()) else U94.l0 k f.2.2.1 ((List.length f.2.2.1 : Nat) : Int) 0 f funcs r4.1.1.1) (one (!decide (60 < cntB f) && f.2.2.1.all (blockB (cntB f) funcs (f.2.2.1.length : Int)))) := by
  refine Ev.bind (implCount hf) (ev_and' ?_)
  refine each_ev (z := tBlockZ) (l := f.2.2.1) (L := fun k a => U94.l0 k f.2.2.1 ((List.length f.2.2.1 : Nat) : Int) a f funcs (cntB f)) (V := fun m => one (m.all (blockB (cntB f) funcs (f.2.2.1.length : Int))))
   (q := fun k x g => Option.bind (U74.f k x.1 (cntB f)) fun r1 => bif r1.1.1.1 then some (((false, ()), ()), ()) else Option.bind (U91.f k x.2.1 (cntB f) funcs) fun r2 => bif r2.1.1.1 then some (((false, ()), ()), ()) else Option.bind (U93.f k f x.2.2 (cntB f)) fun r3 => bif !r3.1.1.1 then some (((false, ()), ()), ()) else g k)
   (by omega) (fun k a => rfl) (Ev.cst rfl) fun x m g hx hg => ?_
  have hx' := hs.2 x hx
  have hb : (blockB (cntB f) funcs (f.2.2.1.length : Int) x && m.all (blockB (cntB f) funcs (f.2.2.1.length : Int))) = (!(!x.1.all (phiB (cntB f))) && (!(!x.2.1.all (instB (cntB f) funcs)) && (termB (cntB f) (f.2.2.1.length : Int) x.2.2 && m.all (blockB (cntB f) funcs (f.2.2.1.length : Int))))) := by
   have e : blockB (cntB f) funcs (f.2.2.1.length : Int) x = (x.1.all (phiB (cntB f)) && x.2.1.all (instB (cntB f) funcs) && termB (cntB f) (f.2.2.1.length : Int) x.2.2) := rfl
   rw [e, Bool.not_not, Bool.not_not, Bool.and_assoc, Bool.and_assoc]
  rw [List.all_cons, hb]
  exact Ev.bind (implPhis hx'.1 c0 c1) (ev_and' (Ev.bind (implInsts hx'.2.1 c0 c1 h2 h3) (ev_and' (Ev.bind (Ev.all fun k => implTerm k x.2.2 hlen c0 c1) (ev_and hg)))))
 have := ev_and' (b := !f.1.all wOk) inner
 rw [Bool.not_not] at this
 exact this
structure Fm (funcs : Int) (f : tFuncD) : Prop where
 p4 : f.1.length ≤ 4
 b1 : 1 ≤ f.2.2.1.length
 b10 : f.2.2.1.length ≤ 10
 cnt : cntB f ≤ 60
 pw : ∀ w ∈ f.1, wOk w = true
 ph : ∀ x ∈ f.2.2.1, ∀ p ∈ x.1, phiB (cntB f) p = true
 ins : ∀ x ∈ f.2.2.1, ∀ i ∈ x.2.1, instB (cntB f) funcs i = true
 tm : ∀ x ∈ f.2.2.1, termB (cntB f) (f.2.2.1.length : Int) x.2.2 = true
theorem inB_iff {lo hi x : Int} : inB lo hi x = true ↔ lo ≤ x ∧ x ≤ hi := by simp [inB]
theorem Fm.of {funcs : Int} {f : tFuncD} (h : funcB funcs f = true) : Fm funcs f := by
 simp only [funcB, Bool.and_eq_true, decide_eq_true_eq, List.all_eq_true, inB_iff, blockB] at h
 obtain ⟨⟨⟨⟨⟨h1, h2⟩, h3⟩, h4⟩, h5⟩, h6⟩ := h
 exact ⟨h1, by omega, by omega, h4, h5, fun x hx => (h6 x hx).1.1, fun x hx => (h6 x hx).1.2, fun x hx => (h6 x hx).2⟩
/-- How many ids a block gives. -/
def wB (x : tBlockD) : Int := ((x.1.length : Nat) : Int) + ((x.2.1.length : Nat) : Int)
theorem wB_nonneg (x : tBlockD) : 0 ≤ wB x := by unfold wB; omega
theorem cntB_eq (f : tFuncD) : cntB f = (f.1.length : Int) + sumB wB f.2.2.1 := rfl
theorem sumB_nonneg {α : Type} {w : α → Int} : ∀ {l : List α}, (∀ x ∈ l, 0 ≤ w x) → 0 ≤ sumB w l
 | [], _ => Int.le_refl _
 | x :: l, h => by
  have := h x (by simp)
  have := sumB_nonneg (l := l) fun y hy => h y (by simp [hy])
  simp only [sumB]; omega
theorem le_sumB {α : Type} {w : α → Int} {l : List α} (h : ∀ x ∈ l, 0 ≤ w x) {x : α} (hx : x ∈ l) : w x ≤ sumB w l := by
 induction l with
 | nil => cases hx
 | cons y l ih =>
  have hn := sumB_nonneg (l := l) fun z hz => h z (by simp [hz])
  simp only [sumB]
  rcases List.mem_cons.1 hx with rfl | hx
  ·omega
  ·have := ih (fun z hz => h z (by simp [hz])) hx
   have := h y (by simp)
   omega
theorem sumB_drop {α : Type} (w : α → Int) (l : List α) (i : Nat) (h : i < l.length) : sumB w (l.drop i) = w l[i] + sumB w (l.drop (i + 1)) := by
 rw [List.drop_eq_getElem_cons h]; rfl
theorem Fm.w60 {funcs : Int} {f : tFuncD} (h : Fm funcs f) {x : tBlockD} (hx : x ∈ f.2.2.1) : wB x ≤ 60 := by
 have := le_sumB (w := wB) (fun y _ => wB_nonneg y) hx
 have := h.cnt
 rw [cntB_eq] at this
 omega
theorem Fm.phis {funcs : Int} {f : tFuncD} (h : Fm funcs f) {x : tBlockD} (hx : x ∈ f.2.2.1) : x.1.length ≤ 60 ∧ x.2.1.length ≤ 60 := by
 have := h.w60 hx
 unfold wB at this
 omega
theorem ev_if {g : Nat → Option BR} {b c : Bool} (h : b = true → Ev g (one c)) : Ev (fun k => bif b then g k else some (one false)) (one (b && c)) := by
 cases b with
 | true => exact Ev.pos rfl (h rfl)
 | false => exact Ev.neg rfl (Ev.cst rfl)
section
variable {funcs : Int} {f : tFuncD}
def vid (f : tFuncD) (id : Int) : Prop := 0 ≤ id ∧ id < cntB f
theorem vid_of {id : Int} (h : inB 0 (cntB f - 1) id = true) : vid f id := by
 have := inB_iff.1 h
 exact ⟨this.1, by omega⟩
theorem Fm.vt (hf : Fm funcs f) {x : tBlockD} (hx : x ∈ f.2.2.1) (h : x.2.2.1 = 1 ∨ x.2.2.1 = 3) : vid f x.2.2.2.1 := by
 have := hf.tm x hx
 unfold termB at this
 rcases h with h | h <;> rw [h] at this
 ·have h2 : (inB 0 (cntB f - 1) x.2.2.2.1 && decide (x.2.2.2.2.1 = 0) && decide (x.2.2.2.2.2.1 = 0)) = true := this
  simp only [Bool.and_eq_true] at h2
  exact vid_of h2.1.1
 ·have h2 : (inB 0 (cntB f - 1) x.2.2.2.1 && inB 0 ((f.2.2.1.length : Int) - 1) x.2.2.2.2.1 && inB 0 ((f.2.2.1.length : Int) - 1) x.2.2.2.2.2.1 && !decide (x.2.2.2.2.1 = x.2.2.2.2.2.1)) = true := this
  simp only [Bool.and_eq_true] at h2
  exact vid_of h2.1.1.1
theorem Fm.vp (hf : Fm funcs f) {x : tBlockD} (hx : x ∈ f.2.2.1) {p : tPhiD} (hp : p ∈ x.1) {id : Int} (h : id ∈ p.2.1) : vid f id := by
 have := hf.ph x hx p hp
 simp only [phiB, Bool.and_eq_true, List.all_eq_true] at this
 exact vid_of (this.2 id h)
theorem Fm.vo (hf : Fm funcs f) {x : tBlockD} (hx : x ∈ f.2.2.1) {i : tInstD} (hi : i ∈ x.2.1) : i.2.2.2.2.2.2.1.length ≤ 4 ∧ ∀ id ∈ opsB i, vid f id := by
 have hin := hf.ins x hx i hi
 simp only [instB, Bool.and_eq_true, decide_eq_true_eq, List.all_eq_true] at hin
 exact ⟨hin.1.1.1.1.1.2, fun id h => vid_of (hin.1.1.1.2 id h)⟩
end
abbrev IIR := (((Int × Unit) × (Int × Unit) × Unit) × Unit)
abbrev two (p : Int × Int) : IIR := (((p.1, ()), (p.2, ()), ()), ())
/-- The place of an id that is counted from block b on. -/
def placeL : List tBlockD → Nat → Int → Int × Int
 | [], _, _ => (-2, 0)
 | x :: l, b, id => if id < wB x then ((b : Int), id) else placeL l (b + 1) (id - wB x)
def placeOf (f : tFuncD) (id : Int) : Int × Int := if id < (f.1.length : Int) then (-1, id) else placeL f.2.2.1 0 (id - (f.1.length : Int))
theorem placeL_in : ∀ (l : List tBlockD) (b : Nat) (id : Int), 0 ≤ id → id < sumB wB l → ∃ j : Nat, ∃ h : j < l.length, placeL l b id = (((b + j : Nat) : Int), id - sumB wB (l.take j)) ∧ 0 ≤ id - sumB wB (l.take j) ∧ id - sumB wB (l.take j) < wB l[j]
 | [], _, id, h0, h => by simp [sumB] at h; omega
 | x :: l, b, id, h0, h => by
  simp only [sumB] at h
  unfold placeL
  by_cases c : id < wB x
  ·exact ⟨0, by simp, by rw [if_pos c]; simp [sumB], by simpa [sumB] using h0, by simpa [sumB] using c⟩
  ·obtain ⟨j, hj, e, a, b'⟩ := placeL_in l (b + 1) (id - wB x) (by omega) (by omega)
   refine ⟨j + 1, by simpa using hj, ?_, ?_, ?_⟩
   ·rw [if_neg c, e]
    simp only [List.take_succ_cons, sumB]
    refine Prod.ext ?_ ?_
    ·show ((b + 1 + j : Nat) : Int) = ((b + (j + 1) : Nat) : Int); omega
    ·show _ = _; omega
   ·simp only [List.take_succ_cons, sumB]; omega
   ·simp only [List.take_succ_cons, sumB, List.getElem_cons_succ]; omega
section
variable {funcs : Int} {f : tFuncD}
/-- Where an id stands. -/
theorem place_cases (id : Int) (h0 : 0 ≤ id) (h1 : id < cntB f) : (id < (f.1.length : Int) ∧ placeOf f id = (-1, id)) ∨ ((f.1.length : Int) ≤ id ∧ ∃ j : Nat, ∃ hj : j < f.2.2.1.length, placeOf f id = ((j : Int), id - (f.1.length : Int) - sumB wB (f.2.2.1.take j)) ∧ 0 ≤ id - (f.1.length : Int) - sumB wB (f.2.2.1.take j) ∧ id - (f.1.length : Int) - sumB wB (f.2.2.1.take j) < wB f.2.2.1[j]) := by
 rw [cntB_eq] at h1
 unfold placeOf
 by_cases c : id < (f.1.length : Int)
 ·exact .inl ⟨c, if_pos c⟩
 ·obtain ⟨j, hj, e, a, b⟩ := placeL_in f.2.2.1 0 (id - (f.1.length : Int)) (by omega) (by omega)
  refine .inr ⟨by omega, j, hj, ?_, a, b⟩
  rw [if_neg c, e, Nat.zero_add]
theorem blk_wrap {x : tBlockD} (h : wB x ≤ 60) : IntKind.wrap .i64 (((List.length x.1 : Nat) : Int) + ((List.length x.2.1 : Nat) : Int)) = wB x := wrap_id (by omega) (by unfold wB at h; omega)
theorem specPlace_l (hf : Fm funcs f) : ∀ (d i : Nat) (id : Int), i + d = f.2.2.1.length → 0 ≤ id → id ≤ 100 → Ev (fun k => U36.l0 k id i f) (two (placeL (f.2.2.1.drop i) i id)) := by
 intro d
 induction d with
 | zero =>
  intro i id hi h0 h1
  obtain rfl : i = f.2.2.1.length := by omega
  rw [List.drop_length]
  refine Ev.step (g' := fun _ => some (two (-2, 0))) (Ev.cst rfl) fun k => ?_
  show U36.l0_ k (U36.l0 k) id _ f = _
  unfold U36.l0_
  simp only [head_end, cond_false]
 | succ d ih =>
  intro i id hi h0 h1
  have hlt : i < f.2.2.1.length := by omega
  have hb := hf.w60 (List.getElem_mem hlt)
  have hc := wB_nonneg f.2.2.1[i]
  have h10 := hf.b10
  rw [List.drop_eq_getElem_cons hlt]
  refine Ev.succ ?_
  show Ev (fun k => U36.l0_ k (U36.l0 k) id _ f) _
  unfold U36.l0_ placeL
  simp only [head_in hlt, head_0, Bool.and_self, cond_true, get_in hlt, blk_wrap hb, wrap_nat (show i < 9223372036854775807 by omega)]
  by_cases c : id < wB f.2.2.1[i]
  ·rw [if_pos c]
   exact Ev.dp c (Ev.cst rfl)
  ·rw [if_neg c]
   refine Ev.dn c ?_
   rw [wrap_id (x := id - wB f.2.2.1[i]) (by omega) (by omega)]
   exact ih (i + 1) _ (by omega) (by omega) (by omega)
theorem specPlace (hf : Fm funcs f) {id : Int} (h0 : 0 ≤ id) (h1 : id < cntB f) : Ev (fun k => U36.f k f id) (two (placeOf f id)) := by
 have h60 := hf.cnt
 have h4 := hf.p4
 unfold U36.f placeOf
 refine Ev.dn (by omega) ?_
 by_cases c : id < (f.1.length : Int)
 ·rw [if_pos c]; exact Ev.dp c (Ev.cst rfl)
 ·rw [if_neg c]
  refine Ev.dn c ?_
  rw [wrap_id (by omega) (by omega)]
  exact specPlace_l hf f.2.2.1.length 0 _ (by omega) (by omega) (by omega)
theorem implPlace_l (hf : Fm funcs f) (id : Int) (h1 : id ≤ 100) : ∀ (d i : Nat) (n : Int), i + d = f.2.2.1.length → 0 ≤ n → n ≤ id → Ev (fun k => U109.l0 k id n f.2.2.1 ((List.length f.2.2.1 : Nat) : Int) i) (two (placeL (f.2.2.1.drop i) i (id - n))) := by
 intro d
 induction d with
 | zero =>
  intro i n hi h0 hn
  obtain rfl : i = f.2.2.1.length := by omega
  rw [List.drop_length]
  refine Ev.step (g' := fun _ => some (two (-2, 0))) (Ev.cst rfl) fun k => ?_
  show U109.l0_ k (U109.l0 k) id n _ _ _ = _
  unfold U109.l0_
  simp only [head_end, cond_false]
 | succ d ih =>
  intro i n hi h0 hn
  have hlt : i < f.2.2.1.length := by omega
  have hb := hf.w60 (List.getElem_mem hlt)
  have hc := wB_nonneg f.2.2.1[i]
  have h10 := hf.b10
  rw [List.drop_eq_getElem_cons hlt]
  refine Ev.succ ?_
  show Ev (fun k => U109.l0_ k (U109.l0 k) id n _ _ _) _
  unfold U109.l0_ placeL
  simp only [head_in hlt, head_0, Bool.and_self, cond_true, get_in hlt, blk_wrap hb, wrap_nat (show i < 9223372036854775807 by omega), wrap_id (x := n + wB f.2.2.1[i]) (by omega) (by omega), wrap_id (x := id - n) (by omega) (by omega)]
  by_cases c : id < n + wB f.2.2.1[i]
  ·rw [if_pos (show id - n < wB f.2.2.1[i] by omega)]
   exact Ev.dp c (Ev.cst rfl)
  ·rw [if_neg (show ¬ id - n < wB f.2.2.1[i] by omega)]
   refine Ev.dn c ?_
   rw [show id - n - wB f.2.2.1[i] = id - (n + wB f.2.2.1[i]) by omega]
   exact ih (i + 1) _ (by omega) (by omega) (by omega)
theorem implIsId (hs : Small tFunc f) {id : Int} (h0 : 0 ≤ id) (h1 : id < cntB f) : Ev (fun k => U108.f k f id) (one true) := by
 obtain ⟨c0, c1⟩ := cntB_le hs
 refine Ev.bind (implCount hs) (Ev.bind (Ev.all fun k => implIn k _ _ _) (Ev.cst ?_))
 rw [show IntKind.wrap .i64 ((one (cntB f)).1.1.1 - 1) = cntB f - 1 from wrap_id (by show -9223372036854775808 ≤ cntB f - 1; omega) (by show cntB f - 1 ≤ _; omega)]
 rw [show inB 0 (cntB f - 1) id = true from inB_iff.2 ⟨h0, by omega⟩]
theorem implPlace (hs : Small tFunc f) (hf : Fm funcs f) {id : Int} (h0 : 0 ≤ id) (h1 : id < cntB f) : Ev (fun k => U109.f k f id) (two (placeOf f id)) := by
 have h60 := hf.cnt
 have h4 := hf.p4
 unfold U109.f placeOf
 refine Ev.bind (implIsId hs h0 h1) (Ev.neg rfl ?_)
 by_cases c : id < (f.1.length : Int)
 ·rw [if_pos c]; exact Ev.dp c (Ev.cst rfl)
 ·rw [if_neg c]
  exact Ev.dn c (implPlace_l hf id (by omega) f.2.2.1.length 0 _ (by omega) (by omega) (by omega))
end
section
variable {funcs : Int} {f : tFuncD}
abbrev InstR := (((tInstD) × (Bool × Unit) × Unit) × Unit)
def instP (f : tFuncD) (id : Int) : tInstD × Bool :=
 if (placeOf f id).1 = -1 then (tInstZ, false) else
  if (placeOf f id).2 < ((f.2.2.1.getD (placeOf f id).1.toNat tBlockZ).1.length : Int) then (tInstZ, false)
  else ((f.2.2.1.getD (placeOf f id).1.toNat tBlockZ).2.1.getD ((placeOf f id).2 - ((f.2.2.1.getD (placeOf f id).1.toNat tBlockZ).1.length : Int)).toNat tInstZ, true)
def instQ (f : tFuncD) (id : Int) : InstR := (((instP f id).1, ((instP f id).2, ()), ()), ())
theorem implInstOf (hs : Small tFunc f) (hf : Fm funcs f) {id : Int} (v : vid f id) : Ev (fun k => U110.f k f id) (instQ f id) := by
 have h10 := hf.b10
 unfold U110.f instQ instP
 refine Ev.bind (implPlace hs hf v.1 v.2) ?_
 rcases place_cases id v.1 v.2 with ⟨hl, hp⟩ | ⟨hl, j, hj, hp, ha, hb⟩
 ·rw [hp, if_pos rfl]
  exact Ev.dp (show (-1 : Int) < 0 by decide) (Ev.cst rfl)
 ·rw [hp]
  generalize id - (f.1.length : Int) - sumB wB (f.2.2.1.take j) = at' at ha hb
  have hx := hf.w60 (List.getElem_mem hj)
  rw [if_neg (by show ¬ ((j : Int) = -1); omega)]
  refine Ev.dn (show ¬ ((j : Int) < 0) by omega) (Ev.dd (show 0 ≤ (j : Int) by omega) (show (j : Int) < (f.2.2.1.length : Int) by omega) ?_)
  show Ev (fun k => bif decide (at' < ((List.length (f.2.2.1.getD (Int.toNat (j : Int)) tBlockZ).1 : Nat) : Int)) then _ else (bif decide (0 ≤ (j : Int)) && decide ((j : Int) < (f.2.2.1.length : Int)) then (bif decide (0 ≤ (j : Int)) && decide ((j : Int) < (f.2.2.1.length : Int)) then (bif decide (0 ≤ IntKind.wrap .i64 (at' - ((List.length (f.2.2.1.getD (Int.toNat (j : Int)) tBlockZ).1 : Nat) : Int))) && decide (IntKind.wrap .i64 (at' - ((List.length (f.2.2.1.getD (Int.toNat (j : Int)) tBlockZ).1 : Nat) : Int)) < ((List.length (f.2.2.1.getD (Int.toNat (j : Int)) tBlockZ).2.1 : Nat) : Int)) then some ((((f.2.2.1.getD (Int.toNat (j : Int)) tBlockZ).2.1.getD (Int.toNat (IntKind.wrap .i64 (at' - ((List.length (f.2.2.1.getD (Int.toNat (j : Int)) tBlockZ).1 : Nat) : Int)))) tInstZ, (true, ()), ()), ())) else none) else none) else none)) _
  rw [get_in hj]
  unfold wB at hb hx
  by_cases c : at' < ((List.length f.2.2.1[j].1 : Nat) : Int)
  ·rw [if_pos c]
   exact Ev.dp c (Ev.cst rfl)
  ·have hw : IntKind.wrap .i64 (at' - ((List.length f.2.2.1[j].1 : Nat) : Int)) = at' - ((List.length f.2.2.1[j].1 : Nat) : Int) := wrap_id (by omega) (by omega)
   rw [if_neg c, hw]
   exact Ev.dn c (Ev.dd (by omega) (by omega) (Ev.dd (by omega) (by omega) (Ev.dd (by omega) (by omega) (Ev.cst rfl))))
theorem specInstOf (hf : Fm funcs f) {id : Int} (v : vid f id) : Ev (fun k => U53.f k f id) (instQ f id) := by
 have h10 := hf.b10
 unfold U53.f instQ instP
 refine Ev.bind (specPlace hf v.1 v.2) ?_
 rcases place_cases id v.1 v.2 with ⟨hl, hp⟩ | ⟨hl, j, hj, hp, ha, hb⟩
 ·rw [hp, if_pos rfl]
  exact Ev.dp (show (-1 : Int) < 0 by decide) (Ev.cst rfl)
 ·rw [hp]
  generalize id - (f.1.length : Int) - sumB wB (f.2.2.1.take j) = at' at ha hb
  have hx := hf.w60 (List.getElem_mem hj)
  rw [if_neg (by show ¬ ((j : Int) = -1); omega)]
  refine Ev.dn (show ¬ ((j : Int) < 0) by omega) (Ev.dd (show 0 ≤ (j : Int) by omega) (show (j : Int) < (f.2.2.1.length : Int) by omega) ?_)
  show Ev (fun k => bif decide (at' < ((List.length (f.2.2.1.getD (Int.toNat (j : Int)) tBlockZ).1 : Nat) : Int)) then _ else (bif decide (0 ≤ (j : Int)) && decide ((j : Int) < (f.2.2.1.length : Int)) then (bif decide (0 ≤ IntKind.wrap .i64 (at' - ((List.length (f.2.2.1.getD (Int.toNat (j : Int)) tBlockZ).1 : Nat) : Int))) && decide (IntKind.wrap .i64 (at' - ((List.length (f.2.2.1.getD (Int.toNat (j : Int)) tBlockZ).1 : Nat) : Int)) < ((List.length (f.2.2.1.getD (Int.toNat (j : Int)) tBlockZ).2.1 : Nat) : Int)) then some ((((f.2.2.1.getD (Int.toNat (j : Int)) tBlockZ).2.1.getD (Int.toNat (IntKind.wrap .i64 (at' - ((List.length (f.2.2.1.getD (Int.toNat (j : Int)) tBlockZ).1 : Nat) : Int)))) tInstZ, (true, ()), ()), ())) else none) else none)) _
  rw [get_in hj]
  unfold wB at hb hx
  by_cases c : at' < ((List.length f.2.2.1[j].1 : Nat) : Int)
  ·rw [if_pos c]
   exact Ev.dp c (Ev.cst rfl)
  ·have hw : IntKind.wrap .i64 (at' - ((List.length f.2.2.1[j].1 : Nat) : Int)) = at' - ((List.length f.2.2.1[j].1 : Nat) : Int) := wrap_id (by omega) (by omega)
   rw [if_neg c, hw]
   exact Ev.dn c (Ev.dd (by omega) (by omega) (Ev.dd (by omega) (by omega) (Ev.cst rfl)))
/-- An id's instruction is one of its block's. -/
theorem instP_in (hf : Fm funcs f) {id : Int} (v : vid f id) (h : (instP f id).2 = true) : ∃ x ∈ f.2.2.1, (instP f id).1 ∈ x.2.1 := by
 unfold instP at h ⊢
 rcases place_cases id v.1 v.2 with ⟨hl, hp⟩ | ⟨hl, j, hj, hp, ha, hb⟩
 ·rw [hp, if_pos rfl] at h
  cases h
 ·rw [hp] at h ⊢
  generalize id - (f.1.length : Int) - sumB wB (f.2.2.1.take j) = at' at ha hb h ⊢
  rw [if_neg (by show ¬ ((j : Int) = -1); omega)] at h ⊢
  simp only [] at h ⊢
  rw [get_in hj] at h ⊢
  unfold wB at hb
  by_cases c : at' < ((List.length f.2.2.1[j].1 : Nat) : Int)
  ·rw [if_pos c] at h
   cases h
  ·rw [if_neg c]
   refine ⟨f.2.2.1[j], List.getElem_mem hj, ?_⟩
   show (f.2.2.1[j].2.1.getD (at' - ((List.length f.2.2.1[j].1 : Nat) : Int)).toNat tInstZ) ∈ _
   rw [getD_at _ _ _ (show (at' - ((List.length f.2.2.1[j].1 : Nat) : Int)).toNat < f.2.2.1[j].2.1.length by omega)]
   exact List.getElem_mem _
end
theorem implHasK (l : List Int) (n : Int) (h : l.length ≤ 1048576) : Ev (fun k => U101.f k l n) (one (decide (n ∈ l))) := by
 have := index_ev (z := 0) (l := l) (p := fun x => decide (n = x)) (L := fun k b a => U100.l0 k l n b a) (q := fun k x => some (one (decide (n = x)))) (by omega) (fun k b a => rfl) (fun x _ => Ev.cst rfl)
 refine this.rw ?_
 congr 1
 rw [Bool.eq_iff_iff, List.any_eq_true, decide_eq_true_eq]
 constructor
 ·rintro ⟨x, hx, e⟩
  simp only [decide_eq_true_eq] at e
  rw [e]; exact hx
 ·intro hm
  exact ⟨n, hm, by simp⟩
def turnsB (op : Int) : Bool := decide (op = 1) || (decide (op = 3) || (inB 8 10 op || (decide (op = 14) || decide (op = 15))))
theorem specTurns (k : Nat) (op : Int) : U54.f k op = some (one (turnsB op)) := by
 unfold U54.f turnsB
 simp only [specIn, Option.bind_some]
 cases decide (op = 1) <;> cases decide (op = 3) <;> cases inB 8 10 op <;> cases decide (op = 14) <;> rfl
theorem implTurns (op : Int) : Ev (fun k => U141.f k op [1, 3, 8, 9, 10, 14, 15]) (one (turnsB op)) := by
 unfold U141.f
 refine Ev.bind (implHasK [1, 3, 8, 9, 10, 14, 15] op (by decide)) (Ev.cst ?_)
 have : decide (op ∈ [1, 3, 8, 9, 10, 14, 15]) = turnsB op := by
  rw [Bool.eq_iff_iff]
  simp only [turnsB, inB, Bool.or_eq_true, Bool.and_eq_true, decide_eq_true_eq, List.mem_cons, List.not_mem_nil, or_false]
  omega
 show some (one (decide (op ∈ [1, 3, 8, 9, 10, 14, 15]))) = _
 rw [this]
def swapI (i : tInstD) : tInstD := (i.1, i.2.1, i.2.2.2.1, i.2.2.1, i.2.2.2.2.1, i.2.2.2.2.2.1, i.2.2.2.2.2.2.1, ())
def keyI (i : tInstD) : tInstD := bif turnsB i.1 && decide (i.2.2.2.1 < i.2.2.1) then swapI i else i
theorem Txt.swap {i : tInstD} (h : Txt i) (ht : turnsB i.1 = true) : Txt (swapI i) := by
 have h17 : inB 1 17 i.1 = true := by
  simp only [turnsB, inB, Bool.or_eq_true, Bool.and_eq_true, decide_eq_true_eq] at ht ⊢
  omega
 have e1 : opsB i = [i.2.2.1, i.2.2.2.1] := by unfold opsB; rw [h17]; rfl
 have e2 : opsB (swapI i) = [i.2.2.2.1, i.2.2.1] := by
  have : inB 1 17 (swapI i).1 = true := h17
  unfold opsB; rw [this]; rfl
 refine ⟨h.op1, h.op2, h.w, h.m, h.al, by rw [e2]; simp, fun n hn => h.o n ?_⟩
 rw [e2] at hn
 rw [e1]
 simp only [List.mem_cons, List.not_mem_nil, or_false] at hn ⊢
 exact hn.symm
theorem Txt.key {i : tInstD} (h : Txt i) : Txt (keyI i) := by
 unfold keyI
 cases ht : turnsB i.1 with
 | false => exact h
 | true =>
  cases decide (i.2.2.2.1 < i.2.2.1) with
  | false => exact h
  | true => exact h.swap ht
abbrev KR := (((ByteArray × Unit) × (Bool × Unit) × Unit) × Unit)
abbrev kR (s : ByteArray) (b : Bool) : KR := (((s, ()), (b, ()), ()), ())
section
variable {f : tFuncD}
def instK (f : tFuncD) (id : Int) : tInstD × Bool := if 0 ≤ id ∧ id < cntB f then instP f id else (tInstZ, false)
def instKQ (f : tFuncD) (id : Int) : InstR := (((instK f id).1, ((instK f id).2, ()), ()), ())
theorem placeL_outK : ∀ (l : List tBlockD) (b : Nat) (id : Int), sumB wB l ≤ id → placeL l b id = (-2, 0)
 | [], _, _, _ => rfl
 | x :: l, b, id, h => by
  have hn := sumB_nonneg (w := wB) (l := l) fun y _ => wB_nonneg y
  simp only [sumB] at h
  unfold placeL
  rw [if_neg (by omega)]
  exact placeL_outK l (b + 1) (id - wB x) (by omega)
theorem specPlace_lK {funcs : Int} (hf : Fm funcs f) : ∀ (d i : Nat) (id : Int), i + d = f.2.2.1.length → 0 ≤ id → id ≤ 9223372036854775807 → Ev (fun k => U36.l0 k id i f) (two (placeL (f.2.2.1.drop i) i id)) := by
 intro d
 induction d with
 | zero =>
  intro i id hi h0 h1
  obtain rfl : i = f.2.2.1.length := by omega
  rw [List.drop_length]
  refine Ev.step (g' := fun _ => some (two (-2, 0))) (Ev.cst rfl) fun k => ?_
  show U36.l0_ k (U36.l0 k) id _ f = _
  unfold U36.l0_
  simp only [head_end, cond_false]
 | succ d ih =>
  intro i id hi h0 h1
  have hlt : i < f.2.2.1.length := by omega
  have hb := hf.w60 (List.getElem_mem hlt)
  have hc := wB_nonneg f.2.2.1[i]
  have h10 := hf.b10
  rw [List.drop_eq_getElem_cons hlt]
  refine Ev.succ ?_
  show Ev (fun k => U36.l0_ k (U36.l0 k) id _ f) _
  unfold U36.l0_ placeL
  simp only [head_in hlt, head_0, Bool.and_self, cond_true, get_in hlt, blk_wrap hb, wrap_nat (show i < 9223372036854775807 by omega)]
  by_cases c : id < wB f.2.2.1[i]
  ·rw [if_pos c]
   exact Ev.dp c (Ev.cst rfl)
  ·rw [if_neg c]
   refine Ev.dn c ?_
   rw [wrap_id (x := id - wB f.2.2.1[i]) (by omega) (by omega)]
   exact ih (i + 1) _ (by omega) (by omega) (by omega)
theorem specPlaceK {funcs : Int} (hf : Fm funcs f) {id : Int} (hn : ¬ (0 ≤ id ∧ id < cntB f)) (h2 : id ≤ 9223372036854775807) : Ev (fun k => U36.f k f id) (two (-2, 0)) := by
 have hc := cntB_eq f
 have hnn := sumB_nonneg (w := wB) (l := f.2.2.1) fun y _ => wB_nonneg y
 unfold U36.f
 by_cases h0 : id < 0
 ·exact Ev.dp h0 (Ev.cst rfl)
 ·refine Ev.dn h0 (Ev.dn (by omega) ?_)
  rw [wrap_id (by omega) (by omega)]
  have := specPlace_lK hf f.2.2.1.length 0 (id - (f.1.length : Int)) (by omega) (by omega) (by omega)
  rw [List.drop_zero, placeL_outK _ _ _ (by omega)] at this
  exact this
theorem implPlaceK (hs : Small tFunc f) {id : Int} (hn : ¬ (0 ≤ id ∧ id < cntB f)) : Ev (fun k => U109.f k f id) (two (-2, 0)) := by
 obtain ⟨c0, c1⟩ := cntB_le hs
 unfold U109.f
 refine Ev.bind (a := one false) (Ev.bind (implCount hs) (Ev.bind (Ev.all fun k => implIn k _ _ _) (Ev.cst ?_))) (Ev.pos rfl (Ev.cst rfl))
 rw [show IntKind.wrap .i64 ((one (cntB f)).1.1.1 - 1) = cntB f - 1 from wrap_id (by show -9223372036854775808 ≤ cntB f - 1; omega) (by show cntB f - 1 ≤ _; omega)]
 have e : inB 0 (cntB f - 1) id = false := by
  rw [← Bool.not_eq_true]
  intro h
  have := inB_iff.1 h
  exact hn ⟨this.1, by omega⟩
 rw [e]
theorem specInstK {funcs : Int} (hf : Fm funcs f) {id : Int} (h2 : id ≤ 9223372036854775807) : Ev (fun k => U53.f k f id) (instKQ f id) := by
 unfold instKQ instK
 by_cases hv : 0 ≤ id ∧ id < cntB f
 ·rw [if_pos hv]; exact specInstOf hf hv
 ·rw [if_neg hv]
  unfold U53.f
  exact Ev.bind (specPlaceK hf hv h2) (Ev.dp (show (-2 : Int) < 0 by decide) (Ev.cst rfl))
theorem implInstK {funcs : Int} (hs : Small tFunc f) (hf : Fm funcs f) {id : Int} : Ev (fun k => U110.f k f id) (instKQ f id) := by
 unfold instKQ instK
 by_cases hv : 0 ≤ id ∧ id < cntB f
 ·rw [if_pos hv]; exact implInstOf hs hf hv
 ·rw [if_neg hv]
  unfold U110.f
  exact Ev.bind (implPlaceK hs hv) (Ev.dp (show (-2 : Int) < 0 by decide) (Ev.cst rfl))
theorem instK_txt {funcs : Int} (hf : Fm funcs f) (hm : funcs ≤ 3) {id : Int} (h : (instK f id).2 = true) : Txt (instK f id).1 := by
 unfold instK at h ⊢
 by_cases hv : 0 ≤ id ∧ id < cntB f
 ·rw [if_pos hv] at h ⊢
  obtain ⟨x, hx, hi⟩ := instP_in hf hv h
  exact txt_ofN hf.cnt hm (hf.ins x hx _ hi)
 ·rw [if_neg hv] at h
  cases h
def keyQ (f : tFuncD) (id : Int) : Bool := (instK f id).2 && !decide (23 ≤ (instK f id).1.1)
def keyS (f : tFuncD) (id : Int) : ByteArray := bif (instK f id).2 && !decide (23 ≤ (instK f id).1.1) then textI (keyI (instK f id).1) else ByteArray.empty
theorem specKeyL {funcs : Int} (hf : Fm funcs f) (hm : funcs ≤ 3) {id : Int} (h2 : id ≤ 9223372036854775807) : Ev (fun k => U59.f k f id) (kR (keyS f id) (keyQ f id)) := by
 unfold keyS keyQ
 unfold U59.f
 refine Ev.bind (specInstK hf h2) ?_
 cases hi : (instK f id).2 with
 | false => exact Ev.pos (by show (!(instK f id).2) = true; rw [hi]; rfl) (Ev.cst rfl)
 | true =>
  have ht := instK_txt hf hm hi
  have hal : (instK f id).1.2.2.2.2.2.2.1.length ≤ 1048576 := by have := ht.al; omega
  refine Ev.neg (by show (!(instK f id).2) = false; rw [hi]; rfl) ?_
  show Ev (fun k => bif decide (23 ≤ (instK f id).1.1) then _ else _) _
  cases hop : decide (23 ≤ (instK f id).1.1) with
  | true => exact Ev.cst rfl
  | false =>
   refine Ev.bind (a := ((((instK f id).1.1, (instK f id).1.2.1, (instK f id).1.2.2.1, (instK f id).1.2.2.2.1, (instK f id).1.2.2.2.2.1, (instK f id).1.2.2.2.2.2.1, (), ()), ()), ((instK f id).1.2.2.2.2.2.2.1, ()))) (Ev.all fun k => by unfold U50.f; show Option.bind (U24.f k (instK f id).1.2.2.2.2.2.2.1) _ = _; rw [specCopy k hal]; rfl) (Ev.bind (Ev.all fun k => specTurns k _) ?_)
   show Ev (fun k => bif turnsB (instK f id).1.1 then (bif decide ((instK f id).1.2.2.2.1 < (instK f id).1.2.2.1) then _ else _) else _) (kR (textI (keyI (instK f id).1)) true)
   have hk := ht.key
   unfold keyI at hk ⊢
   cases hb : turnsB (instK f id).1.1 with
   | false => exact Ev.bind (specText ht) (Ev.cst rfl)
   | true =>
    cases hlt : decide ((instK f id).1.2.2.2.1 < (instK f id).1.2.2.1) with
    | false => exact Ev.bind (specText ht) (Ev.cst rfl)
    | true => exact Ev.bind (specText (ht.swap hb)) (Ev.cst rfl)
theorem implKTail {i : tInstD} (h : Txt i) : Ev (fun k => Option.bind (U145.f k i) fun r => some (((r.1.1.1, ()), (true, ()), ()), ())) (kR (textI i) true) := Ev.bind (implText h) (Ev.cst rfl)
set_option maxRecDepth 8000 in
theorem implKeyL {funcs : Int} (hs : Small tFunc f) (hf : Fm funcs f) (hm : funcs ≤ 3) {id : Int} : Ev (fun k => U146.f k f id) (kR (keyS f id) (keyQ f id)) := by
 unfold keyS keyQ
 unfold U146.f
 refine Ev.bind (implInstK hs hf) ?_
 cases hi : (instK f id).2 with
 | false => exact Ev.pos (by show (!(instK f id).2) = true; rw [hi]; rfl) (Ev.cst rfl)
 | true =>
  have ht := instK_txt hf hm hi
  refine Ev.neg (by show (!(instK f id).2) = false; rw [hi]; rfl) ?_
  show Ev (fun k => bif decide (23 ≤ (instK f id).1.1) then _ else _) _
  cases hop : decide (23 ≤ (instK f id).1.1) with
  | true => exact Ev.cst rfl
  | false =>
   refine Ev.bind (implTurns (instK f id).1.1) ?_
   show Ev (fun k => bif turnsB (instK f id).1.1 then (bif decide ((instK f id).1.2.2.2.1 < (instK f id).1.2.2.1) then _ else _) else _) (kR (textI (keyI (instK f id).1)) true)
   unfold keyI
   cases hb : turnsB (instK f id).1.1 with
   | false => exact implKTail ht
   | true =>
    cases hlt : decide ((instK f id).1.2.2.2.1 < (instK f id).1.2.2.1) with
    | false => exact implKTail ht
    | true => exact implKTail (ht.swap hb)
end
def resW (op w : Int) : Int := bif !wOk w then 0 else bif decide (14 ≤ op) then 1 else w
def widthI (i : tInstD) : Int := bif inB 1 17 i.1 then resW i.1 i.2.1 else i.2.1
theorem specWidth (k : Nat) (i : tInstD) : U38.f k i = some (one (widthI i)) := by
 unfold U38.f widthI U37.f resW
 simp only [specIn, specW, Option.bind_some]
 cases inB 1 17 i.1 <;> cases wOk i.2.1 <;> cases decide (14 ≤ i.1) <;> rfl
theorem implWidth (k : Nat) {i : tInstD} (h : i.1 = 24 ∨ i.1 = 25 → i.2.1 = 0) : U112.f k i = some (one (widthI i)) := by
 unfold U112.f widthI U111.f resW
 simp only [implBin, implW, Option.bind_some]
 cases hb : inB 1 17 i.1
 ·by_cases h4 : i.1 = 24
  ·rw [dpos h4, h (.inl h4)]; rfl
  ·by_cases h5 : i.1 = 25
   ·rw [dneg h4, dpos h5, h (.inr h5)]; rfl
   ·rw [dneg h4, dneg h5]; rfl
 ·cases wOk i.2.1 <;> cases decide (14 ≤ i.1) <;> rfl
def typeOf (f : tFuncD) (id : Int) : Int :=
 if (placeOf f id).1 = -1 then f.1.getD (placeOf f id).2.toNat 0 else
  if (placeOf f id).2 < ((f.2.2.1.getD (placeOf f id).1.toNat tBlockZ).1.length : Int) then ((f.2.2.1.getD (placeOf f id).1.toNat tBlockZ).1.getD (placeOf f id).2.toNat tPhiZ).1
  else widthI ((f.2.2.1.getD (placeOf f id).1.toNat tBlockZ).2.1.getD ((placeOf f id).2 - ((f.2.2.1.getD (placeOf f id).1.toNat tBlockZ).1.length : Int)).toNat tInstZ)
section
variable {funcs : Int} {f : tFuncD}
theorem instB_void {count funcs : Int} {i : tInstD} (h : instB count funcs i = true) : (i.1 = 24 ∨ i.1 = 25 → i.2.1 = 0) := by
 intro ho
 simp only [instB, Bool.and_eq_true, widB] at h
 have h1 := h.1.2
 have : (decide (i.1 = 24) || decide (i.1 = 25)) = true := by simpa using ho
 rw [this] at h1
 simpa using h1
theorem specType (hf : Fm funcs f) {id : Int} (h0 : 0 ≤ id) (h1 : id < cntB f) : Ev (fun k => U39.f k f id) (one (typeOf f id)) := by
 have h10 := hf.b10
 unfold U39.f typeOf
 refine Ev.bind (specPlace hf h0 h1) ?_
 rcases place_cases id h0 h1 with ⟨hl, hp⟩ | ⟨hl, j, hj, hp, ha, hb⟩
 ·rw [hp, if_pos rfl]
  exact Ev.dn (show ¬ ((-1 : Int) = -2) by decide) (Ev.dp rfl (Ev.dd h0 hl (Ev.cst rfl)))
 ·rw [hp]
  generalize id - (f.1.length : Int) - sumB wB (f.2.2.1.take j) = at' at ha hb
  have hx := hf.w60 (List.getElem_mem hj)
  have hxl := hf.phis (List.getElem_mem hj)
  rw [if_neg (by show ¬ ((j : Int) = -1); omega)]
  show Ev (fun k => bif decide ((j : Int) = -2) then _ else _) _
  refine Ev.dn (by omega) (Ev.dn (by show ¬ ((j : Int) = -1); omega) (Ev.dd (show 0 ≤ (j : Int) by omega) (show (j : Int) < (f.2.2.1.length : Int) by omega) ?_))
  show Ev (fun k => bif decide (at' < ((List.length (f.2.2.1.getD (Int.toNat (j : Int)) tBlockZ).1 : Nat) : Int)) then _ else _) _
  rw [get_in hj]
  unfold wB at hb hx
  by_cases c : at' < ((List.length f.2.2.1[j].1 : Nat) : Int)
  ·rw [if_pos c]
   exact Ev.dp c (Ev.dd ha c (Ev.cst rfl))
  ·rw [if_neg c]
   refine Ev.dn c ?_
   have hw : IntKind.wrap .i64 (at' - ((List.length f.2.2.1[j].1 : Nat) : Int)) = at' - ((List.length f.2.2.1[j].1 : Nat) : Int) := wrap_id (by omega) (by omega)
   show Ev (fun k => bif decide (0 ≤ IntKind.wrap .i64 (at' - ((List.length f.2.2.1[j].1 : Nat) : Int))) && decide (IntKind.wrap .i64 (at' - ((List.length f.2.2.1[j].1 : Nat) : Int)) < ((List.length f.2.2.1[j].2.1 : Nat) : Int)) then Option.bind (U38.f k (f.2.2.1[j].2.1.getD (Int.toNat (IntKind.wrap .i64 (at' - ((List.length f.2.2.1[j].1 : Nat) : Int)))) tInstZ)) _ else none) _
   rw [hw]
   exact Ev.dd (by omega) (by omega) (Ev.bind (Ev.all fun k => specWidth k _) (Ev.cst rfl))
theorem implType (hs : Small tFunc f) (hf : Fm funcs f) {id : Int} (h0 : 0 ≤ id) (h1 : id < cntB f) : Ev (fun k => U113.f k f id) (one (typeOf f id)) := by
 have h10 := hf.b10
 unfold U113.f typeOf
 refine Ev.bind (implPlace hs hf h0 h1) ?_
 have hpl := implPlace hs hf h0 h1
 rcases place_cases id h0 h1 with ⟨hl, hp⟩ | ⟨hl, j, hj, hp, ha, hb⟩
 ·rw [hp, if_pos rfl]
  exact Ev.dn (show ¬ ((-1 : Int) = -2) by decide) (Ev.dp rfl (Ev.dd h0 hl (Ev.cst rfl)))
 ·rw [hp] at hpl ⊢
  generalize id - (f.1.length : Int) - sumB wB (f.2.2.1.take j) = at' at ha hb hpl
  have hx := hf.w60 (List.getElem_mem hj)
  have hxl := hf.phis (List.getElem_mem hj)
  rw [if_neg (by show ¬ ((j : Int) = -1); omega)]
  show Ev (fun k => bif decide ((j : Int) = -2) then _ else _) _
  refine Ev.dn (by omega) (Ev.dn (by show ¬ ((j : Int) = -1); omega) (Ev.dd (show 0 ≤ (j : Int) by omega) (show (j : Int) < (f.2.2.1.length : Int) by omega) ?_))
  show Ev (fun k => bif decide (at' < ((List.length (f.2.2.1.getD (Int.toNat (j : Int)) tBlockZ).1 : Nat) : Int)) then _ else _) _
  rw [get_in hj]
  unfold wB at hb hx
  by_cases c : at' < ((List.length f.2.2.1[j].1 : Nat) : Int)
  ·rw [if_pos c]
   exact Ev.dp c (Ev.dd (show 0 ≤ (j : Int) by omega) (show (j : Int) < (f.2.2.1.length : Int) by omega) (Ev.dd ha c (Ev.cst rfl)))
  ·rw [if_neg c]
   refine Ev.dn c ?_
   have hw : IntKind.wrap .i64 (at' - ((List.length f.2.2.1[j].1 : Nat) : Int)) = at' - ((List.length f.2.2.1[j].1 : Nat) : Int) := wrap_id (by omega) (by omega)
   have hlt : (at' - ((List.length f.2.2.1[j].1 : Nat) : Int)).toNat < f.2.2.1[j].2.1.length := by omega
   have hi : Ev (fun k => U110.f k f id) (((f.2.2.1[j].2.1.getD (at' - ((List.length f.2.2.1[j].1 : Nat) : Int)).toNat tInstZ, (true, ()), ()), ())) := by
    unfold U110.f
    refine Ev.bind hpl (Ev.dn (show ¬ ((j : Int) < 0) by omega) (Ev.dd (show 0 ≤ (j : Int) by omega) (show (j : Int) < (f.2.2.1.length : Int) by omega) ?_))
    show Ev (fun k => bif decide (at' < ((List.length (f.2.2.1.getD (Int.toNat (j : Int)) tBlockZ).1 : Nat) : Int)) then _ else (bif decide (0 ≤ (j : Int)) && decide ((j : Int) < (f.2.2.1.length : Int)) then (bif decide (0 ≤ (j : Int)) && decide ((j : Int) < (f.2.2.1.length : Int)) then (bif decide (0 ≤ IntKind.wrap .i64 (at' - ((List.length (f.2.2.1.getD (Int.toNat (j : Int)) tBlockZ).1 : Nat) : Int))) && decide (IntKind.wrap .i64 (at' - ((List.length (f.2.2.1.getD (Int.toNat (j : Int)) tBlockZ).1 : Nat) : Int)) < ((List.length (f.2.2.1.getD (Int.toNat (j : Int)) tBlockZ).2.1 : Nat) : Int)) then some ((((f.2.2.1.getD (Int.toNat (j : Int)) tBlockZ).2.1.getD (Int.toNat (IntKind.wrap .i64 (at' - ((List.length (f.2.2.1.getD (Int.toNat (j : Int)) tBlockZ).1 : Nat) : Int)))) tInstZ, (true, ()), ()), ())) else none) else none) else none)) _
    rw [get_in hj, hw]
    exact Ev.dn c (Ev.dd (by omega) (by omega) (Ev.dd (by omega) (by omega) (Ev.dd (by omega) (by omega) (Ev.cst rfl))))
   refine Ev.bind hi (Ev.bind (Ev.all fun k => implWidth k (i := f.2.2.1[j].2.1.getD (at' - ((List.length f.2.2.1[j].1 : Nat) : Int)).toNat tInstZ) ?_) (Ev.cst rfl))
   rw [getD_at _ _ _ hlt]
   exact instB_void (hf.ins _ (List.getElem_mem hj) _ (List.getElem_mem hlt))
theorem wOk_pos {w : Int} (h : wOk w = true) : 0 < w := by rcases wOk_cases h with rfl | rfl | rfl | rfl <;> decide
theorem typeOf_nonneg (hf : Fm funcs f) {id : Int} (h0 : 0 ≤ id) (h1 : id < cntB f) : 0 ≤ typeOf f id := by
 unfold typeOf
 rcases place_cases id h0 h1 with ⟨hl, hp⟩ | ⟨hl, j, hj, hp, ha, hb⟩
 ·rw [hp, if_pos rfl]
  show 0 ≤ f.1.getD id.toNat 0
  rw [getD_at _ _ _ (by omega)]
  exact Int.le_of_lt (wOk_pos (hf.pw _ (List.getElem_mem _)))
 ·rw [hp]
  generalize id - (f.1.length : Int) - sumB wB (f.2.2.1.take j) = at' at ha hb
  rw [if_neg (by show ¬ ((j : Int) = -1); omega)]
  show 0 ≤ if at' < ((List.length (f.2.2.1.getD (Int.toNat (j : Int)) tBlockZ).1 : Nat) : Int) then ((f.2.2.1.getD (Int.toNat (j : Int)) tBlockZ).1.getD at'.toNat tPhiZ).1 else widthI ((f.2.2.1.getD (Int.toNat (j : Int)) tBlockZ).2.1.getD (at' - ((List.length (f.2.2.1.getD (Int.toNat (j : Int)) tBlockZ).1 : Nat) : Int)).toNat tInstZ)
  rw [get_in hj]
  unfold wB at hb
  split
  ·rename_i c
   rw [getD_at _ _ _ (by omega)]
   have := hf.ph _ (List.getElem_mem hj) _ (List.getElem_mem (show at'.toNat < f.2.2.1[j].1.length by omega))
   simp only [phiB, Bool.and_eq_true] at this
   exact Int.le_of_lt (wOk_pos this.1.1)
  ·rename_i c
   rw [getD_at _ _ _ (by omega)]
   have := hf.ins _ (List.getElem_mem hj) _ (List.getElem_mem (show (at' - ((List.length f.2.2.1[j].1 : Nat) : Int)).toNat < f.2.2.1[j].2.1.length by omega))
   simp only [instB, Bool.and_eq_true, widB] at this
   have hw := this.1.2
   generalize f.2.2.1[j].2.1[(at' - ((List.length f.2.2.1[j].1 : Nat) : Int)).toNat] = i at hw
   have h0 : 0 ≤ i.2.1 := by
    cases h1 : (decide (i.1 = 24) || decide (i.1 = 25)) <;> cases h2 : decide (i.1 = 23) <;> simp only [h1, h2, cond_true, cond_false, decide_eq_true_eq] at hw
    ·exact Int.le_of_lt (wOk_pos hw)
    ·omega
    ·omega
    ·omega
   unfold widthI resW
   cases inB 1 17 i.1 <;> cases wOk i.2.1 <;> cases decide (14 ≤ i.1) <;> simp [h0]
end
/-- The places that are marked, from i on. -/
def idx : List Bool → Int → List Int
 | [], _ => []
 | x :: l, i => if x = true then i :: idx l (i + 1) else idx l (i + 1)
theorem idx_ge : ∀ (l : List Bool) (i n : Int), n ∈ idx l i → i ≤ n
 | [], i, n, h => by simp [idx] at h
 | x :: l, i, n, h => by
  simp only [idx] at h
  split at h
  ·rcases List.mem_cons.1 h with rfl | h
   ·omega
   ·have := idx_ge l (i + 1) n h; omega
  ·have := idx_ge l (i + 1) n h; omega
theorem mem_idx : ∀ (l : List Bool) (i : Int) (b : Nat), (i + b) ∈ idx l i ↔ l.getD b false = true
 | [], i, b => by simp [idx]
 | x :: l, i, 0 => by
  simp only [idx]
  have hn : ¬ (i ∈ idx l (i + 1)) := fun h => by have := idx_ge _ _ _ h; omega
  by_cases hx : x = true
  ·simp [hx]
  ·rw [if_neg hx]
   simp only [Int.natCast_zero, Int.add_zero, List.getD_cons_zero]
   exact ⟨fun h => absurd h hn, fun h => absurd h hx⟩
 | x :: l, i, b + 1 => by
  have ih := mem_idx l (i + 1) b
  rw [show i + 1 + (b : Int) = i + ((b + 1 : Nat) : Int) by push_cast; omega] at ih
  simp only [idx, List.getD_cons_succ]
  split
  ·rw [List.mem_cons, ih]
   exact ⟨fun h => h.elim (fun h => by exfalso; push_cast at h; omega) id, .inr⟩
  ·exact ih
theorem mem_idx0 (l : List Bool) (b : Int) (h : 0 ≤ b) : b ∈ idx l 0 ↔ l.getD b.toNat false = true := by
 have := mem_idx l 0 b.toNat
 rw [show (0 : Int) + (b.toNat : Int) = b by omega] at this
 exact this
theorem idx_length : ∀ (l : List Bool) (i : Int), (idx l i).length ≤ l.length
 | [], i => by simp [idx]
 | x :: l, i => by
  have := idx_length l (i + 1)
  simp only [idx]
  split <;> simp <;> omega
/-- A number put into a list of numbers that rise. -/
def putI (n : Int) : List Int → List Int
 | [] => [n]
 | x :: l => if x < n then x :: putI n l else n :: x :: l
theorem putI_ge (n : Int) : ∀ (l : List Int), (∀ x ∈ l, n ≤ x) → putI n l = n :: l
 | [], _ => rfl
 | x :: l, h => by simp only [putI]; rw [if_neg (by have := h x (by simp); omega)]
theorem idx_set : ∀ (l : List Bool) (i : Int) (b : Nat), b < l.length → l.getD b false = false → idx (l.set b true) i = putI (i + b) (idx l i)
 | [], i, b, h, _ => by simp at h
 | x :: l, i, 0, h, hx => by
  simp only [List.getD_cons_zero] at hx
  subst hx
  simp only [List.set_cons_zero, idx, if_true, Int.natCast_zero, Int.add_zero]
  rw [if_neg (by decide), putI_ge]
  intro y hy
  have := idx_ge _ _ _ hy; omega
 | x :: l, i, b + 1, h, hx => by
  have ih := idx_set l (i + 1) b (by simpa using h) (by simpa using hx)
  rw [show i + 1 + (b : Int) = i + ((b + 1 : Nat) : Int) by push_cast; omega] at ih
  simp only [List.set_cons_succ, idx, ih]
  split
  ·simp only [putI]; rw [if_pos (by push_cast; omega)]
  ·rfl
def smI (l : List Int) : Prop := l.length ≤ 1048576
theorem smI_small {l : List Int} (h : l.length ≤ 200) : smI l := Nat.le_trans h (by decide)
theorem has_ev (l : List Int) (n : Int) (h : smI l) : Ev (fun k => U33.f k l n) (one (decide (n ∈ l))) := by
 have h' : l.length ≤ 1048576 := h
 refine each_ev (z := 0) (L := fun k a => U33.l0 k l n a) (V := fun m => one (decide (n ∈ m))) (q := fun k x g => bif decide (x = n) then some (((true, ()), ()), ()) else g k) (by omega) (fun k a => rfl) (Ev.cst (by simp)) fun x m g hx hg => ?_
 by_cases c : x = n
 ·exact Ev.dp c (Ev.cst (by simp [c]))
 ·refine Ev.dn c (hg.rw ?_)
  congr 1
  simp [Ne.symm c]
theorem put_l (l : List Int) (n : Int) (h : smI l) (hn : n ∉ l) : ∀ (d i : Nat), i + d = l.length → Ev (fun k => U43.l0 k l n i) (one (l.take i ++ putI n (l.drop i))) := by
 have h' : l.length ≤ 1048576 := h
 intro d
 induction d with
 | zero =>
  intro i hi
  obtain rfl : i = l.length := by omega
  refine Ev.step (g' := fun k => some (one (l ++ [n]))) (Ev.cst ?_) fun k => ?_
  ·rw [List.drop_of_length_le (Nat.le_refl _), List.take_of_length_le (Nat.le_refl _)]; rfl
  ·show U43.l0_ k (U43.l0 k) l n _ = _
   unfold U43.l0_
   simp only [head_end, head_0, cond_false, cond_true, Bool.and_self, Int.toNat_natCast, List.nil_append, List.length_nil, List.take_length, List.drop_length, List.append_nil]
   rw [dpos (show (0 : Nat) ≤ 0 by omega), dpos (show (l.length : Int) ≤ (l.length : Int) by omega), dpos (show (0 + l.length) * 8 ≤ 140737488355328 by omega), dpos (show (l.length + [n].length) * 8 ≤ 140737488355328 by simp; omega), dpos (show ((l ++ [n]).length + 0) * 8 ≤ 140737488355328 by simp; omega)]
   rfl
 | succ d ih =>
  intro i hi
  have hlt : i < l.length := by omega
  have hm : (List.take i l).length = i := by rw [List.length_take]; omega
  by_cases c : l[i] < n
  ·refine (Ev.step (ih (i + 1) (by omega)) fun k => ?_).rw ?_
   ·show U43.l0_ k (U43.l0 k) l n _ = _
    unfold U43.l0_
    simp only [head_in hlt, head_0, Bool.and_self, cond_true, get_in hlt, dpos c, wrap_nat (show i < 9223372036854775807 by omega)]
   ·rw [List.drop_eq_getElem_cons hlt, List.take_succ_eq_append_getElem hlt]
    simp only [putI]
    rw [if_pos c, List.append_assoc]; rfl
  ·have hne : ¬ l[i] = n := fun e => hn (e ▸ List.getElem_mem hlt)
   refine Ev.step (g' := fun k => some (one ((l.take i ++ [n]) ++ l.drop i))) (Ev.cst ?_) fun k => ?_
   ·have e : putI n (l.drop i) = n :: l.drop i := by
     rw [List.drop_eq_getElem_cons hlt]
     simp only [putI]
     rw [if_neg c]
    rw [e, List.append_assoc]; rfl
   ·show U43.l0_ k (U43.l0 k) l n _ = _
    unfold U43.l0_
    simp only [head_in hlt, head_0, Bool.and_self, cond_true, cond_false, get_in hlt, dneg c, dneg hne]
    simp only [Int.toNat_natCast, List.nil_append, List.length_nil, hm]
    rw [dpos (show (0 : Nat) ≤ 0 by omega), dpos (show (i : Int) ≤ (l.length : Int) by omega), dpos (show (0 + i) * 8 ≤ 140737488355328 by omega), dpos (show (i + [n].length) * 8 ≤ 140737488355328 by simp; omega), dpos (show ((l.take i ++ [n]).length + (l.drop i).length) * 8 ≤ 140737488355328 by simp; omega)]
    rfl
theorem put_ev (l : List Int) (n : Int) (h : smI l) (hn : n ∉ l) : Ev (fun k => U43.f k l n) (one (putI n l)) := by
 have := put_l l n h hn l.length 0 (by omega)
 rw [List.drop_zero, List.take_zero, List.nil_append] at this
 exact this
/-- Where an end leads. -/
def succsT (t : tTermD) : List Int := bif decide (t.1 = 2) then [t.2.2.1] else bif decide (t.1 = 3) then [t.2.2.1, t.2.2.2.1] else []
def succsOf (b : tBlockD) : List Int := succsT b.2.2
theorem succsT_len (t : tTermD) : (succsT t).length ≤ 2 := by
 unfold succsT
 cases decide (t.1 = 2) <;> cases decide (t.1 = 3) <;> simp
theorem succsOf_len (b : tBlockD) : (succsOf b).length ≤ 2 := succsT_len _
/-- All ends lead to blocks, of which there are at most ten. -/
def There (l : List tBlockD) : Prop := l.length ≤ 10 ∧ ∀ b ∈ l, ∀ s ∈ succsOf b, 0 ≤ s ∧ s < l.length
def bfs (l : List tBlockD) (w : Int) : Nat → List Int → List Bool → List Bool
 | 0, _, out => out
 | _ + 1, [], out => out
 | n + 1, b :: q, out => if b = w ∨ out.getD b.toNat false = true then bfs l w n q out else bfs l w n (q ++ succsOf (l.getD b.toNat tBlockZ)) (out.set b.toNat true)
theorem bfs_length (l : List tBlockD) (w : Int) : ∀ (n : Nat) (q : List Int) (out : List Bool), (bfs l w n q out).length = out.length
 | 0, _, _ => rfl
 | _ + 1, [], _ => rfl
 | n + 1, b :: q, out => by
  simp only [bfs]
  split
  ·exact bfs_length l w n q out
  ·rw [bfs_length l w n _ _]; simp
/-- How many are not marked. -/
def off (out : List Bool) : Nat := out.count false
theorem off_set : ∀ (out : List Bool) (b : Nat), b < out.length → out.getD b false = false → off (out.set b true) + 1 = off out
 | [], b, h, _ => by simp at h
 | x :: l, 0, h, hx => by
  simp only [List.getD_cons_zero] at hx
  subst hx
  simp [off]
 | x :: l, b + 1, h, hx => by
  have ih := off_set l b (by simpa using h) (by simpa using hx)
  unfold off at ih ⊢
  simp only [List.set_cons_succ, List.count_cons]
  omega
/-- What may stand in the queue. -/
def okq (l : List tBlockD) (q : List Int) : Prop := ∀ b ∈ q, 0 ≤ b ∧ b < (l.length : Int)
theorem okq_next {l : List tBlockD} {b : Int} {q : List Int} (h : There l) (hq : okq l (b :: q)) : okq l (q ++ succsOf (l.getD b.toNat tBlockZ)) := by
 obtain ⟨h0, h1⟩ := hq b (by simp)
 have hlt : b.toNat < l.length := by omega
 intro c hc
 rcases List.mem_append.1 hc with hc | hc
 ·exact hq c (by simp [hc])
 ·rw [getD_at l _ _ hlt] at hc
  exact h.2 _ (List.getElem_mem hlt) c hc
/-- The blocks that are reached without w. -/
def reachB (l : List tBlockD) (w : Int) : List Bool := bfs l w (3 * l.length + 1) [0] (List.replicate l.length false)
theorem reachB_length (l : List tBlockD) (w : Int) : (reachB l w).length = l.length := by unfold reachB; rw [bfs_length]; simp
theorem off_replicate (n : Nat) : off (List.replicate n false) = n := by unfold off; simp
theorem idx_replicate : ∀ (n : Nat) (i : Int), idx (List.replicate n false) i = []
 | 0, _ => rfl
 | n + 1, i => by simp only [List.replicate_succ, idx]; rw [if_neg (by decide)]; exact idx_replicate n (i + 1)
def domB (l : List tBlockD) (a b : Int) : Bool := (reachB l (-1)).getD b.toNat false && !((reachB l a).getD b.toNat false)
theorem implLeads (k : Nat) (t : tTermD) : U99.f k t = some (rowR (succsT t)) := by
 unfold U99.f succsT
 cases decide (t.1 = 2) <;> cases decide (t.1 = 3) <;> rfl
theorem specSuccs (k : Nat) (f : tFuncD) (x : Int) (h0 : 0 ≤ x) (h1 : x < (f.2.2.1.length : Int)) : U32.f k f x = some (rowR (succsOf (f.2.2.1.getD x.toNat tBlockZ))) := by
 unfold U32.f succsOf succsT
 rw [dpos h0, dpos h1]
 generalize f.2.2.1.getD x.toNat tBlockZ = b
 cases decide (b.2.2.1 = 2) <;> cases decide (b.2.2.1 = 3) <;> rfl
theorem okq_tail {l : List tBlockD} {b : Int} {q : List Int} (hq : okq l (b :: q)) : okq l q := fun c hc => hq c (by simp [hc])
theorem implReach_l (f : tFuncD) (w : Int) (ht : There f.2.2.1) : ∀ (n : Nat) (q : List Int) (out : List Bool), n ≤ 100 → okq f.2.2.1 q → out.length = f.2.2.1.length → q.length + 3 * off out ≤ n → Ev (fun k => U127.l0 k w f out q) (rowR (bfs f.2.2.1 w n q out))
 | 0, [], out, _, _, _, _ => Ev.step (g' := fun _ => some (rowR out)) (Ev.cst rfl) fun k => rfl
 | 0, b :: q, out, _, _, _, hm => by simp at hm
 | n + 1, [], out, _, _, _, _ => Ev.step (g' := fun _ => some (rowR out)) (Ev.cst rfl) fun k => rfl
 | n + 1, b :: q, out, hn, hq, ho, hm => by
  obtain ⟨h0, h1⟩ := hq b (by simp)
  simp only [List.length_cons] at hm
  refine Ev.succ ?_
  show Ev (fun k => U127.l0_ k (U127.l0 k) w f out (b :: q)) _
  unfold U127.l0_
  refine Ev.dp (show (0 : Int) < (((b :: q).length : Nat) : Int) by simp only [List.length_cons]; omega) (Ev.dd (show (0 : Nat) ≤ 0 by omega) (show (0 : Int) < (((b :: q).length : Nat) : Int) by simp only [List.length_cons]; omega) (Ev.dd (show (0 : Nat) ≤ 1 by omega) (show (1 : Int) ≤ (((b :: q).length : Nat) : Int) by simp only [List.length_cons]; omega) ?_))
  show Ev (fun k => bif decide (b = w) then U127.l0 k w f out q else _) _
  by_cases hb : b = w
  ·refine Ev.dp hb ((implReach_l f w ht n q out (by omega) (okq_tail hq) ho (by omega)).rw ?_)
   simp only [bfs]; rw [if_pos (Or.inl hb)]
  ·refine Ev.dn hb (Ev.dd h0 (show b < ((out.length : Nat) : Int) by omega) ?_)
   by_cases hv : out.getD b.toNat false = true
   ·refine Ev.pos hv ((implReach_l f w ht n q out (by omega) (okq_tail hq) ho (by omega)).rw ?_)
    simp only [bfs]; rw [if_pos (Or.inr hv)]
   ·have hf : out.getD b.toNat false = false := by simpa using hv
    have hs := succsOf_len (f.2.2.1.getD b.toNat tBlockZ)
    have hd := off_set out b.toNat (by omega) hf
    refine Ev.neg hf (Ev.dd h0 (show b < ((out.length : Nat) : Int) by omega) (Ev.dd h0 h1 (Ev.bind (Ev.all fun k => implLeads k _) (Ev.dp (show (q.length + (succsOf (f.2.2.1.getD b.toNat tBlockZ)).length) * 8 ≤ 140737488355328 by omega) ?_))))
    refine (implReach_l f w ht n (q ++ succsOf (f.2.2.1.getD b.toNat tBlockZ)) (out.set b.toNat true) (by omega) (okq_next ht hq) (by simpa using ho) (by rw [List.length_append]; omega)).rw ?_
    simp only [bfs]; rw [if_neg (fun h => h.elim hb hv)]
theorem specReach_l (f : tFuncD) (w : Int) (ht : There f.2.2.1) : ∀ (n : Nat) (q : List Int) (out : List Bool), n ≤ 100 → okq f.2.2.1 q → out.length = f.2.2.1.length → q.length + 3 * off out ≤ n → Ev (fun k => U44.l0 k w (idx out 0) f q) (one (idx (bfs f.2.2.1 w n q out) 0))
 | 0, [], out, _, _, _, _ => Ev.step (g' := fun _ => some (one (idx out 0))) (Ev.cst rfl) fun k => rfl
 | 0, b :: q, out, _, _, _, hm => by simp at hm
 | n + 1, [], out, _, _, _, _ => Ev.step (g' := fun _ => some (one (idx out 0))) (Ev.cst rfl) fun k => rfl
 | n + 1, b :: q, out, hn, hq, ho, hm => by
  obtain ⟨h0, h1⟩ := hq b (by simp)
  simp only [List.length_cons] at hm
  have ht10 := ht.1
  have hi : smI (idx out 0) := smI_small (by have := idx_length out 0; omega)
  refine Ev.succ ?_
  show Ev (fun k => U44.l0_ k (U44.l0 k) w (idx out 0) f (b :: q)) _
  unfold U44.l0_
  refine Ev.dp (show (0 : Int) < (((b :: q).length : Nat) : Int) by simp only [List.length_cons]; omega) (Ev.dd (show (0 : Nat) ≤ 0 by omega) (show (0 : Int) < (((b :: q).length : Nat) : Int) by simp only [List.length_cons]; omega) (Ev.dd (show (0 : Nat) ≤ 1 by omega) (show (1 : Int) ≤ (((b :: q).length : Nat) : Int) by simp only [List.length_cons]; omega) (Ev.bind (Ev.all fun k => specCopy k (l := q) (by omega)) ?_)))
  show Ev (fun k => bif decide (b = w) then U44.l0 k w (idx out 0) f q else _) _
  by_cases hb : b = w
  ·refine Ev.dp hb ((specReach_l f w ht n q out (by omega) (okq_tail hq) ho (by omega)).rw ?_)
   simp only [bfs]; rw [if_pos (Or.inl hb)]
  ·refine Ev.dn hb (Ev.bind (has_ev _ b hi) ?_)
   by_cases hv : out.getD b.toNat false = true
   ·refine Ev.dp ((mem_idx0 out b h0).2 hv) ((specReach_l f w ht n q out (by omega) (okq_tail hq) ho (by omega)).rw ?_)
    simp only [bfs]; rw [if_pos (Or.inr hv)]
   ·have hf : out.getD b.toNat false = false := by simpa using hv
    have hs := succsOf_len (f.2.2.1.getD b.toNat tBlockZ)
    have hd := off_set out b.toNat (by omega) hf
    have hni : b ∉ idx out 0 := fun h => hv ((mem_idx0 out b h0).1 h)
    have hset : idx (out.set b.toNat true) 0 = putI b (idx out 0) := by
     have := idx_set out 0 b.toNat (by omega) hf
     rw [show (0 : Int) + (b.toNat : Int) = b by omega] at this
     exact this
    refine Ev.dn hni (Ev.bind (put_ev _ b hi hni) (Ev.bind (Ev.all fun k => specSuccs k f b h0 h1) (Ev.dp (show (q.length + (succsOf (f.2.2.1.getD b.toNat tBlockZ)).length) * 8 ≤ 140737488355328 by omega) ?_)))
    have := specReach_l f w ht n (q ++ succsOf (f.2.2.1.getD b.toNat tBlockZ)) (out.set b.toNat true) (by omega) (okq_next ht hq) (by simpa using ho) (by rw [List.length_append]; omega)
    rw [hset] at this
    refine this.rw ?_
    simp only [bfs]; rw [if_neg (fun h => h.elim hb hv)]
theorem okq_first {l : List tBlockD} (h : 0 < l.length) : okq l [0] := fun b hb => by
 obtain rfl : b = 0 := by simpa using hb
 omega
theorem implReach_ev (f : tFuncD) (w : Int) (ht : There f.2.2.1) (h : 0 < f.2.2.1.length) : Ev (fun k => U127.f k f w) (rowR (reachB f.2.2.1 w)) := by
 have ht10 := ht.1
 unfold U127.f
 refine Ev.pos (by rw [dpos rfl, dpos (show 0 ≤ (f.2.2.1.length : Int) by omega), dpos (show (f.2.2.1.length : Int) * 1 ≤ 281474976710656 by omega)]; rfl) ?_
 exact implReach_l f w ht (3 * f.2.2.1.length + 1) [0] _ (by omega) (okq_first h) (by simp) (by rw [Int.toNat_natCast, off_replicate]; simp; omega)
theorem specReach_ev (f : tFuncD) (w : Int) (ht : There f.2.2.1) (h : 0 < f.2.2.1.length) : Ev (fun k => U44.f k f w) (one (idx (reachB f.2.2.1 w) 0)) := by
 have ht10 := ht.1
 have hz := idx_replicate f.2.2.1.length 0
 unfold U44.f
 by_cases hw : w = 0
 ·refine Ev.dp hw (Ev.cst ?_)
  subst hw
  unfold reachB
  rw [show 3 * f.2.2.1.length + 1 = (3 * f.2.2.1.length - 1 + 1) + 1 by omega]
  simp only [bfs]
  rw [if_pos (Or.inl trivial), hz]
 ·refine Ev.dn hw ?_
  have := specReach_l f w ht (3 * f.2.2.1.length + 1) [0] (List.replicate f.2.2.1.length false) (by omega) (okq_first h) (by simp) (by rw [off_replicate]; simp; omega)
  rw [hz] at this
  exact this
theorem implDom {f : tFuncD} (ht : There f.2.2.1) (h : 0 < f.2.2.1.length) (a b : Int) (h0 : 0 ≤ b) (h1 : b < (f.2.2.1.length : Int)) : Ev (fun k => U129.f k f a b) (one (domB f.2.2.1 a b)) := by
 unfold U129.f domB
 have hl := reachB_length f.2.2.1 (-1)
 have hl' := reachB_length f.2.2.1 a
 refine Ev.bind (implReach_ev f (-1) ht h) (Ev.dd h0 (show b < ((reachB f.2.2.1 (-1)).length : Int) by omega) ?_)
 by_cases hv : (reachB f.2.2.1 (-1)).getD b.toNat false = true
 ·rw [hv, Bool.true_and]
  exact Ev.pos rfl (Ev.bind (implReach_ev f a ht h) (Ev.dd h0 (show b < ((reachB f.2.2.1 a).length : Int) by omega) (Ev.cst rfl)))
 ·rw [Bool.not_eq_true] at hv
  rw [hv, Bool.false_and]
  exact Ev.neg rfl (Ev.cst rfl)
theorem reach_few {l : List tBlockD} (ht : l.length ≤ 10) (w : Int) : smI (idx (reachB l w) 0) := smI_small (by have := idx_length (reachB l w) 0; rw [reachB_length] at this; omega)
theorem specDom {f : tFuncD} (ht : There f.2.2.1) (h : 0 < f.2.2.1.length) (a b : Int) (h0 : 0 ≤ b) : Ev (fun k => U45.f k f a b) (one (domB f.2.2.1 a b)) := by
 unfold U45.f domB
 refine Ev.bind (specReach_ev f (-1) ht h) (Ev.bind (has_ev _ b (reach_few ht.1 _)) ?_)
 by_cases hv : (reachB f.2.2.1 (-1)).getD b.toNat false = true
 ·rw [hv, Bool.true_and]
  refine Ev.dp ((mem_idx0 _ b h0).2 hv) (Ev.bind (specReach_ev f a ht h) (Ev.bind (has_ev _ b (reach_few ht.1 _)) (Ev.cst ?_)))
  congr 2
  by_cases hv' : (reachB f.2.2.1 a).getD b.toNat false = true
  ·rw [hv', dpos ((mem_idx0 _ b h0).2 hv')]
  ·rw [dneg fun h => hv' ((mem_idx0 _ b h0).1 h)]
   rw [Bool.not_eq_true] at hv'
   rw [hv']
 ·rw [dneg fun h => hv ((mem_idx0 _ b h0).1 h)]
  rw [Bool.not_eq_true] at hv
  rw [hv, Bool.false_and]
  exact Ev.neg rfl (Ev.cst rfl)
def predsL (b : Int) : List tBlockD → Nat → List Int
 | [], _ => []
 | x :: l, i => bif decide (b ∈ succsOf x) then (i : Int) :: predsL b l (i + 1) else predsL b l (i + 1)
theorem predsL_len (b : Int) : ∀ (l : List tBlockD) (i : Nat), (predsL b l i).length ≤ l.length
 | [], i => by simp [predsL]
 | x :: l, i => by
  have := predsL_len b l (i + 1)
  simp only [predsL]
  cases decide (b ∈ succsOf x) <;> simp <;> omega
theorem predsL_in (b : Int) : ∀ (l : List tBlockD) (i : Nat) (p : Int), p ∈ predsL b l i → (i : Int) ≤ p ∧ p < ((i + l.length : Nat) : Int)
 | [], i, p, h => by simp [predsL] at h
 | x :: l, i, p, h => by
  have ih := predsL_in b l (i + 1) p
  simp only [predsL] at h
  simp only [List.length_cons]
  cases hb : decide (b ∈ succsOf x) <;> simp only [hb, cond_true, cond_false] at h
  ·have := ih h; omega
  ·rcases List.mem_cons.1 h with rfl | h
   ·omega
   ·have := ih h; omega
theorem implHas (l : List Int) (n : Int) (h : l.length ≤ 1048576) : Ev (fun k => U101.f k l n) (one (decide (n ∈ l))) := by
 have := index_ev (z := 0) (l := l) (p := fun x => decide (n = x)) (L := fun k b a => U100.l0 k l n b a) (q := fun k x => some (one (decide (n = x)))) (by omega) (fun k b a => rfl) (fun x _ => Ev.cst rfl)
 refine this.rw ?_
 congr 1
 rw [Bool.eq_iff_iff, List.any_eq_true, decide_eq_true_eq]
 constructor
 ·rintro ⟨x, hx, e⟩
  simp only [decide_eq_true_eq] at e
  rw [e]; exact hx
 ·intro hm
  exact ⟨n, hm, by simp⟩
section
variable {funcs : Int} {f : tFuncD}
theorem specPreds_l (h10 : f.2.2.1.length ≤ 10) (b : Int) : ∀ (d i : Nat) (acc : List Int), i + d = f.2.2.1.length → acc.length ≤ i → Ev (fun k => U34.l0 k b i f acc) (rowR (acc ++ predsL b (f.2.2.1.drop i) i)) := by
 intro d
 induction d with
 | zero =>
  intro i acc hi ha
  obtain rfl : i = f.2.2.1.length := by omega
  rw [List.drop_length]
  refine Ev.step (g' := fun _ => some (rowR acc)) (Ev.cst (by simp [predsL])) fun k => ?_
  show U34.l0_ k (U34.l0 k) b _ f acc = _
  unfold U34.l0_
  simp only [head_end, cond_false]
 | succ d ih =>
  intro i acc hi ha
  have hlt : i < f.2.2.1.length := by omega
  rw [List.drop_eq_getElem_cons hlt]
  refine Ev.succ ?_
  show Ev (fun k => U34.l0_ k (U34.l0 k) b _ f acc) _
  unfold U34.l0_ predsL
  simp only [head_in hlt, cond_true, wrap_nat (show i < 9223372036854775807 by omega)]
  refine Ev.bind (Ev.all fun k => specSuccs k f i (by omega) (by omega)) ?_
  rw [get_in hlt]
  refine Ev.bind (has_ev (succsOf f.2.2.1[i]) b (smI_small (by have := succsOf_len f.2.2.1[i]; omega))) ?_
  cases hb : decide (b ∈ succsOf f.2.2.1[i]) with
  | true =>
   refine Ev.pos rfl (Ev.dp (by simp only [List.length_cons, List.length_nil]; omega) ((ih (i + 1) (acc ++ [(i : Int)]) (by omega) (by simp; omega)).rw ?_))
   simp
  | false => exact Ev.neg rfl (ih (i + 1) acc (by omega) (by omega))
theorem specPreds (h10 : f.2.2.1.length ≤ 10) (b : Int) : Ev (fun k => U34.f k f b) (rowR (predsL b f.2.2.1 0)) := by
 have := specPreds_l h10 b f.2.2.1.length 0 [] (by omega) (by simp)
 exact this
theorem implPreds_l (h10 : f.2.2.1.length ≤ 10) (b : Int) : ∀ (d i : Nat) (acc : List Int), i + d = f.2.2.1.length → acc.length ≤ i → Ev (fun k => U102.l0 k b f.2.2.1 ((List.length f.2.2.1 : Nat) : Int) i acc) (rowR (acc ++ predsL b (f.2.2.1.drop i) i)) := by
 intro d
 induction d with
 | zero =>
  intro i acc hi ha
  obtain rfl : i = f.2.2.1.length := by omega
  rw [List.drop_length]
  refine Ev.step (g' := fun _ => some (rowR acc)) (Ev.cst (by simp [predsL])) fun k => ?_
  show U102.l0_ k (U102.l0 k) b _ _ _ acc = _
  unfold U102.l0_
  simp only [head_end, cond_false]
 | succ d ih =>
  intro i acc hi ha
  have hlt : i < f.2.2.1.length := by omega
  rw [List.drop_eq_getElem_cons hlt]
  refine Ev.succ ?_
  show Ev (fun k => U102.l0_ k (U102.l0 k) b _ _ _ acc) _
  unfold U102.l0_ predsL
  simp only [head_in hlt, head_0, Bool.and_self, cond_true, get_in hlt, wrap_nat (show i < 9223372036854775807 by omega)]
  refine Ev.bind (Ev.all fun k => implLeads k _) ?_
  refine Ev.bind (implHas (succsOf f.2.2.1[i]) b (by have := succsOf_len f.2.2.1[i]; omega)) ?_
  cases hb : decide (b ∈ succsOf f.2.2.1[i]) with
  | true =>
   refine Ev.pos rfl (Ev.dp (by simp only [List.length_cons, List.length_nil]; omega) ((ih (i + 1) (acc ++ [(i : Int)]) (by omega) (by simp; omega)).rw ?_))
   simp
  | false => exact Ev.neg rfl (ih (i + 1) acc (by omega) (by omega))
theorem implPreds (h10 : f.2.2.1.length ≤ 10) (b : Int) : Ev (fun k => U102.f k f b) (rowR (predsL b f.2.2.1 0)) := by
 have := implPreds_l h10 b f.2.2.1.length 0 [] (by omega) (by simp)
 exact this
def preds (f : tFuncD) (b : Int) : List Int := predsL b f.2.2.1 0
theorem preds_len (f : tFuncD) (b : Int) : (preds f b).length ≤ f.2.2.1.length := predsL_len b _ 0
def entryB (f : tFuncD) : Bool := decide ((f.2.2.1.getD 0 tBlockZ).1.length = 0) && decide ((preds f 0).length = 0)
def allI {α : Type} (p : Nat → α → Bool) : List α → Nat → Bool
 | [], _ => true
 | x :: l, i => p i x && allI p l (i + 1)
def phiN (f : tFuncD) (i : Nat) (x : tBlockD) : Bool := x.1.all fun p => decide (p.2.1.length = (preds f i).length)
theorem implEntry (h1 : 1 ≤ f.2.2.1.length) (h10 : f.2.2.1.length ≤ 10) : Ev (fun k => U103.f k f) (one (entryB f)) := by
 unfold U103.f entryB
 refine Ev.dd (by omega) (by omega) ?_
 have e : ∀ {α : Type} (l : List α), decide (((List.length l : Nat) : Int) = 0) = decide (l.length = 0) := fun l => by
  by_cases h : l.length = 0
  ·rw [dpos h, dpos (by omega)]
  ·rw [dneg h, dneg (by omega)]
 rw [e]
 exact ev_if fun _ => Ev.bind (implPreds h10 0) (Ev.cst (by rw [e]; rfl))
theorem len_eq {α β : Type} (l : List α) (m : List β) : decide (((List.length l : Nat) : Int) = ((List.length m : Nat) : Int)) = decide (l.length = m.length) := by
 by_cases h : l.length = m.length
 ·rw [dpos h, dpos (by omega)]
 ·rw [dneg h, dneg (by omega)]
theorem implPhiN {l : List tPhiD} (h : l.length ≤ 1048576) (n : List Int) : Ev (fun k => U106.f k l ((List.length n : Nat) : Int)) (one (!l.all fun p => decide (p.2.1.length = n.length))) := by
 rw [← any_not]
 exact index_ev (z := tPhiZ) (L := fun k b a => U105.l0 k l b a ((List.length n : Nat) : Int)) (q := fun k x => U104.f k x ((List.length n : Nat) : Int)) (by omega) (fun k b a => rfl) fun x _ => Ev.all fun k => by
  unfold U104.f
  rw [len_eq]
theorem implArePhis (hs : Small tFunc f) (h10 : f.2.2.1.length ≤ 10) : Ev (fun k => U107.f k f) (one (allI (phiN f) f.2.2.1 0)) := by
 have key := Ev.down (G := fun i k => U107.l0 k f.2.2.1 ((List.length f.2.2.1 : Nat) : Int) (i : Int) f) (V := fun i => one (allI (phiN f) (f.2.2.1.drop i) i)) f.2.2.1.length ?_ ?_ 0 (Nat.zero_le _)
 ·exact key
 ·rw [List.drop_length]
  refine Ev.step (g' := fun _ => some (one true)) (Ev.cst rfl) fun k => ?_
  show U107.l0_ k (U107.l0 k) _ _ _ f = _
  unfold U107.l0_
  simp only [head_end, cond_false]
 ·intro i hi ih
  rw [List.drop_eq_getElem_cons hi]
  refine Ev.succ ?_
  show Ev (fun k => U107.l0_ k (U107.l0 k) _ _ _ f) _
  unfold U107.l0_
  simp only [head_in hi, head_0, Bool.and_self, cond_true, get_in hi, wrap_nat (show i < 9223372036854775807 by omega)]
  refine Ev.bind (implPreds h10 i) (Ev.bind (implPhiN (n := preds f i) (blk_small hs _ (List.getElem_mem hi)).1) ?_)
  have e : allI (phiN f) (f.2.2.1[i] :: f.2.2.1.drop (i + 1)) i = (!(!phiN f i f.2.2.1[i]) && allI (phiN f) (f.2.2.1.drop (i + 1)) (i + 1)) := by rw [Bool.not_not]; rfl
  rw [e]
  exact ev_and' ih
theorem specArePhis (hf : Fm funcs f) : Ev (fun k => U35.f k f) (one (allI (phiN f) f.2.2.1 0)) := by
 have h10 := hf.b10
 have key := Ev.down (G := fun i k => U35.l0 k (i : Int) f) (V := fun i => one (allI (phiN f) (f.2.2.1.drop i) i)) f.2.2.1.length ?_ ?_ 0 (Nat.zero_le _)
 ·exact key
 ·rw [List.drop_length]
  refine Ev.step (g' := fun _ => some (one true)) (Ev.cst rfl) fun k => ?_
  show U35.l0_ k (U35.l0 k) (U35.l1 k) _ f = _
  unfold U35.l0_
  simp only [head_end, cond_false]
 ·intro i hi ih
  have hp := (hf.phis (List.getElem_mem hi)).1
  have inner := Ev.down (G := fun j k => U35.l1 k (i : Int) ((List.length (preds f i) : Nat) : Int) (j : Int) f) (V := fun j => one ((f.2.2.1[i].1.drop j).all (fun p => decide (p.2.1.length = (preds f i).length)) && allI (phiN f) (f.2.2.1.drop (i + 1)) (i + 1))) f.2.2.1[i].1.length ?_ ?_ 0 (Nat.zero_le _)
  ·rw [List.drop_eq_getElem_cons hi]
   refine Ev.succ ?_
   show Ev (fun k => U35.l0_ k (U35.l0 k) (U35.l1 k) _ f) _
   unfold U35.l0_
   simp only [head_in hi, cond_true]
   exact Ev.bind (specPreds h10 i) inner
  ·rw [List.drop_length]
   refine Ev.step ih fun k => ?_
   show U35.l1_ k (U35.l0 k) (U35.l1 k) _ _ _ f = _
   unfold U35.l1_
   simp only [head_in hi, head_0, Bool.and_self, cond_true, get_in hi, head_end, cond_false, wrap_nat (show i < 9223372036854775807 by omega)]
  ·intro j hj ihj
   rw [List.drop_eq_getElem_cons hj, List.all_cons, Bool.and_assoc]
   refine Ev.succ ?_
   show Ev (fun k => U35.l1_ k (U35.l0 k) (U35.l1 k) _ _ _ f) _
   unfold U35.l1_
   simp only [head_in hi, head_0, Bool.and_self, cond_true, get_in hi, head_in hj, get_in hj, wrap_nat (show j < 9223372036854775807 by omega), len_eq]
   exact ev_and ihj
def argsB (f : tFuncD) (i : tInstD) : Bool :=
 bif inB 1 17 i.1 then decide (typeOf f i.2.2.1 = i.2.1) && decide (typeOf f i.2.2.2.1 = i.2.1) else
 bif decide (i.1 = 27) then decide (typeOf f i.2.2.1 = i.2.1) else
 bif decide (i.1 = 18) then decide (0 < typeOf f i.2.2.1) && decide (typeOf f i.2.2.1 < i.2.1) else
 bif decide (i.1 = 19) then decide (0 < typeOf f i.2.2.1) && decide (typeOf f i.2.2.1 < i.2.1) else
 bif decide (i.1 = 20) then decide (i.2.1 < typeOf f i.2.2.1) else
 bif decide (i.1 = 22) then decide (typeOf f i.2.2.1 = 1) && (decide (typeOf f i.2.2.2.1 = i.2.1) && decide (typeOf f i.2.2.2.2.1 = i.2.1)) else
 bif decide (i.1 = 23) then decide (typeOf f i.2.2.1 = 32) else
 bif decide (i.1 = 24) then decide (typeOf f i.2.2.1 = 32) && decide (typeOf f i.2.2.2.1 = 8) else
 bif decide (i.1 = 25) then decide (0 < typeOf f i.2.2.1) else true
structure Vi (f : tFuncD) (i : tInstD) : Prop where
 a : vid f i.2.2.1
 b : inB 1 17 i.1 = true ∨ i.1 = 24 ∨ i.1 = 22 → vid f i.2.2.2.1
 c : i.1 = 22 → vid f i.2.2.2.2.1
theorem Fm.vi (hf : Fm funcs f) {x : tBlockD} (hx : x ∈ f.2.2.1) {i : tInstD} (hi : i ∈ x.2.1) : Vi f i := by
 have hin := hf.ins x hx i hi
 have hc : 0 < cntB f := by
  have h1 := le_sumB (w := wB) (fun y _ => wB_nonneg y) hx
  have h2 : 0 < x.2.1.length := List.length_pos_of_mem hi
  rw [cntB_eq]
  have h3 : 0 < wB x := by unfold wB; omega
  omega
 simp only [instB, Bool.and_eq_true] at hin
 obtain ⟨⟨⟨⟨⟨⟨g1, g2⟩, g3⟩, g4⟩, g5⟩, g6⟩, g7⟩ := hin
 rw [inB_iff] at g1
 unfold opsB at g4
 by_cases h1 : 1 ≤ i.1 ∧ i.1 ≤ 17
 ·rw [inB_iff.2 h1, cond_true] at g4
  simp only [List.all_cons, List.all_nil, Bool.and_true, Bool.and_eq_true] at g4
  exact ⟨vid_of g4.1, fun _ => vid_of g4.2, fun h => by omega⟩
 ·have n1 : inB 1 17 i.1 = false := by rw [← Bool.not_eq_true]; exact fun h => h1 (inB_iff.1 h)
  rw [n1, cond_false] at g4
  by_cases h24 : i.1 = 24
  ·rw [dpos h24, cond_true] at g4
   simp only [List.all_cons, List.all_nil, Bool.and_true, Bool.and_eq_true] at g4
   exact ⟨vid_of g4.1, fun _ => vid_of g4.2, fun h => by omega⟩
  ·rw [dneg h24, cond_false] at g4
   by_cases h22 : i.1 = 22
   ·rw [dpos h22, dneg (show ¬ i.1 = 23 by omega), dneg (show ¬ i.1 = 25 by omega), dneg (show ¬ i.1 = 27 by omega), show inB 18 20 i.1 = false from by rw [← Bool.not_eq_true, inB_iff]; omega] at g4
    simp only [cond_true, cond_false, List.all_cons, List.all_nil, Bool.and_true, Bool.and_eq_true] at g4
    exact ⟨vid_of g4.1, fun _ => vid_of g4.2.1, fun _ => vid_of g4.2.2⟩
   ·refine ⟨?_, fun h => ?_, fun h => (h22 h).elim⟩
    ·by_cases h0 : i.1 = 26 ∨ i.1 = 21
     ·have hz : i.2.2.1 = 0 := by
       have hn : named i = 0 := by
        unfold named opsB
        rcases h0 with h0 | h0
        ·rw [dpos h0]; rfl
        ·rw [n1, h0]; rfl
       unfold zerosB at g5
       rw [hn] at g5
       simp only [List.drop_zero, List.all_cons, Bool.and_eq_true, decide_eq_true_eq] at g5
       exact g5.1
      rw [hz]
      exact ⟨Int.le_refl _, hc⟩
     ·rw [dneg h22] at g4
      by_cases h18 : 18 ≤ i.1 ∧ i.1 ≤ 20
      ·rw [inB_iff.2 h18, cond_true] at g4
       simp only [List.all_cons, List.all_nil, Bool.and_true] at g4
       exact vid_of g4
      ·rw [show inB 18 20 i.1 = false from by rw [← Bool.not_eq_true, inB_iff]; exact h18, cond_false] at g4
       have h3 : i.1 = 23 ∨ i.1 = 25 ∨ i.1 = 27 := by omega
       rcases h3 with h3 | h3 | h3 <;> rw [h3] at g4 <;> simpa [vid_of] using vid_of (f := f) (by simpa using g4)
    ·rcases h with h | h | h
     ·rw [n1] at h; cases h
     ·exact (h24 h).elim
     ·exact (h22 h).elim
end
section
variable {funcs : Int} {f : tFuncD}
theorem specTy (hf : Fm funcs f) {id : Int} (h : vid f id) : Ev (fun k => U39.f k f id) (one (typeOf f id)) := specType hf h.1 h.2
theorem implTy (hs : Small tFunc f) (hf : Fm funcs f) {id : Int} (h : vid f id) : Ev (fun k => U113.f k f id) (one (typeOf f id)) := implType hs hf h.1 h.2
theorem op_cases (i : tInstD) : inB 1 17 i.1 = true ∨ i.1 = 18 ∨ i.1 = 19 ∨ i.1 = 20 ∨ i.1 = 22 ∨ i.1 = 23 ∨ i.1 = 24 ∨ i.1 = 25 ∨ i.1 = 27 ∨ (inB 1 17 i.1 = false ∧ i.1 ≠ 18 ∧ i.1 ≠ 19 ∧ i.1 ≠ 20 ∧ i.1 ≠ 22 ∧ i.1 ≠ 23 ∧ i.1 ≠ 24 ∧ i.1 ≠ 25 ∧ i.1 ≠ 27) := by
 cases inB 1 17 i.1 with
 | true => exact .inl rfl
 | false => right; simp only [ne_eq, true_and]; omega
theorem specArgs (hf : Fm funcs f) {i : tInstD} (v : Vi f i) : Ev (fun k => U40.f k f i) (one (argsB f i)) := by
 unfold U40.f
 refine Ev.bind (specTy hf v.a) (Ev.bind (Ev.all fun k => specIn k _ _ _) ?_)
 rcases op_cases i with h | h | h | h | h | h | h | h | h | h
 ·unfold argsB
  rw [h, cond_true]
  exact Ev.pos rfl (ev_if fun _ => Ev.bind (specTy hf (v.b (.inl h))) (Ev.cst rfl))
 ·have e : argsB f i = (decide (0 < typeOf f i.2.2.1) && decide (typeOf f i.2.2.1 < i.2.1)) := by unfold argsB; rw [h]; rfl
  rw [e, h]
  exact Ev.neg rfl (Ev.dp rfl (ev_if fun _ => Ev.cst rfl))
 ·have e : argsB f i = (decide (0 < typeOf f i.2.2.1) && decide (typeOf f i.2.2.1 < i.2.1)) := by unfold argsB; rw [h]; rfl
  rw [e, h]
  exact Ev.neg rfl (Ev.dn (by decide) (Ev.dp rfl (ev_if fun _ => Ev.cst rfl)))
 ·have e : argsB f i = decide (i.2.1 < typeOf f i.2.2.1) := by unfold argsB; rw [h]; rfl
  rw [e, h]
  exact Ev.neg rfl (Ev.dn (by decide) (Ev.dn (by decide) (Ev.dp rfl (Ev.cst rfl))))
 ·have e : argsB f i = (decide (typeOf f i.2.2.1 = 1) && (decide (typeOf f i.2.2.2.1 = i.2.1) && decide (typeOf f i.2.2.2.2.1 = i.2.1))) := by unfold argsB; rw [h]; rfl
  have vb := v.b (.inr (.inr h))
  have vc := v.c h
  rw [e, h]
  exact Ev.neg rfl (Ev.dn (by decide) (Ev.dn (by decide) (Ev.dn (by decide) (Ev.dp rfl (ev_if fun _ => Ev.bind (specTy hf vb) (ev_if fun _ => Ev.bind (specTy hf vc) (Ev.cst rfl)))))))
 ·have e : argsB f i = decide (typeOf f i.2.2.1 = 32) := by unfold argsB; rw [h]; rfl
  rw [e, h]
  exact Ev.neg rfl (Ev.dn (by decide) (Ev.dn (by decide) (Ev.dn (by decide) (Ev.dn (by decide) (Ev.dp rfl (Ev.cst rfl))))))
 ·have e : argsB f i = (decide (typeOf f i.2.2.1 = 32) && decide (typeOf f i.2.2.2.1 = 8)) := by unfold argsB; rw [h]; rfl
  have vb := v.b (.inr (.inl h))
  rw [e, h]
  exact Ev.neg rfl (Ev.dn (by decide) (Ev.dn (by decide) (Ev.dn (by decide) (Ev.dn (by decide) (Ev.dn (by decide) (Ev.dp rfl (ev_if fun _ => Ev.bind (specTy hf vb) (Ev.cst rfl))))))))
 ·have e : argsB f i = decide (0 < typeOf f i.2.2.1) := by unfold argsB; rw [h]; rfl
  rw [e, h]
  exact Ev.neg rfl (Ev.dn (by decide) (Ev.dn (by decide) (Ev.dn (by decide) (Ev.dn (by decide) (Ev.dn (by decide) (Ev.dn (by decide) (Ev.dp rfl (Ev.cst rfl))))))))
 ·have e : argsB f i = decide (typeOf f i.2.2.1 = i.2.1) := by unfold argsB; rw [h]; rfl
  rw [e, h]
  exact Ev.neg rfl (Ev.dn (by decide) (Ev.dn (by decide) (Ev.dn (by decide) (Ev.dn (by decide) (Ev.dn (by decide) (Ev.dn (by decide) (Ev.dn (by decide) (Ev.dp rfl (Ev.cst rfl)))))))))
 ·obtain ⟨h0, h1, h2, h3, h4, h5, h6, h7, h8⟩ := h
  have e : argsB f i = true := by
   unfold argsB
   rw [h0, dneg h1, dneg h2, dneg h3, dneg h4, dneg h5, dneg h6, dneg h7, dneg h8]; rfl
  rw [e, h0]
  exact Ev.neg rfl (Ev.dn h1 (Ev.dn h2 (Ev.dn h3 (Ev.dn h4 (Ev.dn h5 (Ev.dn h6 (Ev.dn h7 (Ev.dn h8 (Ev.cst rfl)))))))))
theorem implTy1 (hs : Small tFunc f) (hf : Fm funcs f) {id w : Int} (h : vid f id) : Ev (fun k => U117.f k id w f) (one (decide (typeOf f id = w))) := Ev.bind (implTy hs hf h) (Ev.cst rfl)
theorem ne_pos (hf : Fm funcs f) {id : Int} (h : vid f id) : decide (0 < typeOf f id) = !decide (typeOf f id = 0) := by
 have := typeOf_nonneg hf h.1 h.2
 by_cases c : typeOf f id = 0
 ·rw [dpos c, dneg (by omega)]; rfl
 ·rw [dneg c, dpos (by omega)]; rfl
theorem implArgs (hs : Small tFunc f) (hf : Fm funcs f) {i : tInstD} (v : Vi f i) : Ev (fun k => U118.f k f i) (one (argsB f i)) := by
 unfold U118.f
 refine Ev.bind (implTy hs hf v.a) (Ev.bind (Ev.all fun k => implBin k _) ?_)
 rcases op_cases i with h | h | h | h | h | h | h | h | h | h
 ·unfold argsB
  rw [h, cond_true]
  exact Ev.pos rfl (Ev.bind (implTy1 hs hf v.a) (ev_if fun _ => Ev.bind (implTy1 hs hf (v.b (.inl h))) (Ev.cst rfl)))
 ·have e : argsB f i = (decide (0 < typeOf f i.2.2.1) && decide (typeOf f i.2.2.1 < i.2.1)) := by unfold argsB; rw [h]; rfl
  rw [e, h, ne_pos hf v.a]
  exact Ev.neg rfl (Ev.dn (by decide) (Ev.dp rfl (ev_if fun _ => Ev.cst rfl)))
 ·have e : argsB f i = (decide (0 < typeOf f i.2.2.1) && decide (typeOf f i.2.2.1 < i.2.1)) := by unfold argsB; rw [h]; rfl
  rw [e, h, ne_pos hf v.a]
  exact Ev.neg rfl (Ev.dn (by decide) (Ev.dn (by decide) (Ev.dp rfl (ev_if fun _ => Ev.cst rfl))))
 ·have e : argsB f i = decide (i.2.1 < typeOf f i.2.2.1) := by unfold argsB; rw [h]; rfl
  rw [e, h]
  exact Ev.neg rfl (Ev.dn (by decide) (Ev.dn (by decide) (Ev.dn (by decide) (Ev.dp rfl (Ev.cst rfl)))))
 ·have e : argsB f i = (decide (typeOf f i.2.2.1 = 1) && (decide (typeOf f i.2.2.2.1 = i.2.1) && decide (typeOf f i.2.2.2.2.1 = i.2.1))) := by unfold argsB; rw [h]; rfl
  have vb := v.b (.inr (.inr h))
  have vc := v.c h
  rw [e, h]
  exact Ev.neg rfl (Ev.dn (by decide) (Ev.dn (by decide) (Ev.dn (by decide) (Ev.dn (by decide) (Ev.dp rfl (Ev.bind (implTy1 hs hf v.a) (ev_if fun _ => Ev.bind (implTy1 hs hf vb) (ev_if fun _ => Ev.bind (implTy1 hs hf vc) (Ev.cst rfl)))))))))
 ·have e : argsB f i = decide (typeOf f i.2.2.1 = 32) := by unfold argsB; rw [h]; rfl
  rw [e, h]
  exact Ev.neg rfl (Ev.dn (by decide) (Ev.dn (by decide) (Ev.dn (by decide) (Ev.dn (by decide) (Ev.dn (by decide) (Ev.dp rfl (Ev.bind (implTy1 hs hf v.a) (Ev.cst rfl))))))))
 ·have e : argsB f i = (decide (typeOf f i.2.2.1 = 32) && decide (typeOf f i.2.2.2.1 = 8)) := by unfold argsB; rw [h]; rfl
  have vb := v.b (.inr (.inl h))
  rw [e, h]
  exact Ev.neg rfl (Ev.dn (by decide) (Ev.dn (by decide) (Ev.dn (by decide) (Ev.dn (by decide) (Ev.dn (by decide) (Ev.dn (by decide) (Ev.dp rfl (Ev.bind (implTy1 hs hf v.a) (ev_if fun _ => Ev.bind (implTy1 hs hf vb) (Ev.cst rfl))))))))))
 ·have e : argsB f i = decide (0 < typeOf f i.2.2.1) := by unfold argsB; rw [h]; rfl
  rw [e, h, ne_pos hf v.a]
  exact Ev.neg rfl (Ev.dn (by decide) (Ev.dn (by decide) (Ev.dn (by decide) (Ev.dn (by decide) (Ev.dn (by decide) (Ev.dn (by decide) (Ev.dn (by decide) (Ev.dp rfl (Ev.cst rfl)))))))))
 ·have e : argsB f i = decide (typeOf f i.2.2.1 = i.2.1) := by unfold argsB; rw [h]; rfl
  rw [e, h]
  exact Ev.neg rfl (Ev.dp rfl (Ev.bind (implTy1 hs hf v.a) (Ev.cst rfl)))
 ·obtain ⟨h0, h1, h2, h3, h4, h5, h6, h7, h8⟩ := h
  have e : argsB f i = true := by
   unfold argsB
   rw [h0, dneg h1, dneg h2, dneg h3, dneg h4, dneg h5, dneg h6, dneg h7, dneg h8]; rfl
  rw [e, h0]
  exact Ev.neg rfl (Ev.dn h8 (Ev.dn h1 (Ev.dn h2 (Ev.dn h3 (Ev.dn h4 (Ev.dn h5 (Ev.dn h6 (Ev.dn h7 (Ev.cst rfl)))))))))
def endW (f : tFuncD) (t : tTermD) : Bool := !(decide (t.1 = 1) && !decide (typeOf f t.2.1 = f.2.1)) && !(decide (t.1 = 3) && !decide (typeOf f t.2.1 = 1))
def phiW (f : tFuncD) (p : tPhiD) : Bool := p.2.1.all fun id => decide (typeOf f id = p.1)
def blkW (f : tFuncD) (x : tBlockD) : Bool := x.1.all (phiW f) && (x.2.1.all (argsB f) && endW f x.2.2)
/-- The end of a block, whoever tells widths. -/
theorem end_ev {T : Nat → Int → Option IR} {t : tTermD} {r : Bool} {g : Nat → Option BR} (ht : t.1 = 1 ∨ t.1 = 3 → Ev (fun k => T k t.2.1) (one (typeOf f t.2.1))) (hg : Ev g (one r)) :
  Ev (fun k => bif decide (t.1 = 1) then (Option.bind (T k t.2.1) fun r2 => bif !decide (r2.1.1.1 = f.2.1) then some (((false, ()), ()), ()) else bif decide (t.1 = 3) then (Option.bind (T k t.2.1) fun r3 => bif !decide (r3.1.1.1 = 1) then some (((false, ()), ()), ()) else g k) else g k)
   else bif decide (t.1 = 3) then (Option.bind (T k t.2.1) fun r4 => bif !decide (r4.1.1.1 = 1) then some (((false, ()), ()), ()) else g k) else g k) (one (endW f t && r)) := by
 unfold endW
 by_cases h1 : t.1 = 1
 ·rw [dpos h1, dneg (show ¬ t.1 = 3 by omega), Bool.true_and, Bool.not_not, Bool.false_and, Bool.not_false, Bool.and_true]
  exact Ev.pos rfl (Ev.bind (ht (.inl h1)) (ev_and (Ev.neg rfl hg)))
 ·rw [dneg h1, Bool.false_and, Bool.not_false, Bool.true_and]
  refine Ev.neg rfl ?_
  by_cases h3 : t.1 = 3
  ·rw [dpos h3, Bool.true_and, Bool.not_not]
   exact Ev.pos rfl (Ev.bind (ht (.inr h3)) (ev_and hg))
  ·rw [dneg h3, Bool.false_and, Bool.not_false, Bool.true_and]
   exact Ev.neg rfl hg
theorem specTypes (hf : Fm funcs f) : Ev (fun k => U41.f k f) (one (f.2.2.1.all (blkW f))) := by
 have h10 := hf.b10
 have key := Ev.down (G := fun i k => U41.l0 k (i : Int) f) (V := fun i => one ((f.2.2.1.drop i).all (blkW f))) f.2.2.1.length ?_ ?_ 0 (Nat.zero_le _)
 ·exact key
 ·rw [List.drop_length]
  refine Ev.step (g' := fun _ => some (one true)) (Ev.cst rfl) fun k => ?_
  show U41.l0_ k (U41.l0 k) (U41.l1 k) (U41.l2 k) (U41.l3 k) _ f = _
  unfold U41.l0_
  simp only [head_end, cond_false]
 ·intro i hi ih
  have hx := List.getElem_mem hi
  obtain ⟨hp, hq⟩ := hf.phis hx
  rw [List.drop_eq_getElem_cons hi, List.all_cons]
  -- the instructions and the end
  have l3 : Ev (fun k => U41.l3 k (i : Int) 0 f f.2.2.1[i]) (one (f.2.2.1[i].2.1.all (argsB f) && (endW f f.2.2.1[i].2.2 && (f.2.2.1.drop (i + 1)).all (blkW f)))) := by
   refine each_ev (z := tInstZ) (l := f.2.2.1[i].2.1) (L := fun k a => U41.l3 k (i : Int) a f f.2.2.1[i]) (V := fun m => one (m.all (argsB f) && (endW f f.2.2.1[i].2.2 && (f.2.2.1.drop (i + 1)).all (blkW f)))) (q := fun k y g => Option.bind (U40.f k f y) fun r1 => bif !r1.1.1.1 then some (((false, ()), ()), ()) else g k)
    (by omega) (fun k a => rfl) ?_ ?_
   ·rw [List.all_nil, Bool.true_and]
    have := end_ev (T := fun k id => U39.f k f id) (t := f.2.2.1[i].2.2) (g := fun k => U41.l0 k ((i + 1 : Nat) : Int) f) (fun h => specTy hf (hf.vt hx h)) ih
    rw [wrap_nat (show i < 9223372036854775807 by omega)]
    exact this
   ·intro y m g hy hg
    rw [List.all_cons, Bool.and_assoc]
    exact Ev.bind (specArgs hf (hf.vi hx hy)) (ev_and hg)
  have l1 := Ev.down (G := fun j k => U41.l1 k (i : Int) (j : Int) f f.2.2.1[i]) (V := fun j => one ((f.2.2.1[i].1.drop j).all (phiW f) && (f.2.2.1[i].2.1.all (argsB f) && (endW f f.2.2.1[i].2.2 && (f.2.2.1.drop (i + 1)).all (blkW f))))) f.2.2.1[i].1.length ?_ ?_ 0 (Nat.zero_le _)
  ·refine Ev.succ ?_
   show Ev (fun k => U41.l0_ k (U41.l0 k) (U41.l1 k) (U41.l2 k) (U41.l3 k) _ f) _
   unfold U41.l0_
   simp only [head_in hi, head_0, Bool.and_self, cond_true, get_in hi]
   refine Ev.rw (s := one (blkW f f.2.2.1[i] && (f.2.2.1.drop (i + 1)).all (blkW f))) l1 ?_
   unfold blkW
   rw [List.drop_zero, Bool.and_assoc, Bool.and_assoc]
  ·rw [List.drop_length]
   refine Ev.step l3 fun k => ?_
   show U41.l1_ k (U41.l0 k) (U41.l1 k) (U41.l2 k) (U41.l3 k) _ _ f _ = _
   unfold U41.l1_
   simp only [head_end, cond_false]
  ·intro j hj ihj
   have hpm := List.getElem_mem hj
   have hpl : f.2.2.1[i].1[j].2.1.length ≤ 10 := by
    have := hf.ph _ hx _ hpm
    simp only [phiB, Bool.and_eq_true, decide_eq_true_eq] at this
    exact this.1.2
   have l2 := Ev.down (G := fun q k => U41.l2 k (i : Int) (j : Int) (q : Int) f f.2.2.1[i]) (V := fun q => one ((f.2.2.1[i].1[j].2.1.drop q).all (fun id => decide (typeOf f id = f.2.2.1[i].1[j].1)) && ((f.2.2.1[i].1.drop (j + 1)).all (phiW f) && (f.2.2.1[i].2.1.all (argsB f) && (endW f f.2.2.1[i].2.2 && (f.2.2.1.drop (i + 1)).all (blkW f)))))) f.2.2.1[i].1[j].2.1.length ?_ ?_ 0 (Nat.zero_le _)
   ·rw [List.drop_eq_getElem_cons hj, List.all_cons, Bool.and_assoc]
    refine Ev.step l2 fun k => ?_
    show U41.l1_ k (U41.l0 k) (U41.l1 k) (U41.l2 k) (U41.l3 k) _ _ f _ = _
    unfold U41.l1_
    simp only [head_in hj, cond_true]
    rfl
   ·rw [List.drop_length, List.all_nil, Bool.true_and]
    refine Ev.step ihj fun k => ?_
    show U41.l2_ k (U41.l0 k) (U41.l1 k) (U41.l2 k) (U41.l3 k) _ _ _ f _ = _
    unfold U41.l2_
    simp only [head_in hj, head_0, Bool.and_self, cond_true, get_in hj, head_end, cond_false, wrap_nat (show j < 9223372036854775807 by omega)]
   ·intro q hq ihq
    rw [List.drop_eq_getElem_cons hq, List.all_cons, Bool.and_assoc]
    refine Ev.succ ?_
    show Ev (fun k => U41.l2_ k (U41.l0 k) (U41.l1 k) (U41.l2 k) (U41.l3 k) _ _ _ f _) _
    unfold U41.l2_
    simp only [head_in hj, head_0, Bool.and_self, cond_true, get_in hj, head_in hq, get_in hq, wrap_nat (show q < 9223372036854775807 by omega)]
    exact Ev.bind (specTy hf (hf.vp hx hpm (List.getElem_mem hq))) (ev_and ihq)
theorem implPhiW (hs : Small tFunc f) (hf : Fm funcs f) {x : tBlockD} (hx : x ∈ f.2.2.1) {p : tPhiD} (hp : p ∈ x.1) : Ev (fun k => U116.f k p.2.1 f p) (one (!phiW f p)) := by
 have hpl : p.2.1.length ≤ 10 := by
  have := hf.ph _ hx _ hp
  simp only [phiB, Bool.and_eq_true, decide_eq_true_eq] at this
  exact this.1.2
 unfold phiW
 rw [← any_not]
 exact index_ev (z := 0) (L := fun k b a => U115.l0 k p.2.1 b a f p) (q := fun k y => U114.f k y f p) (by omega) (fun k b a => rfl) fun y hy => Ev.bind (implTy hs hf (hf.vp hx hp hy)) (Ev.cst rfl)
theorem implInstW (hs : Small tFunc f) (hf : Fm funcs f) {x : tBlockD} (hx : x ∈ f.2.2.1) : Ev (fun k => U121.f k x.2.1 f) (one (!x.2.1.all (argsB f))) := by
 have := (hf.phis hx).2
 rw [← any_not]
 exact index_ev (z := tInstZ) (L := fun k b a => U120.l0 k x.2.1 b a f) (q := fun k y => U119.f k y f) (by omega) (fun k b a => rfl) fun y hy => Ev.bind (implArgs hs hf (hf.vi hx hy)) (Ev.cst rfl)
theorem implTypes (hs : Small tFunc f) (hf : Fm funcs f) : Ev (fun k => U122.f k f) (one (f.2.2.1.all (blkW f))) := by
 have h10 := hf.b10
 have key := Ev.down (G := fun i k => U122.l0 k f.2.2.1 ((List.length f.2.2.1 : Nat) : Int) (i : Int) f) (V := fun i => one ((f.2.2.1.drop i).all (blkW f))) f.2.2.1.length ?_ ?_ 0 (Nat.zero_le _)
 ·exact key
 ·rw [List.drop_length]
  refine Ev.step (g' := fun _ => some (one true)) (Ev.cst rfl) fun k => ?_
  show U122.l0_ k (U122.l0 k) (U122.l1 k) _ _ _ f = _
  unfold U122.l0_
  simp only [head_end, cond_false]
 ·intro i hi ih
  have hx := List.getElem_mem hi
  obtain ⟨hp, hq⟩ := hf.phis hx
  rw [List.drop_eq_getElem_cons hi, List.all_cons]
  have l1 : Ev (fun k => U122.l1 k f.2.2.1 ((List.length f.2.2.1 : Nat) : Int) (i : Int) f.2.2.1[i].1 ((List.length f.2.2.1[i].1 : Nat) : Int) 0 f f.2.2.1[i]) (one (f.2.2.1[i].1.all (phiW f) && (f.2.2.1[i].2.1.all (argsB f) && (endW f f.2.2.1[i].2.2 && (f.2.2.1.drop (i + 1)).all (blkW f))))) := by
   refine each_ev (z := tPhiZ) (l := f.2.2.1[i].1) (L := fun k a => U122.l1 k f.2.2.1 ((List.length f.2.2.1 : Nat) : Int) (i : Int) f.2.2.1[i].1 ((List.length f.2.2.1[i].1 : Nat) : Int) a f f.2.2.1[i]) (V := fun m => one (m.all (phiW f) && (f.2.2.1[i].2.1.all (argsB f) && (endW f f.2.2.1[i].2.2 && (f.2.2.1.drop (i + 1)).all (blkW f)))))
    (q := fun k y g => Option.bind (U116.f k y.2.1 f y) fun r1 => bif r1.1.1.1 then some (((false, ()), ()), ()) else g k) (by omega) (fun k a => rfl) ?_ ?_
   ·rw [List.all_nil, Bool.true_and]
    have := end_ev (T := fun k id => U113.f k f id) (t := f.2.2.1[i].2.2) (g := fun k => U122.l0 k f.2.2.1 ((List.length f.2.2.1 : Nat) : Int) ((i + 1 : Nat) : Int) f) (fun h => implTy hs hf (hf.vt hx h)) ih
    rw [wrap_nat (show i < 9223372036854775807 by omega)]
    have h2 := ev_and' (b := !f.2.2.1[i].2.1.all (argsB f)) this
    rw [Bool.not_not] at h2
    exact Ev.bind (implInstW hs hf hx) h2
   ·intro y m g hy hg
    have h2 := ev_and' (b := !phiW f y) hg
    rw [Bool.not_not] at h2
    rw [List.all_cons, Bool.and_assoc]
    exact Ev.bind (implPhiW hs hf hx hy) h2
  refine Ev.succ ?_
  show Ev (fun k => U122.l0_ k (U122.l0 k) (U122.l1 k) _ _ _ f) _
  unfold U122.l0_
  simp only [head_in hi, head_0, Bool.and_self, cond_true, get_in hi]
  refine Ev.rw (s := one (blkW f f.2.2.1[i] && (f.2.2.1.drop (i + 1)).all (blkW f))) l1 ?_
  unfold blkW
  rw [Bool.and_assoc, Bool.and_assoc]
end
section
variable {m : List tFuncD} {f : tFuncD}
def zipB (T : Int → Int) : List Int → List Int → Bool
 | a :: as1, p :: ps => decide (T a = p) && zipB T as1 ps
 | _, _ => true
def callee (m : List tFuncD) (i : tInstD) : tFuncD := m.getD i.2.2.2.2.2.1.toNat tFuncZ
def callB (m : List tFuncD) (f : tFuncD) (i : tInstD) : Bool :=
 bif decide (i.1 = 26) then decide (i.2.1 = (callee m i).2.1) && (decide (i.2.2.2.2.2.2.1.length = (callee m i).1.length) && zipB (typeOf f) i.2.2.2.2.2.2.1 (callee m i).1) else true
theorem Fm.call (hf : Fm (m.length : Int) f) {x : tBlockD} (hx : x ∈ f.2.2.1) {i : tInstD} (hi : i ∈ x.2.1) (h : i.1 = 26) : 0 ≤ i.2.2.2.2.2.1 ∧ i.2.2.2.2.2.1 < (m.length : Int) ∧ i.2.2.2.2.2.2.1.length ≤ 4 ∧ ∀ id ∈ i.2.2.2.2.2.2.1, vid f id := by
 have hin := hf.ins x hx i hi
 simp only [instB, Bool.and_eq_true, decide_eq_true_eq] at hin
 obtain ⟨⟨⟨⟨⟨⟨g1, g2⟩, g3⟩, g4⟩, g5⟩, g6⟩, g7⟩ := hin
 unfold immB at g7
 rw [dneg (show ¬ i.1 = 21 by omega), dpos h, cond_false, cond_true, inB_iff] at g7
 have e : opsB i = i.2.2.2.2.2.2.1 := by unfold opsB; rw [h]; rfl
 rw [e, List.all_eq_true] at g4
 exact ⟨g7.1, by omega, g2, fun id hid => vid_of (g4 id hid)⟩
theorem specCalls (hm : ∀ g ∈ m, g.1.length ≤ 4) (hf : Fm (m.length : Int) f) : Ev (fun k => U42.f k (m, ()) f) (one (f.2.2.1.all fun x => x.2.1.all (callB m f))) := by
 have h10 := hf.b10
 have key := Ev.down (G := fun i k => U42.l0 k (i : Int) m f) (V := fun i => one ((f.2.2.1.drop i).all fun x => x.2.1.all (callB m f))) f.2.2.1.length ?_ ?_ 0 (Nat.zero_le _)
 ·exact key
 ·rw [List.drop_length]
  refine Ev.step (g' := fun _ => some (one true)) (Ev.cst rfl) fun k => ?_
  show U42.l0_ k (U42.l0 k) (U42.l1 k) (U42.l2 k) _ m f = _
  unfold U42.l0_
  simp only [head_end, cond_false]
 ·intro i hi ih
  have hx := List.getElem_mem hi
  have hq := (hf.phis hx).2
  have l1 := Ev.down (G := fun j k => U42.l1 k (i : Int) (j : Int) m f) (V := fun j => one ((f.2.2.1[i].2.1.drop j).all (callB m f) && ((f.2.2.1.drop (i + 1)).all fun x => x.2.1.all (callB m f)))) f.2.2.1[i].2.1.length ?_ ?_ 0 (Nat.zero_le _)
  ·rw [List.drop_eq_getElem_cons hi, List.all_cons]
   refine Ev.step l1 fun k => ?_
   show U42.l0_ k (U42.l0 k) (U42.l1 k) (U42.l2 k) _ m f = _
   unfold U42.l0_
   simp only [head_in hi, cond_true]
   rfl
  ·rw [List.drop_length, List.all_nil, Bool.true_and]
   refine Ev.step ih fun k => ?_
   show U42.l1_ k (U42.l0 k) (U42.l1 k) (U42.l2 k) _ _ m f = _
   unfold U42.l1_
   simp only [head_in hi, head_0, Bool.and_self, cond_true, get_in hi, head_end, cond_false, wrap_nat (show i < 9223372036854775807 by omega)]
  ·intro j hj ihj
   have hi2 := List.getElem_mem hj
   rw [List.drop_eq_getElem_cons hj, List.all_cons, Bool.and_assoc]
   refine Ev.succ ?_
   show Ev (fun k => U42.l1_ k (U42.l0 k) (U42.l1 k) (U42.l2 k) _ _ m f) _
   unfold U42.l1_
   simp only [head_in hi, head_0, Bool.and_self, cond_true, get_in hi, head_in hj, get_in hj, wrap_nat (show j < 9223372036854775807 by omega)]
   generalize hins : f.2.2.1[i].2.1[j] = ins at hi2 ⊢
   by_cases h26 : ins.1 = 26
   ·obtain ⟨c0, c1, c2, c3⟩ := hf.call hx hi2 h26
    have hlt : ins.2.2.2.2.2.1.toNat < m.length := by omega
    have hg : m.getD ins.2.2.2.2.2.1.toNat tFuncZ = m[ins.2.2.2.2.2.1.toNat] := getD_at _ _ _ hlt
    have hg4 := hm _ (List.getElem_mem hlt)
    have ec : callB m f ins = (decide (ins.2.1 = (m[ins.2.2.2.2.2.1.toNat]).2.1) && (decide (ins.2.2.2.2.2.2.1.length = (m[ins.2.2.2.2.2.1.toNat]).1.length) && zipB (typeOf f) ins.2.2.2.2.2.2.1 (m[ins.2.2.2.2.2.1.toNat]).1)) := by
     unfold callB callee
     rw [dpos h26, hg]; rfl
    rw [ec, hg, Bool.and_assoc, Bool.and_assoc]
    generalize m[ins.2.2.2.2.2.1.toNat] = g at hg4 ⊢
    refine Ev.neg (by rw [dpos h26]; rfl) (Ev.dd c0 c1 (ev_and ?_))
    rw [len_eq]
    by_cases hl : ins.2.2.2.2.2.2.1.length = g.1.length
    ·rw [dpos hl, Bool.true_and]
     refine Ev.neg rfl ?_
     have l2 := Ev.down (G := fun q k => U42.l2 k (i : Int) (j : Int) (q : Int) m f ins g) (V := fun q => one (zipB (typeOf f) (ins.2.2.2.2.2.2.1.drop q) (g.1.drop q) && ((f.2.2.1[i].2.1.drop (j + 1)).all (callB m f) && ((f.2.2.1.drop (i + 1)).all fun x => x.2.1.all (callB m f))))) ins.2.2.2.2.2.2.1.length ?_ ?_ 0 (Nat.zero_le _)
     ·exact l2
     ·rw [List.drop_length]
      refine Ev.step ihj fun k => ?_
      show U42.l2_ k (U42.l0 k) (U42.l1 k) (U42.l2 k) _ _ _ m f _ _ = _
      unfold U42.l2_
      simp only [head_end, cond_false, wrap_nat (show j < 9223372036854775807 by omega)]
     ·intro q hq2 ihq
      have hq3 : q < g.1.length := by omega
      rw [List.drop_eq_getElem_cons hq2, List.drop_eq_getElem_cons hq3]
      unfold zipB
      rw [Bool.and_assoc]
      refine Ev.succ ?_
      show Ev (fun k => U42.l2_ k (U42.l0 k) (U42.l1 k) (U42.l2 k) _ _ _ m f _ _) _
      unfold U42.l2_
      simp only [head_in hq2, head_0, Bool.and_self, cond_true, get_in hq2, head_in hq3, get_in hq3, wrap_nat (show q < 9223372036854775807 by omega)]
      exact Ev.bind (specTy hf (c3 _ (List.getElem_mem hq2))) (ev_and ihq)
    ·rw [dneg hl]
     exact Ev.pos rfl (Ev.cst rfl)
   ·have ec : callB m f ins = true := by
     unfold callB
     rw [dneg h26]; rfl
    rw [ec, Bool.true_and]
    exact Ev.pos (by rw [dneg h26]; rfl) ihj
theorem implCall (hs : Small tFunc f) (hm : ∀ g ∈ m, g.1.length ≤ 4) (hf : Fm (m.length : Int) f) {x : tBlockD} (hx : x ∈ f.2.2.1) {i : tInstD} (hi : i ∈ x.2.1) : Ev (fun k => U124.f k i m f) (one (!callB m f i)) := by
 unfold U124.f
 by_cases h26 : i.1 = 26
 ·obtain ⟨c0, c1, c2, c3⟩ := hf.call hx hi h26
  have hlt : i.2.2.2.2.2.1.toNat < m.length := by omega
  have hg : m.getD i.2.2.2.2.2.1.toNat tFuncZ = m[i.2.2.2.2.2.1.toNat] := getD_at _ _ _ hlt
  have hg4 := hm _ (List.getElem_mem hlt)
  have hc : Ev (fun k => U123.f k (m, ()) f i) (one (callB m f i)) := by
   have ec : callB m f i = (decide (i.2.1 = (m[i.2.2.2.2.2.1.toNat]).2.1) && (decide (i.2.2.2.2.2.2.1.length = (m[i.2.2.2.2.2.1.toNat]).1.length) && zipB (typeOf f) i.2.2.2.2.2.2.1 (m[i.2.2.2.2.2.1.toNat]).1)) := by
    unfold callB callee
    rw [dpos h26, hg]; rfl
   unfold U123.f
   refine Ev.dd c0 c1 ?_
   rw [ec]
   show Ev (fun k => bif !decide (i.2.1 = (m.getD i.2.2.2.2.2.1.toNat tFuncZ).2.1) then some (((false, ()), ()), ()) else bif !decide (((List.length i.2.2.2.2.2.2.1 : Nat) : Int) = ((List.length (m.getD i.2.2.2.2.2.1.toNat tFuncZ).1 : Nat) : Int)) then some (((false, ()), ()), ()) else U123.l0 k i.2.2.2.2.2.2.1 ((List.length i.2.2.2.2.2.2.1 : Nat) : Int) 0 f (m.getD i.2.2.2.2.2.1.toNat tFuncZ)) _
   rw [hg, len_eq]
   generalize m[i.2.2.2.2.2.1.toNat] = g at hg4 ⊢
   refine ev_and ?_
   by_cases hl : i.2.2.2.2.2.2.1.length = g.1.length
   ·rw [dpos hl, Bool.true_and]
    refine Ev.neg rfl ?_
    have l2 := Ev.down (G := fun q k => U123.l0 k i.2.2.2.2.2.2.1 ((List.length i.2.2.2.2.2.2.1 : Nat) : Int) (q : Int) f g) (V := fun q => one (zipB (typeOf f) (i.2.2.2.2.2.2.1.drop q) (g.1.drop q))) i.2.2.2.2.2.2.1.length ?_ ?_ 0 (Nat.zero_le _)
    ·exact l2
    ·rw [List.drop_length]
     refine Ev.step (g' := fun _ => some (one true)) (Ev.cst rfl) fun k => ?_
     show U123.l0_ k (U123.l0 k) _ _ _ f g = _
     unfold U123.l0_
     simp only [head_end, cond_false]
    ·intro q hq2 ihq
     have hq3 : q < g.1.length := by omega
     rw [List.drop_eq_getElem_cons hq2, List.drop_eq_getElem_cons hq3]
     unfold zipB
     refine Ev.succ ?_
     show Ev (fun k => U123.l0_ k (U123.l0 k) _ _ _ f g) _
     unfold U123.l0_
     simp only [head_in hq2, head_0, Bool.and_self, cond_true, get_in hq2, head_in hq3, get_in hq3, wrap_nat (show q < 9223372036854775807 by omega)]
     exact Ev.bind (implTy hs hf (c3 _ (List.getElem_mem hq2))) (ev_and ihq)
   ·rw [dneg hl]
    exact Ev.pos rfl (Ev.cst rfl)
  exact Ev.dp h26 (Ev.bind hc (Ev.cst rfl))
 ·have ec : callB m f i = true := by
   unfold callB
   rw [dneg h26]; rfl
  rw [ec]
  exact Ev.dn h26 (Ev.cst rfl)
theorem implCalls (hs : Small tFunc f) (hm : ∀ g ∈ m, g.1.length ≤ 4) (hf : Fm (m.length : Int) f) {x : tBlockD} (hx : x ∈ f.2.2.1) : Ev (fun k => U126.f k x.2.1 m f) (one (!x.2.1.all (callB m f))) := by
 have := (hf.phis hx).2
 rw [← any_not]
 exact index_ev (z := tInstZ) (L := fun k b a => U125.l0 k x.2.1 b a m f) (q := fun k y => U124.f k y m f) (by omega) (fun k b a => rfl) fun y hy => implCall hs hm hf hx hy
end
section
variable {funcs : Int} {f : tFuncD}
def seesB (f : tFuncD) (id b at' : Int) : Bool := if (placeOf f id).1 = -1 then true else if (placeOf f id).1 = b then decide ((placeOf f id).2 < at') else domB f.2.2.1 (placeOf f id).1 b
theorem Fm.there (hf : Fm funcs f) : There f.2.2.1 := by
 refine ⟨hf.b10, fun x hx s hsx => ?_⟩
 have := hf.tm x hx
 unfold succsOf succsT at hsx
 unfold termB at this
 by_cases h2 : x.2.2.1 = 2
 ·rw [dpos h2, cond_true] at hsx
  rw [h2] at this
  have h3 : (decide (x.2.2.2.1 = 0) && inB 0 ((f.2.2.1.length : Int) - 1) x.2.2.2.2.1 && decide (x.2.2.2.2.2.1 = 0)) = true := this
  simp only [Bool.and_eq_true, inB_iff] at h3
  simp only [List.mem_singleton] at hsx
  subst hsx
  omega
 ·by_cases h3 : x.2.2.1 = 3
  ·rw [dneg h2, dpos h3, cond_false, cond_true] at hsx
   rw [h3] at this
   have h4 : (inB 0 (cntB f - 1) x.2.2.2.1 && inB 0 ((f.2.2.1.length : Int) - 1) x.2.2.2.2.1 && inB 0 ((f.2.2.1.length : Int) - 1) x.2.2.2.2.2.1 && !decide (x.2.2.2.2.1 = x.2.2.2.2.2.1)) = true := this
   simp only [Bool.and_eq_true, inB_iff] at h4
   simp only [List.mem_cons, List.not_mem_nil, or_false] at hsx
   rcases hsx with rfl | rfl <;> omega
  ·rw [dneg h2, dneg h3] at hsx
   cases hsx
theorem specSees (hf : Fm funcs f) {id : Int} (v : vid f id) {b : Int} (b0 : 0 ≤ b) (at' : Int) : Ev (fun k => U46.f k f id b at') (one (seesB f id b at')) := by
 unfold U46.f seesB
 refine Ev.bind (specPlace hf v.1 v.2) ?_
 rcases place_cases id v.1 v.2 with ⟨hl, hp⟩ | ⟨hl, j, hj, hp, ha, hb⟩
 ·rw [hp, if_pos rfl]
  exact Ev.dp rfl (Ev.cst rfl)
 ·rw [hp]
  generalize id - (f.1.length : Int) - sumB wB (f.2.2.1.take j) = pl at ha hb
  rw [if_neg (by show ¬ ((j : Int) = -1); omega)]
  refine Ev.dn (by show ¬ ((j : Int) = -1); omega) ?_
  show Ev (fun k => bif decide ((j : Int) = b) then some (one (decide (pl < at'))) else bif decide (0 ≤ (j : Int)) then Option.bind (U45.f k f (j : Int) b) _ else _) (one (if (j : Int) = b then decide (pl < at') else domB f.2.2.1 (j : Int) b))
  by_cases c : (j : Int) = b
  ·rw [if_pos c]; exact Ev.dp c (Ev.cst rfl)
  ·rw [if_neg c]
   exact Ev.dn c (Ev.dp (by omega) (Ev.bind (specDom hf.there (by have := hf.b1; omega) _ _ b0) (Ev.cst rfl)))
theorem implSeen (hs : Small tFunc f) (hf : Fm funcs f) {id : Int} (v : vid f id) {b : Int} (b0 : 0 ≤ b) (b1 : b < (f.2.2.1.length : Int)) {at' ahead : Int} (h : (placeOf f id).1 = b → (id < ahead ↔ (placeOf f id).2 < at')) : Ev (fun k => U130.f k f id b ahead) (one (seesB f id b at')) := by
 unfold U130.f seesB
 refine Ev.bind (implPlace hs hf v.1 v.2) ?_
 rcases place_cases id v.1 v.2 with ⟨hl, hp⟩ | ⟨hl, j, hj, hp, ha, hb⟩
 ·rw [hp, if_pos rfl]
  exact Ev.dp rfl (Ev.cst rfl)
 ·rw [hp] at h ⊢
  generalize id - (f.1.length : Int) - sumB wB (f.2.2.1.take j) = pl at ha hb h
  rw [if_neg (by show ¬ ((j : Int) = -1); omega)]
  refine Ev.dn (by show ¬ ((j : Int) = -1); omega) ?_
  show Ev (fun k => bif decide ((j : Int) = b) then some (one (decide (id < ahead))) else Option.bind (U129.f k f (j : Int) b) _) (one (if (j : Int) = b then decide (pl < at') else domB f.2.2.1 (j : Int) b))
  by_cases c : (j : Int) = b
  ·rw [if_pos c]
   refine Ev.dp c (Ev.cst ?_)
   have e : decide (id < ahead) = decide (pl < at') := by rw [decide_eq_decide]; exact h c
   rw [e]
  ·rw [if_neg c]
   exact Ev.dn c (Ev.bind (implDom hf.there (by have := hf.b1; omega) _ _ b0 b1) (Ev.cst rfl))
/-- The first id of a block. -/
def firstB (f : tFuncD) (b : Nat) : Int := (f.1.length : Int) + sumB wB (f.2.2.1.take b)
theorem implFirst (hf : Fm funcs f) {b : Nat} (hb : b < f.2.2.1.length) : Ev (fun k => U128.f k f (b : Int)) (one (firstB f b)) := by
 have h4 := hf.p4
 have h10 := hf.b10
 unfold U128.f
 refine Ev.pos (by rw [dpos (show (0 : Nat) ≤ 0 by omega), dpos (show 0 ≤ (b : Int) by omega), dpos (show (b : Int) ≤ (f.2.2.1.length : Int) by omega)]; rfl) ?_
 rw [Int.toNat_natCast]
 exact acc_ev (L := fun k a i => U128.l0 k a (f.2.2.1.take b) ((List.length (f.2.2.1.take b) : Nat) : Int) i) (l := f.2.2.1.take b) (w := wB) (fun x hx => ⟨wB_nonneg x, by have := hf.w60 (List.mem_of_mem_take hx); omega⟩) (by rw [List.length_take]; omega) (fun k a i hi => by
   show U128.l0_ k (U128.l0 k) a _ _ i = _
   unfold U128.l0_
   have hlen : (f.2.2.1.take b).length ≤ 10 := by rw [List.length_take]; omega
   simp only [head_in hi, head_0, Bool.and_self, cond_true, get_in hi, wrap_nat (show i < 9223372036854775807 by omega)]
   rfl) (fun k a => by
   show U128.l0_ k (U128.l0 k) a _ _ _ = _
   unfold U128.l0_
   simp only [head_end, cond_false]) (by omega) (by omega)
end
section
variable {funcs : Int} {f : tFuncD}
def markB (f : tFuncD) (p : Int) : Bool := (reachB f.2.2.1 (-1)).getD p.toNat false
def allOf (f : tFuncD) (p : Int) : Int := wB (f.2.2.1.getD p.toNat tBlockZ)
def zipS (f : tFuncD) : List Int → List Int → Bool
 | id :: is, q :: qs => (bif markB f q then seesB f id q (allOf f q) else true) && zipS f is qs
 | _, _ => true
theorem zipS_cons {f : tFuncD} {id q : Int} {is qs : List Int} : zipS f (id :: is) (q :: qs) = ((bif markB f q then seesB f id q (allOf f q) else true) && zipS f is qs) := rfl
def instS (f : tFuncD) (b : Int) (x : tBlockD) (i : Nat) (ins : tInstD) : Bool := (opsB ins).all fun id => seesB f id b (((List.length x.1 : Nat) : Int) + (i : Int))
def endS (f : tFuncD) (b : Int) (x : tBlockD) : Bool := bif decide (x.2.2.1 = 1) || decide (x.2.2.1 = 3) then seesB f x.2.2.2.1 b (wB x) else true
def blkS (f : tFuncD) (b : Int) (x : tBlockD) : Bool := x.1.all (fun p => zipS f p.2.1 (preds f b)) && (allI (instS f b x) x.2.1 0 && endS f b x)
theorem allI_get {α : Type} {p : Nat → α → Bool} : ∀ {l : List α} {i : Nat}, allI p l i = true → ∀ j (h : j < l.length), p (i + j) l[j] = true
 | [], i, _, j, h => by simp at h
 | x :: l, i, ha, j, h => by
  simp only [allI, Bool.and_eq_true] at ha
  cases j with
  | zero => exact ha.1
  | succ j =>
   have := allI_get ha.2 j (by simpa using h)
   rw [show i + (j + 1) = i + 1 + j by omega]
   exact this
theorem phiN_len (h : allI (phiN f) f.2.2.1 0 = true) {b : Nat} (hb : b < f.2.2.1.length) {p : tPhiD} (hp : p ∈ f.2.2.1[b].1) : p.2.1.length = (preds f b).length := by
 have := allI_get h b hb
 rw [Nat.zero_add] at this
 unfold phiN at this
 simp only [List.all_eq_true, decide_eq_true_eq] at this
 exact this p hp
theorem preds_in {b p : Int} (h : p ∈ preds f b) : 0 ≤ p ∧ p < (f.2.2.1.length : Int) := by
 have := predsL_in b _ 0 p h
 omega
theorem all_wrap (hf : Fm funcs f) {q : Int} (h : 0 ≤ q ∧ q < (f.2.2.1.length : Int)) : IntKind.wrap .i64 (((List.length (f.2.2.1.getD q.toNat tBlockZ).1 : Nat) : Int) + ((List.length (f.2.2.1.getD q.toNat tBlockZ).2.1 : Nat) : Int)) = allOf f q := by
 have hlt : q.toNat < f.2.2.1.length := by omega
 unfold allOf
 rw [getD_at _ _ _ hlt]
 exact blk_wrap (hf.w60 (List.getElem_mem hlt))
theorem mark_iff {q : Int} (h : 0 ≤ q) : decide (q ∈ idx (reachB f.2.2.1 (-1)) 0) = markB f q := by
 unfold markB
 have := mem_idx0 (reachB f.2.2.1 (-1)) q h
 cases hm : (reachB f.2.2.1 (-1)).getD q.toNat false with
 | true => exact dpos (this.2 hm)
 | false => exact dneg fun hh => by rw [this.1 hh] at hm; cases hm
/-- The specification's look at one block. -/
theorem specBlk (hf : Fm funcs f) (hN : allI (phiN f) f.2.2.1 0 = true) {live : List Int} (hl : live = idx (reachB f.2.2.1 (-1)) 0) {a : Nat} (ha : a < 9223372036854775807) {b : Nat} (hb : b < f.2.2.1.length) {r : Bool}
  (hr : Ev (fun k => U47.l0 k live ((a + 1 : Nat) : Int) f) (one r)) : Ev (fun k => U47.l1 k live (a : Int) (b : Int) (wB f.2.2.1[b]) 0 f f.2.2.1[b] (preds f b)) (one (blkS f b f.2.2.1[b] && r)) := by
 have hx := List.getElem_mem hb
 obtain ⟨hp, hq⟩ := hf.phis hx
 have h10 := hf.b10
 have hpl := preds_len f b
 have hlive : smI live := by rw [hl]; exact reach_few hf.b10 _
 -- the end
 have lend : Ev (fun k => U47.l3 k live (a : Int) (b : Int) (wB f.2.2.1[b]) ((List.length f.2.2.1[b].2.1 : Nat) : Int) f f.2.2.1[b]) (one (endS f b f.2.2.1[b] && r)) := by
  refine Ev.succ ?_
  show Ev (fun k => U47.l3_ k (U47.l0 k) (U47.l1 k) (U47.l2 k) (U47.l3 k) (U47.l4 k) _ _ _ _ _ f _) _
  unfold U47.l3_ endS
  simp only [head_end, cond_false, wrap_nat ha]
  by_cases h1 : f.2.2.1[b].2.2.1 = 1
  ·rw [dpos h1, Bool.true_or, cond_true]
   exact Ev.pos rfl (Ev.bind (specSees hf (hf.vt hx (.inl h1)) (by omega) _) (ev_and hr))
  ·rw [dneg h1, Bool.false_or]
   refine Ev.neg rfl ?_
   by_cases h3 : f.2.2.1[b].2.2.1 = 3
   ·rw [dpos h3, cond_true]
    exact Ev.pos rfl (Ev.bind (specSees hf (hf.vt hx (.inr h3)) (by omega) _) (ev_and hr))
   ·rw [dneg h3, cond_false, Bool.true_and]
    exact Ev.neg rfl hr
 have l3 := Ev.down (G := fun j k => U47.l3 k live (a : Int) (b : Int) (wB f.2.2.1[b]) (j : Int) f f.2.2.1[b]) (V := fun j => one (allI (instS f b f.2.2.1[b]) (f.2.2.1[b].2.1.drop j) j && (endS f b f.2.2.1[b] && r))) f.2.2.1[b].2.1.length ?_ ?_ 0 (Nat.zero_le _)
 ·have l1 := Ev.down (G := fun i k => U47.l1 k live (a : Int) (b : Int) (wB f.2.2.1[b]) (i : Int) f f.2.2.1[b] (preds f b)) (V := fun i => one ((f.2.2.1[b].1.drop i).all (fun p => zipS f p.2.1 (preds f b)) && (allI (instS f b f.2.2.1[b]) f.2.2.1[b].2.1 0 && (endS f b f.2.2.1[b] && r)))) f.2.2.1[b].1.length ?_ ?_ 0 (Nat.zero_le _)
  ·refine Ev.rw l1 ?_
   unfold blkS
   rw [List.drop_zero, Bool.and_assoc, Bool.and_assoc]
  ·rw [List.drop_length, List.all_nil, Bool.true_and]
   refine Ev.step l3 fun k => ?_
   show U47.l1_ k (U47.l0 k) (U47.l1 k) (U47.l2 k) (U47.l3 k) (U47.l4 k) _ _ _ _ _ f _ _ = _
   unfold U47.l1_
   simp only [head_end, cond_false]
   rfl
  ·intro i hi ih
   have hpm := List.getElem_mem hi
   have hlen := phiN_len hN hb hpm
   rw [List.drop_eq_getElem_cons hi, List.all_cons, Bool.and_assoc]
   have l2 := Ev.down (G := fun q k => U47.l2 k live (a : Int) (b : Int) (wB f.2.2.1[b]) (i : Int) (q : Int) f f.2.2.1[b] (preds f b)) (V := fun q => one (zipS f (f.2.2.1[b].1[i].2.1.drop q) ((preds f b).drop q) && ((f.2.2.1[b].1.drop (i + 1)).all (fun p => zipS f p.2.1 (preds f b)) && (allI (instS f b f.2.2.1[b]) f.2.2.1[b].2.1 0 && (endS f b f.2.2.1[b] && r))))) (preds f b).length ?_ ?_ 0 (Nat.zero_le _)
   ·refine Ev.step l2 fun k => ?_
    show U47.l1_ k (U47.l0 k) (U47.l1 k) (U47.l2 k) (U47.l3 k) (U47.l4 k) _ _ _ _ _ f _ _ = _
    unfold U47.l1_
    simp only [head_in hi, cond_true]
    rfl
   ·rw [← hlen, List.drop_length]
    refine Ev.step ih fun k => ?_
    show U47.l2_ k (U47.l0 k) (U47.l1 k) (U47.l2 k) (U47.l3 k) (U47.l4 k) _ _ _ _ _ _ f _ _ = _
    unfold U47.l2_
    rw [hlen]
    simp only [head_end, cond_false, wrap_nat (show i < 9223372036854775807 by omega)]
   ·intro q hq1 ihq
    have hq2 : q < f.2.2.1[b].1[i].2.1.length := by omega
    have hpi := preds_in (List.getElem_mem hq1)
    rw [List.drop_eq_getElem_cons hq1, List.drop_eq_getElem_cons hq2]
    rw [zipS_cons, Bool.and_assoc]
    refine Ev.succ ?_
    show Ev (fun k => U47.l2_ k (U47.l0 k) (U47.l1 k) (U47.l2 k) (U47.l3 k) (U47.l4 k) _ _ _ _ _ _ f _ _) _
    unfold U47.l2_
    simp only [head_in hq1, head_0, Bool.and_self, cond_true, get_in hq1, head_in hi, get_in hi, head_in hq2, get_in hq2, all_wrap hf hpi, wrap_nat (show q < 9223372036854775807 by omega)]
    refine Ev.dd hpi.1 hpi.2 (Ev.bind (has_ev live _ hlive) ?_)
    rw [hl, mark_iff hpi.1]
    cases hm : markB f (preds f b)[q] with
    | true =>
     rw [cond_true]
     rw [← hl]
     exact Ev.pos rfl (Ev.bind (specSees hf (hf.vp hx hpm (List.getElem_mem hq2)) hpi.1 _) (ev_and ihq))
    | false =>
     rw [cond_false, Bool.true_and, ← hl]
     exact Ev.neg rfl ihq
 ·rw [List.drop_length]
  exact lend
 ·intro j hj ihj
  have hjm := List.getElem_mem hj
  obtain ⟨ho4, hov⟩ := hf.vo hx hjm
  have hol := opsB_len (i := f.2.2.1[b].2.1[j]) (by omega)
  rw [List.drop_eq_getElem_cons hj]
  unfold allI
  rw [Bool.and_assoc]
  have l4 : Ev (fun k => U47.l4 k live (a : Int) (b : Int) (wB f.2.2.1[b]) (j : Int) 0 f f.2.2.1[b] (opsB f.2.2.1[b].2.1[j])) (one (instS f b f.2.2.1[b] j f.2.2.1[b].2.1[j] && (allI (instS f b f.2.2.1[b]) (f.2.2.1[b].2.1.drop (j + 1)) (j + 1) && (endS f b f.2.2.1[b] && r)))) := by
   refine each_ev (z := 0) (l := opsB f.2.2.1[b].2.1[j]) (L := fun k q => U47.l4 k live (a : Int) (b : Int) (wB f.2.2.1[b]) (j : Int) q f f.2.2.1[b] (opsB f.2.2.1[b].2.1[j])) (V := fun m => one ((m.all fun id => seesB f id b (((List.length f.2.2.1[b].1 : Nat) : Int) + (j : Int))) && (allI (instS f b f.2.2.1[b]) (f.2.2.1[b].2.1.drop (j + 1)) (j + 1) && (endS f b f.2.2.1[b] && r))))
    (q := fun k id g => Option.bind (U46.f k f id (b : Int) (IntKind.wrap .i64 (((List.length f.2.2.1[b].1 : Nat) : Int) + (j : Int)))) fun r1 => bif !r1.1.1.1 then some (((false, ()), ()), ()) else g k) (by omega) (fun k q => rfl) ?_ ?_
   ·rw [List.all_nil, Bool.true_and, wrap_nat (show j < 9223372036854775807 by omega)]
    exact ihj
   ·intro id mm g hid hg
    rw [wrap_id (by omega) (by omega), List.all_cons, Bool.and_assoc]
    exact Ev.bind (specSees hf (hov id hid) (by omega) _) (ev_and hg)
  refine Ev.succ ?_
  show Ev (fun k => U47.l3_ k (U47.l0 k) (U47.l1 k) (U47.l2 k) (U47.l3 k) (U47.l4 k) _ _ _ _ _ f _) _
  unfold U47.l3_
  simp only [head_in hj, head_0, Bool.and_self, cond_true, get_in hj]
  exact Ev.bind (Ev.all fun k => specOps k (by omega)) l4
theorem specDoms (hf : Fm funcs f) (hN : allI (phiN f) f.2.2.1 0 = true) : Ev (fun k => U47.f k f) (one ((idx (reachB f.2.2.1 (-1)) 0).all fun b => blkS f b (f.2.2.1.getD b.toNat tBlockZ))) := by
 have hb1 := hf.b1
 have hin : ∀ b ∈ idx (reachB f.2.2.1 (-1)) 0, 0 ≤ b ∧ b < (f.2.2.1.length : Int) := fun b hb => by
  have h0 := idx_ge _ _ _ hb
  have h1 := (mem_idx0 _ b h0).1 hb
  refine ⟨h0, ?_⟩
  rcases Nat.lt_or_ge b.toNat f.2.2.1.length with h | h
  ·omega
  ·rw [List.getD, List.getElem?_eq_none (by rw [reachB_length]; exact h)] at h1
   cases h1
 unfold U47.f
 refine Ev.bind (specReach_ev f (-1) hf.there (by omega)) ?_
 generalize hl : idx (reachB f.2.2.1 (-1)) 0 = live at hin
 have hls : live.length ≤ 1048576 := by rw [← hl]; exact reach_few hf.b10 _
 have key := Ev.down (G := fun i k => U47.l0 k live (i : Int) f) (V := fun i => one ((live.drop i).all fun b => blkS f b (f.2.2.1.getD b.toNat tBlockZ))) live.length ?_ ?_ 0 (Nat.zero_le _)
 ·exact key
 ·rw [List.drop_length]
  refine Ev.step (g' := fun _ => some (one true)) (Ev.cst rfl) fun k => ?_
  show U47.l0_ k (U47.l0 k) (U47.l1 k) (U47.l2 k) (U47.l3 k) (U47.l4 k) _ _ f = _
  unfold U47.l0_
  simp only [head_end, cond_false]
 ·intro i hi ih
  obtain ⟨b0, b1⟩ := hin _ (List.getElem_mem hi)
  rw [List.drop_eq_getElem_cons hi, List.all_cons]
  refine Ev.succ ?_
  show Ev (fun k => U47.l0_ k (U47.l0 k) (U47.l1 k) (U47.l2 k) (U47.l3 k) (U47.l4 k) _ _ f) _
  unfold U47.l0_
  simp only [head_in hi, head_0, Bool.and_self, cond_true, get_in hi]
  have hbt : (live[i]).toNat < f.2.2.1.length := by omega
  have hcast : ((live[i].toNat : Nat) : Int) = live[i] := by omega
  have hall := all_wrap hf ⟨b0, b1⟩
  refine Ev.dd b0 b1 (Ev.bind (specPreds hf.b10 _) ?_)
  rw [hall]
  unfold allOf
  have := specBlk (a := i) hf hN hl.symm (by omega) hbt ih
  rw [hcast] at this
  rw [getD_at _ _ _ hbt]
  exact this
end
def shapeB (m : tModuleD) : Bool := inB 1 3 (m.1.length : Int) && m.1.all (funcB (m.1.length : Int))
theorem specShape {m : tModuleD} (hm : Small tModule m) : Ev (fun k => U31.f k m) (one (shapeB m)) := by
 have hs := hm.1
 have hlen : m.1.length ≤ 1048576 := hs.1
 unfold U31.f shapeB
 refine Ev.bind (Ev.all fun k => specIn k _ _ _) (ev_and ?_)
 exact each_ev (z := tFuncZ) (l := m.1) (L := fun k a => U31.l0 k a m.1) (V := fun l => one (l.all (funcB (m.1.length : Int)))) (q := fun k y g => Option.bind (U30.f k y ((List.length m.1 : Nat) : Int)) fun r1 => bif !r1.1.1.1 then some (((false, ()), ()), ()) else g k)
  (by omega) (fun k a => rfl) (Ev.cst rfl) fun y l g hy hg => by
   refine Ev.bind (specFunc (hs.2 y hy) (by omega) (by omega)) ?_
   rw [List.all_cons]
   exact ev_and hg
theorem implFuncs {l : List tFuncD} (hs : Small (.list tFunc) l) {funcs : Int} (h2 : 0 ≤ funcs) (h3 : funcs ≤ 9223372036854775807) : Ev (fun k => U97.f k l funcs) (one (!l.all (funcB funcs))) := by
 have hl : l.length ≤ 1048576 := hs.1
 rw [← any_not]
 refine index_ev (z := tFuncZ) (L := fun k b a => U96.l0 k l b a funcs) (q := fun k x => U95.f k x funcs) (by omega) (fun k b a => rfl) fun x hx => ?_
 exact Ev.bind (implFunc (hs.2 x hx) h2 h3) (Ev.cst rfl)
theorem implShape {m : tModuleD} (hm : Small tModule m) : Ev (fun k => U98.f k m) (one (shapeB m)) := by
 have hlen : m.1.length ≤ 1048576 := hm.1.1
 unfold U98.f shapeB
 refine Ev.bind (Ev.all fun k => implIn k _ _ _) ?_
 cases inB 1 3 (m.1.length : Int) with
 | false => exact Ev.neg rfl (Ev.cst rfl)
 | true => exact Ev.pos rfl (Ev.bind (implFuncs hm.1 (by omega) (by omega)) (Ev.cst (by show some (one (!(!_))) = _; rw [Bool.not_not, Bool.true_and])))
section
variable {funcs : Int} {f : tFuncD}
theorem place_end (hf : Fm funcs f) {id : Int} (v : vid f id) {q : Int} (hq : 0 ≤ q ∧ q < (f.2.2.1.length : Int)) : (placeOf f id).1 = q → (id < cntB f ↔ (placeOf f id).2 < allOf f q) := by
 intro h
 rcases place_cases id v.1 v.2 with ⟨hl, hp⟩ | ⟨hl, j, hj, hp, ha, hb⟩
 ·rw [hp] at h
  have h' : (-1 : Int) = q := h
  omega
 ·rw [hp] at h ⊢
  have h' : (j : Int) = q := h
  have hqj : q.toNat = j := by omega
  unfold allOf
  rw [hqj, getD_at _ _ _ hj]
  exact ⟨fun _ => hb, fun _ => v.2⟩
theorem place_at {id : Int} (v : vid f id) {b : Nat} {at' : Int} : (placeOf f id).1 = (b : Int) → (id < firstB f b + at' ↔ (placeOf f id).2 < at') := by
 intro h
 rcases place_cases id v.1 v.2 with ⟨hl, hp⟩ | ⟨hl, j, hj, hp, ha, hb⟩
 ·rw [hp] at h
  have h' : (-1 : Int) = (b : Int) := h
  omega
 ·rw [hp] at h ⊢
  have h' : (j : Int) = (b : Int) := h
  have e : j = b := by omega
  subst e
  show _ ↔ id - (f.1.length : Int) - sumB wB (f.2.2.1.take j) < at'
  unfold firstB
  omega
theorem sum_take_le (hf : Fm funcs f) (b : Nat) : 0 ≤ sumB wB (f.2.2.1.take b) ∧ sumB wB (f.2.2.1.take b) ≤ 600 := by
 have h10 := hf.b10
 have := sumB_le (w := wB) (m := 60) (l := f.2.2.1.take b) fun x hx => ⟨wB_nonneg x, hf.w60 (List.mem_of_mem_take hx)⟩
 have hl : (f.2.2.1.take b).length ≤ 10 := by rw [List.length_take]; omega
 omega
theorem implBlk (hs : Small tFunc f) (hf : Fm funcs f) (hN : allI (phiN f) f.2.2.1 0 = true) {b : Nat} (hb : b < f.2.2.1.length) : Ev (fun k => U134.f k f (b : Int) (reachB f.2.2.1 (-1))) (one (blkS f b f.2.2.1[b])) := by
 have hx := List.getElem_mem hb
 obtain ⟨hp, hq⟩ := hf.phis hx
 have h10 := hf.b10
 have h4 := hf.p4
 have hpl := preds_len f b
 have hst := sum_take_le hf b
 have hml := reachB_length f.2.2.1 (-1)
 obtain ⟨c0, c1⟩ := cntB_le hs
 have tail : ∀ {A : Int}, vid f A → Ev (fun k => Option.bind (U68.f k f) fun r3 => Option.bind (U130.f k f A (b : Int) r3.1.1.1) fun r4 => some (((r4.1.1.1, ()), ()), ())) (one (seesB f A b (wB f.2.2.1[b]))) := by
  intro A v
  refine Ev.bind (implCount hs) (Ev.bind (implSeen hs hf v (by omega) (by omega) (at' := wB f.2.2.1[b]) ?_) (Ev.cst rfl))
  have := place_end hf v (q := (b : Int)) ⟨by omega, by omega⟩
  unfold allOf at this
  rw [Int.toNat_natCast, getD_at _ _ _ hb] at this
  exact this
 have lend : Ev (fun k => U134.l2 k f.2.2.1[b].2.1 ((List.length f.2.2.1[b].2.1 : Nat) : Int) ((List.length f.2.2.1[b].2.1 : Nat) : Int) f (b : Int) f.2.2.1[b] (firstB f b + ((List.length f.2.2.1[b].1 : Nat) : Int))) (one (endS f b f.2.2.1[b])) := by
  refine Ev.succ ?_
  show Ev (fun k => U134.l2_ k (U134.l0 k) (U134.l1 k) (U134.l2 k) _ _ _ f _ _ _) _
  unfold U134.l2_ endS
  simp only [head_end, cond_false]
  by_cases h1 : f.2.2.1[b].2.2.1 = 1
  ·rw [dpos h1, Bool.true_or, cond_true]
   exact Ev.pos rfl (tail (hf.vt hx (.inl h1)))
  ·rw [dneg h1, Bool.false_or]
   refine Ev.neg rfl ?_
   by_cases h3 : f.2.2.1[b].2.2.1 = 3
   ·rw [dpos h3, cond_true]
    exact Ev.neg rfl (tail (hf.vt hx (.inr h3)))
   ·rw [dneg h3, cond_false]
    exact Ev.pos rfl (Ev.cst rfl)
 have l2 := Ev.down (G := fun j k => U134.l2 k f.2.2.1[b].2.1 ((List.length f.2.2.1[b].2.1 : Nat) : Int) (j : Int) f (b : Int) f.2.2.1[b] (firstB f b + ((List.length f.2.2.1[b].1 : Nat) : Int))) (V := fun j => one (allI (instS f b f.2.2.1[b]) (f.2.2.1[b].2.1.drop j) j && endS f b f.2.2.1[b])) f.2.2.1[b].2.1.length ?_ ?_ 0 (Nat.zero_le _)
 ·have l0 := Ev.down (G := fun i k => U134.l0 k (reachB f.2.2.1 (-1)) f.2.2.1[b].1 ((List.length f.2.2.1[b].1 : Nat) : Int) (i : Int) f (b : Int) f.2.2.1[b] (preds f b)) (V := fun i => one ((f.2.2.1[b].1.drop i).all (fun p => zipS f p.2.1 (preds f b)) && (allI (instS f b f.2.2.1[b]) f.2.2.1[b].2.1 0 && endS f b f.2.2.1[b]))) f.2.2.1[b].1.length ?_ ?_ 0 (Nat.zero_le _)
  ·unfold U134.f
   refine Ev.dd (by omega) (by omega) (Ev.bind (implPreds h10 b) ?_)
   rw [get_in hb]
   exact l0
  ·rw [List.drop_length, List.all_nil, Bool.true_and]
   refine Ev.succ ?_
   show Ev (fun k => U134.l0_ k (U134.l0 k) (U134.l1 k) (U134.l2 k) _ _ _ _ f _ _ _) _
   unfold U134.l0_
   simp only [head_end, cond_false]
   refine Ev.bind (implFirst hf hb) ?_
   rw [show IntKind.wrap .i64 ((one (firstB f b)).1.1.1 + ((List.length f.2.2.1[b].1 : Nat) : Int)) = firstB f b + ((List.length f.2.2.1[b].1 : Nat) : Int) from wrap_id (by show _ ≤ firstB f b + _; unfold firstB; omega) (by show firstB f b + _ ≤ _; unfold firstB; omega)]
   exact l2
  ·intro i hi ih
   have hpm := List.getElem_mem hi
   have hlen := phiN_len hN hb hpm
   have l1 := Ev.down (G := fun q k => U134.l1 k (reachB f.2.2.1 (-1)) f.2.2.1[b].1 ((List.length f.2.2.1[b].1 : Nat) : Int) (i : Int) f.2.2.1[b].1[i].2.1 ((List.length f.2.2.1[b].1[i].2.1 : Nat) : Int) (q : Int) f (b : Int) f.2.2.1[b] (preds f b)) (V := fun q => one (zipS f (f.2.2.1[b].1[i].2.1.drop q) ((preds f b).drop q) && ((f.2.2.1[b].1.drop (i + 1)).all (fun p => zipS f p.2.1 (preds f b)) && (allI (instS f b f.2.2.1[b]) f.2.2.1[b].2.1 0 && endS f b f.2.2.1[b])))) f.2.2.1[b].1[i].2.1.length ?_ ?_ 0 (Nat.zero_le _)
   ·rw [List.drop_eq_getElem_cons hi, List.all_cons, Bool.and_assoc]
    refine Ev.step l1 fun k => ?_
    show U134.l0_ k (U134.l0 k) (U134.l1 k) (U134.l2 k) _ _ _ _ f _ _ _ = _
    unfold U134.l0_
    simp only [head_in hi, head_0, Bool.and_self, cond_true, get_in hi]
    rfl
   ·rw [List.drop_length]
    refine Ev.step ih fun k => ?_
    show U134.l1_ k (U134.l0 k) (U134.l1 k) (U134.l2 k) _ _ _ _ _ _ _ f _ _ _ = _
    unfold U134.l1_
    simp only [head_end, cond_false, wrap_nat (show i < 9223372036854775807 by omega)]
   ·intro q hq1 ihq
    have hq2 : q < (preds f b).length := by omega
    have hpi := preds_in (List.getElem_mem hq2)
    rw [List.drop_eq_getElem_cons hq1, List.drop_eq_getElem_cons hq2, zipS_cons, Bool.and_assoc]
    refine Ev.succ ?_
    show Ev (fun k => U134.l1_ k (U134.l0 k) (U134.l1 k) (U134.l2 k) _ _ _ _ _ _ _ f _ _ _) _
    unfold U134.l1_
    simp only [head_in hq1, head_0, Bool.and_self, cond_true, get_in hq1, head_in hq2, get_in hq2, wrap_nat (show q < 9223372036854775807 by omega)]
    refine Ev.dd hpi.1 (by omega) ?_
    cases hm : markB f (preds f b)[q] with
    | true =>
     rw [cond_true]
     have v := hf.vp hx hpm (List.getElem_mem hq1)
     exact Ev.pos hm (Ev.bind (implCount hs) (Ev.bind (implSeen hs hf v hpi.1 hpi.2 (place_end hf v hpi)) (ev_and ihq)))
    | false =>
     rw [cond_false, Bool.true_and]
     exact Ev.neg hm ihq
 ·rw [List.drop_length]
  exact lend
 ·intro j hj ihj
  have hjm := List.getElem_mem hj
  obtain ⟨ho4, hov⟩ := hf.vo hx hjm
  have hol := opsB_len (i := f.2.2.1[b].2.1[j]) (by omega)
  rw [List.drop_eq_getElem_cons hj]
  unfold allI
  rw [Bool.and_assoc]
  have hc : Ev (fun k => U133.f k (opsB f.2.2.1[b].2.1[j]) f (b : Int) (firstB f b + ((List.length f.2.2.1[b].1 : Nat) : Int)) (j : Int)) (one (!instS f b f.2.2.1[b] j f.2.2.1[b].2.1[j])) := by
   unfold instS
   rw [← any_not]
   refine index_ev (z := 0) (L := fun k e a => U132.l0 k (opsB f.2.2.1[b].2.1[j]) e a f (b : Int) (firstB f b + ((List.length f.2.2.1[b].1 : Nat) : Int)) (j : Int)) (q := fun k y => U131.f k y f (b : Int) (firstB f b + ((List.length f.2.2.1[b].1 : Nat) : Int)) (j : Int)) (by omega) (fun k e a => rfl) fun id hid => ?_
   unfold U131.f
   have v := hov id hid
   have hw : IntKind.wrap .i64 (firstB f b + ((List.length f.2.2.1[b].1 : Nat) : Int) + (j : Int)) = firstB f b + (((List.length f.2.2.1[b].1 : Nat) : Int) + (j : Int)) := by
    rw [wrap_id (by unfold firstB; omega) (by unfold firstB; omega)]; omega
   rw [hw]
   exact Ev.bind (implSeen hs hf v (by omega) (by omega) (place_at v)) (Ev.cst rfl)
  refine Ev.succ ?_
  show Ev (fun k => U134.l2_ k (U134.l0 k) (U134.l1 k) (U134.l2 k) _ _ _ f _ _ _) _
  unfold U134.l2_
  simp only [head_in hj, head_0, Bool.and_self, cond_true, get_in hj, wrap_nat (show j < 9223372036854775807 by omega)]
  have h2 := ev_and' (b := !instS f b f.2.2.1[b] j f.2.2.1[b].2.1[j]) ihj
  rw [Bool.not_not] at h2
  exact Ev.bind (Ev.all fun k => implOps k (by omega)) (Ev.bind hc h2)
def domsB (f : tFuncD) : Bool := (idx (reachB f.2.2.1 (-1)) 0).all fun b => blkS f b (f.2.2.1.getD b.toNat tBlockZ)
theorem all_idx (p : Int → Bool) : ∀ (l : List Bool) (i : Nat), (idx l (i : Int)).all p = allI (fun j x => !x || p (j : Int)) l i
 | [], i => rfl
 | x :: l, i => by
  have ih := all_idx p l (i + 1)
  simp only [idx, allI]
  rw [show ((i : Int) + 1) = ((i + 1 : Nat) : Int) by omega]
  cases x with
  | true => rw [if_pos rfl, List.all_cons, ih]; rfl
  | false => rw [if_neg (by decide), ih]; rfl
def code (m : List tFuncD) (f : tFuncD) : Int :=
 bif entryB f then (bif allI (phiN f) f.2.2.1 0 then (bif f.2.2.1.all (blkW f) then (bif f.2.2.1.all (fun x => x.2.1.all (callB m f)) then (bif domsB f then 0 else 6) else 5) else 4) else 3) else 2
theorem Ev.cnd {R : Type} {g h : Nat → Option R} {b : Bool} {x y : R} (hg : b = true → Ev g x) (hh : b = false → Ev h y) : Ev (fun k => bif b then g k else h k) (bif b then x else y) := by
 cases b with
 | true => exact Ev.pos rfl (hg rfl)
 | false => exact Ev.neg rfl (hh rfl)
theorem Ev.cndn {R : Type} {g h : Nat → Option R} {b : Bool} {x y : R} (hg : b = true → Ev g x) (hh : b = false → Ev h y) : Ev (fun k => bif !b then h k else g k) (bif b then x else y) := by
 cases b with
 | true => exact Ev.neg rfl (hg rfl)
 | false => exact Ev.pos rfl (hh rfl)
theorem one_cnd {b : Bool} {x y : Int} : one (bif b then x else y) = bif b then one x else one y := by cases b <;> rfl
variable {m : List tFuncD}
theorem specFn (hm : ∀ g ∈ m, g.1.length ≤ 4) (hf : Fm (m.length : Int) f) : Ev (fun k => U48.f k (m, ()) f) (one (code m f)) := by
 have hb1 := hf.b1
 unfold U48.f code
 refine Ev.bind (specPreds hf.b10 0) ?_
 have rest : Ev (R := IR) (fun k => Option.bind (U35.f k f) fun r2 => bif !r2.1.1.1 then some (((3, ()), ()), ()) else Option.bind (U41.f k f) fun r3 => bif !r3.1.1.1 then some (((4, ()), ()), ()) else Option.bind (U42.f k (m, ()) f) fun r4 => bif !r4.1.1.1 then some (((5, ()), ()), ()) else Option.bind (U47.f k f) fun r5 => bif !r5.1.1.1 then some (((6, ()), ()), ()) else some (((0, ()), ()), ()))
   (one (bif allI (phiN f) f.2.2.1 0 then (bif f.2.2.1.all (blkW f) then (bif f.2.2.1.all (fun x => x.2.1.all (callB m f)) then (bif domsB f then (0 : Int) else 6) else 5) else 4) else 3)) := by
  rw [one_cnd]
  refine Ev.bind (specArePhis hf) (Ev.cndn (fun hN => ?_) fun _ => Ev.cst rfl)
  rw [one_cnd]
  refine Ev.bind (specTypes hf) (Ev.cndn (fun _ => ?_) fun _ => Ev.cst rfl)
  rw [one_cnd]
  refine Ev.bind (specCalls hm hf) (Ev.cndn (fun _ => ?_) fun _ => Ev.cst rfl)
  rw [one_cnd]
  exact Ev.bind (specDoms hf hN) (Ev.cndn (fun _ => Ev.cst rfl) fun _ => Ev.cst rfl)
 unfold entryB
 by_cases h0 : (preds f 0).length = 0
 ·rw [dpos h0, Bool.and_true]
  refine Ev.neg (dneg (show ¬ (0 < (((preds f 0).length : Nat) : Int)) by omega)) (Ev.dd (by omega) (by omega) ?_)
  by_cases h1 : (f.2.2.1.getD 0 tBlockZ).1.length = 0
  ·rw [dpos h1]
   exact Ev.dn (by omega) rest
  ·rw [dneg h1]
   exact Ev.dp (by omega) (Ev.cst rfl)
 ·rw [dneg h0, Bool.and_false]
  exact Ev.pos (dpos (show 0 < (((preds f 0).length : Nat) : Int) by omega)) (Ev.cst rfl)
theorem implFn (hs : Small tFunc f) (hm : ∀ g ∈ m, g.1.length ≤ 4) (hf : Fm (m.length : Int) f) : Ev (fun k => U135.f k (m, ()) f) (one (code m f)) := by
 have hb1 := hf.b1
 have h10 := hf.b10
 unfold U135.f code
 rw [one_cnd]
 refine Ev.bind (implEntry hb1 h10) (Ev.cndn (fun _ => ?_) fun _ => Ev.cst rfl)
 rw [one_cnd]
 refine Ev.bind (implArePhis hs h10) (Ev.cndn (fun hN => ?_) fun _ => Ev.cst rfl)
 rw [one_cnd]
 refine Ev.bind (implTypes hs hf) (Ev.cndn (fun _ => ?_) fun _ => Ev.cst rfl)
 -- the blocks that are reached
 have hml := reachB_length f.2.2.1 (-1)
 have l1 := Ev.down (G := fun i k => U135.l1 k ((List.length (reachB f.2.2.1 (-1)) : Nat) : Int) (i : Int) f (reachB f.2.2.1 (-1))) (V := fun i => one (bif allI (fun j x => !x || blkS f (j : Int) (f.2.2.1.getD (Int.toNat (j : Int)) tBlockZ)) ((reachB f.2.2.1 (-1)).drop i) i then (0 : Int) else 6)) (reachB f.2.2.1 (-1)).length ?_ ?_ 0 (Nat.zero_le _)
 ·have l1' : Ev (fun k => U135.l1 k ((List.length (reachB f.2.2.1 (-1)) : Nat) : Int) 0 f (reachB f.2.2.1 (-1))) (one (bif domsB f then (0 : Int) else 6)) := by
   refine Ev.rw l1 ?_
   have e : domsB f = allI (fun j x => !x || blkS f (j : Int) (f.2.2.1.getD (Int.toNat (j : Int)) tBlockZ)) (reachB f.2.2.1 (-1)) 0 := all_idx (fun b => blkS f b (f.2.2.1.getD b.toNat tBlockZ)) (reachB f.2.2.1 (-1)) 0
   rw [e]; rfl
  exact each_ev (z := tBlockZ) (l := f.2.2.1) (L := fun k a => U135.l0 k f.2.2.1 ((List.length f.2.2.1 : Nat) : Int) a m f) (V := fun l => one (bif l.all (fun x => x.2.1.all (callB m f)) then (bif domsB f then (0 : Int) else 6) else 5)) (q := fun k x g => Option.bind (U126.f k x.2.1 m f) fun r1 => bif r1.1.1.1 then some (((5, ()), ()), ()) else g k)
   (by omega) (fun k a => rfl) (Ev.bind (implReach_ev f (-1) hf.there (by omega)) l1') fun x l g hx hg => by
    refine Ev.bind (implCalls hs hm hf hx) ?_
    rw [List.all_cons]
    cases x.2.1.all (callB m f) with
    | true => rw [Bool.true_and]; exact Ev.neg rfl hg
    | false => exact Ev.pos rfl (Ev.cst rfl)
 ·rw [List.drop_length]
  refine Ev.step (g' := fun _ => some (one (0 : Int))) (Ev.cst rfl) fun k => ?_
  show U135.l1_ k (U135.l0 k) (U135.l1 k) _ _ f _ = _
  unfold U135.l1_
  simp only [head_end, cond_false]
 ·intro i hi ih
  have hib : i < f.2.2.1.length := by omega
  rw [List.drop_eq_getElem_cons hi]
  refine Ev.succ ?_
  show Ev (fun k => U135.l1_ k (U135.l0 k) (U135.l1 k) _ _ f _) _
  unfold U135.l1_ allI
  simp only [head_in hi, head_0, Bool.and_self, cond_true, get_in hi, wrap_nat (show i < 9223372036854775807 by omega)]
  cases hmk : (reachB f.2.2.1 (-1))[i] with
  | false =>
   rw [Bool.not_false, Bool.true_or, Bool.true_and]
   exact Ev.neg rfl ih
  | true =>
   rw [Bool.not_true, Bool.false_or]
   refine Ev.pos rfl (Ev.bind (implBlk hs hf hN hib) ?_)
   rw [get_in hib]
   cases blkS f (i : Int) f.2.2.1[i] with
   | true => rw [Bool.true_and]; exact Ev.neg rfl ih
   | false => exact Ev.pos rfl (Ev.cst rfl)
end
def codeL (m : List tFuncD) : List tFuncD → Int
 | [] => 0
 | f :: l => bif !decide (code m f = 0) then code m f else codeL m l
def codeM (m : tModuleD) : Int := bif shapeB m then codeL m.1 m.1 else 1
theorem shape_fm {m : tModuleD} (h : shapeB m = true) : (∀ f ∈ m.1, Fm (m.1.length : Int) f) ∧ ∀ g ∈ m.1, g.1.length ≤ 4 := by
 simp only [shapeB, Bool.and_eq_true, List.all_eq_true] at h
 have h1 : ∀ f ∈ m.1, Fm (m.1.length : Int) f := fun f hf => Fm.of (h.2 f hf)
 exact ⟨h1, fun g hg => (h1 g hg).p4⟩
theorem specM {m : tModuleD} (hs : Small tModule m) : Ev (fun k => U49.f k m) (one (codeM m)) := by
 have hlen : m.1.length ≤ 1048576 := hs.1.1
 unfold U49.f codeM
 rw [one_cnd]
 refine Ev.bind (specShape (m := (m.1, ())) hs) (Ev.cndn (fun h => ?_) fun _ => Ev.cst rfl)
 obtain ⟨h1, h2⟩ := shape_fm h
 exact each_ev (z := tFuncZ) (l := m.1) (L := fun k a => U49.l0 k a m.1) (V := fun l => one (codeL m.1 l)) (q := fun k f g => Option.bind (U48.f k (m.1, ()) f) fun r1 => bif !decide (r1.1.1.1 = 0) then some (((r1.1.1.1, ()), ()), ()) else g k) (by omega) (fun k a => rfl) (Ev.cst rfl) fun f l g hf hg => by
  refine Ev.bind (specFn h2 (h1 _ hf)) ?_
  unfold codeL
  rw [one_cnd]
  exact Ev.cnd (fun _ => Ev.cst rfl) fun _ => hg
theorem implM {m : tModuleD} (hs : Small tModule m) : Ev (fun k => U136.f k m) (one (codeM m)) := by
 have hlen : m.1.length ≤ 1048576 := hs.1.1
 unfold U136.f codeM
 rw [one_cnd]
 refine Ev.bind (implShape (m := (m.1, ())) hs) (Ev.cndn (fun h => ?_) fun _ => Ev.cst rfl)
 obtain ⟨h1, h2⟩ := shape_fm h
 exact each_ev (z := tFuncZ) (l := m.1) (L := fun k a => U136.l0 k m.1 ((List.length m.1 : Nat) : Int) a m.1) (V := fun l => one (codeL m.1 l)) (q := fun k f g => Option.bind (U135.f k (m.1, ()) f) fun r1 => bif !decide (r1.1.1.1 = 0) then some (((r1.1.1.1, ()), ()), ()) else g k) (by omega) (fun k a => rfl) (Ev.cst rfl) fun f l g hf hg => by
  refine Ev.bind (implFn (hs.1.2 _ hf) h2 (h1 _ hf)) ?_
  unfold codeL
  rw [one_cnd]
  exact Ev.cnd (fun _ => Ev.cst rfl) fun _ => hg
theorem sumB_set {α : Type} (w : α → Int) : ∀ (l : List α) (b : Nat) (y : α) (h : b < l.length), w y = w l[b] → sumB w (l.set b y) = sumB w l
 | x :: l, 0, y, h, e => by simp only [List.set_cons_zero, sumB, List.getElem_cons_zero] at e ⊢; rw [e]
 | x :: l, b + 1, y, h, e => by
  simp only [List.set_cons_succ, sumB, List.getElem_cons_succ] at e ⊢
  rw [sumB_set w l b y (by simpa using h) e]
theorem sumB_set_le {α : Type} (w : α → Int) : ∀ (l : List α) (b : Nat) (y : α), (∀ h : b < l.length, w y ≤ w l[b]) → sumB w (l.set b y) ≤ sumB w l
 | [], b, y, h => Int.le_refl _
 | x :: l, 0, y, h => by
  have := h (by simp)
  simp only [List.set_cons_zero, sumB, List.getElem_cons_zero] at this ⊢
  omega
 | x :: l, b + 1, y, h => by
  have := sumB_set_le w l b y fun hb => h (Nat.succ_lt_succ hb)
  simp only [List.set_cons_succ, sumB]
  omega
section
variable {funcs : Int} {f : tFuncD}
/-- Other instructions in a block. -/
def setF (f : tFuncD) (b : Nat) (l : List tInstD) : tFuncD := (f.1, f.2.1, f.2.2.1.set b ((f.2.2.1.getD b tBlockZ).1, l, (f.2.2.1.getD b tBlockZ).2.2), ())
theorem setF_blk {b : Nat} (hb : b < f.2.2.1.length) : f.2.2.1.getD b tBlockZ = f.2.2.1[b] := getD_at _ _ _ hb
theorem setF_cnt {b : Nat} (hb : b < f.2.2.1.length) {l : List tInstD} (hl : l.length = f.2.2.1[b].2.1.length) : cntB (setF f b l) = cntB f := by
 rw [cntB_eq, cntB_eq]
 have : sumB wB (f.2.2.1.set b ((f.2.2.1.getD b tBlockZ).1, l, (f.2.2.1.getD b tBlockZ).2.2)) = sumB wB f.2.2.1 := sumB_set wB _ b _ hb (by
  rw [setF_blk hb]
  show ((f.2.2.1[b].1.length : Nat) : Int) + ((l.length : Nat) : Int) = _
  rw [hl]; rfl)
 show ((f.1.length : Nat) : Int) + sumB wB (f.2.2.1.set b _) = _
 rw [this]
theorem Fm.setF (hf : Fm funcs f) {b : Nat} (hb : b < f.2.2.1.length) {l : List tInstD} (hl : l.length = f.2.2.1[b].2.1.length) (hi : ∀ i ∈ l, instB (cntB f) funcs i = true) : Fm funcs (setF f b l) := by
 have hc := setF_cnt hb hl
 have hlen : (V.setF f b l).2.2.1.length = f.2.2.1.length := List.length_set
 have hmem : ∀ x ∈ (V.setF f b l).2.2.1, x ∈ f.2.2.1 ∨ x = (f.2.2.1[b].1, l, f.2.2.1[b].2.2) := fun x hx => by
  rcases List.mem_or_eq_of_mem_set (show x ∈ f.2.2.1.set b _ from hx) with h | h
  ·exact .inl h
  ·rw [setF_blk hb] at h; exact .inr h
 have hbm : f.2.2.1[b] ∈ f.2.2.1 := List.getElem_mem hb
 refine ⟨hf.p4, by rw [hlen]; exact hf.b1, by rw [hlen]; exact hf.b10, by rw [hc]; exact hf.cnt, hf.pw, fun x hx p hp => ?_, fun x hx i hi' => ?_, fun x hx => ?_⟩
 ·rw [hc]
  rcases hmem x hx with h | rfl
  ·exact hf.ph x h p hp
  ·exact hf.ph _ hbm p hp
 ·rw [hc]
  rcases hmem x hx with h | rfl
  ·exact hf.ins x h i hi'
  ·exact hi i hi'
 ·rw [hc, hlen]
  rcases hmem x hx with h | rfl
  ·exact hf.tm x h
  ·exact hf.tm f.2.2.1[b] hbm
theorem Fm.small (hf : Fm funcs f) : Small tFunc f := by
 have h4 := hf.p4
 have h10 := hf.b10
 refine ⟨⟨by show f.1.length ≤ 1048576; omega, fun _ _ => trivial⟩, trivial, ⟨by show f.2.2.1.length ≤ 1048576; omega, fun x hx => ⟨⟨?_, fun p hp => ⟨trivial, ⟨?_, fun _ _ => trivial⟩, trivial⟩⟩, ⟨?_, fun i hi => ⟨trivial, trivial, trivial, trivial, trivial, trivial, ⟨?_, fun _ _ => trivial⟩, trivial⟩⟩, ?_⟩⟩, trivial⟩
 ·have := (hf.phis hx).1
  show List.length (α := tPhiD) x.1 ≤ 1048576; omega
 ·have := hf.ph x hx p hp
  simp only [phiB, Bool.and_eq_true, decide_eq_true_eq] at this
  show p.2.1.length ≤ 1048576; exact Nat.le_trans this.1.2 (by decide)
 ·have := (hf.phis hx).2
  show List.length (α := tInstD) x.2.1 ≤ 1048576; omega
 ·have := (hf.vo hx hi).1
  show i.2.2.2.2.2.2.1.length ≤ 1048576; exact Nat.le_trans this (by decide)
 ·exact ⟨trivial, trivial, trivial, trivial, trivial⟩
end
section
variable {α : Type}
theorem take_push {l : List α} {i : Nat} (h : i < l.length) : l.take i ++ [l[i]] = l.take (i + 1) := (List.take_succ_eq_append_getElem h).symm
theorem len_push {l : List α} {i : Nat} {x : α} (b : Nat) (hb : b ≤ 100) (h : l.length ≤ 1048576) : (List.length (l.take i) + List.length [x]) * b ≤ 140737488355328 := by
 have h1 : List.length (l.take i) + List.length [x] ≤ 1048577 := by simp only [List.length_take, List.length_cons, List.length_nil]; omega
 exact Nat.le_trans (Nat.mul_le_mul h1 hb) (by decide)
end
theorem specCopyInst (k : Nat) {i : tInstD} (h : i.2.2.2.2.2.2.1.length ≤ 1048576) : U50.f k i = some (((i.1, i.2.1, i.2.2.1, i.2.2.2.1, i.2.2.2.2.1, i.2.2.2.2.2.1, (), ()), ()), (i.2.2.2.2.2.2.1, ())) := by
 unfold U50.f
 rw [specCopy k h]; rfl
theorem specCopyBlock {x : tBlockD} (h : Small tBlock x) : Ev (fun k => U51.f k x) ((((), (), x.2.2.1, x.2.2.2.1, x.2.2.2.2.1, x.2.2.2.2.2.1, ()), ()), (x.1, x.2.1, ())) := by
 have hp : x.1.length ≤ 1048576 := h.1.1
 have hi : x.2.1.length ≤ 1048576 := h.2.1.1
 unfold U51.f
 refine st_loop (n0 := x.1.length) (L := fun k a s => U51.l0 k a x 0 0 0 0 [] [] x.2.2.1 x.2.2.2.1 x.2.2.2.2.1 x.2.2.2.2.2.1 s []) (T := fun k s => U51.l1 k 0 x 0 0 0 0 [] [] x.2.2.1 x.2.2.2.1 x.2.2.2.2.1 x.2.2.2.2.2.1 s []) (fun i => x.1.take i) (fun r e => Ev.sk1 ?_) (fun i r hlt e => Ev.sk1 ?_) ?_
 ·show Ev (fun k => U51.l0_ k (U51.l0 k) (U51.l1 k) _ _ _ _ _ _ _ _ _ _ _ _ _ _) _
  simp only [U51.l0_, head_end, cond_false]
  exact e
 ·show Ev (fun k => U51.l0_ k (U51.l0 k) (U51.l1 k) _ _ _ _ _ _ _ _ _ _ _ _ _ _) _
  simp only [U51.l0_, head_in hlt, head_0, Bool.and_self, cond_true, Int.toNat_natCast, getD_at _ _ _ hlt, wrap_nat (show i < 9223372036854775807 by omega)]
  refine Ev.bind (Ev.all fun k => specCopy k (h.1.2 _ (List.getElem_mem hlt)).2.1.1) (Ev.dp (len_push 32 (by decide) hp) ?_)
  simp only [← take_push hlt] at e
  exact e
 ·simp only [List.take_length]
  refine (st_loop (n0 := x.2.1.length) (L := fun k a s => U51.l1 k a x 0 0 0 0 [] [] x.2.2.1 x.2.2.2.1 x.2.2.2.2.1 x.2.2.2.2.2.1 x.1 s) (T := fun k s => some ((((), (), x.2.2.1, x.2.2.2.1, x.2.2.2.2.1, x.2.2.2.2.2.1, ()), ()), (x.1, s, ()))) (fun i => x.2.1.take i) (fun r e => Ev.sk1 ?_) (fun i r hlt e => Ev.sk1 ?_) (r := ((((), (), x.2.2.1, x.2.2.2.1, x.2.2.2.2.1, x.2.2.2.2.2.1, ()), ()), (x.1, x.2.1, ()))) ?_)
  ·show Ev (fun k => U51.l1_ k (U51.l0 k) (U51.l1 k) _ _ _ _ _ _ _ _ _ _ _ _ _ _) _
   simp only [U51.l1_, head_end, cond_false]
   exact e
  ·show Ev (fun k => U51.l1_ k (U51.l0 k) (U51.l1 k) _ _ _ _ _ _ _ _ _ _ _ _ _ _) _
   simp only [U51.l1_, head_in hlt, head_0, Bool.and_self, cond_true, Int.toNat_natCast, getD_at _ _ _ hlt, wrap_nat (show i < 9223372036854775807 by omega)]
   refine Ev.bind (Ev.all fun k => specCopyInst k (h.2.1.2 _ (List.getElem_mem hlt)).2.2.2.2.2.2.1.1) (Ev.dp (len_push 72 (by decide) hi) ?_)
   simp only [← take_push hlt] at e
   exact e
  ·simp only [List.take_length]
   exact Ev.cst rfl
theorem specCopyFunc {f : tFuncD} (h : Small tFunc f) : Ev (fun k => U52.f k f) ((((), f.2.1, (), ()), ()), (f.1, f.2.2.1, ())) := by
 have hb : f.2.2.1.length ≤ 1048576 := h.2.2.1.1
 unfold U52.f
 refine Ev.bind (Ev.all fun k => specCopy k h.1.1) ?_
 refine (st_loop (n0 := f.2.2.1.length) (L := fun k a s => U52.l0 k a f 0 [] [] f.2.1 f.1 s) (T := fun k s => some ((((), f.2.1, (), ()), ()), (f.1, s, ()))) (fun i => f.2.2.1.take i) (fun r e => Ev.sk1 ?_) (fun i r hlt e => Ev.sk1 ?_) ?_)
 ·show Ev (fun k => U52.l0_ k (U52.l0 k) _ _ _ _ _ _ _ _) _
  simp only [U52.l0_, head_end, cond_false]
  exact e
 ·show Ev (fun k => U52.l0_ k (U52.l0 k) _ _ _ _ _ _ _ _) _
  simp only [U52.l0_, head_in hlt, head_0, Bool.and_self, cond_true, Int.toNat_natCast, getD_at _ _ _ hlt, wrap_nat (show i < 9223372036854775807 by omega)]
  refine Ev.bind (specCopyBlock (h.2.2.1.2 _ (List.getElem_mem hlt))) (Ev.dp (len_push 80 (by decide) hb) ?_)
  simp only [← take_push hlt] at e
  exact e
 ·simp only [List.take_length]
  exact Ev.cst rfl
theorem implOwnInst (k : Nat) {i : tInstD} (h : i.2.2.2.2.2.2.1.length ≤ 1048576) : U138.f k i = some (((i.1, i.2.1, i.2.2.1, i.2.2.2.1, i.2.2.2.2.1, i.2.2.2.2.2.1, (), ()), ()), (i.2.2.2.2.2.2.1, ())) := by
 unfold U138.f
 rw [implClone k h]; rfl
theorem implOwnBlock {x : tBlockD} (h : Small tBlock x) : Ev (fun k => U139.f k x) ((((), (), x.2.2.1, x.2.2.2.1, x.2.2.2.2.1, x.2.2.2.2.2.1, ()), ()), (x.1, x.2.1, ())) := by
 have hp : x.1.length ≤ 1048576 := h.1.1
 have hi : x.2.1.length ≤ 1048576 := h.2.1.1
 unfold U139.f
 refine st_loop (n0 := x.1.length) (L := fun k a s => U139.l0 k x.1 (x.1.length : Int) a x 0 0 0 0 [] [] x.2.2.1 x.2.2.2.1 x.2.2.2.2.1 x.2.2.2.2.2.1 s []) (T := fun k s => U139.l1 k x.2.1 (x.2.1.length : Int) 0 0 0 0 0 [] [] x.2.2.1 x.2.2.2.1 x.2.2.2.2.1 x.2.2.2.2.2.1 s []) (fun i => x.1.take i) (fun r e => Ev.sk1 ?_) (fun i r hlt e => Ev.sk1 ?_) ?_
 ·show Ev (fun k => U139.l0_ k (U139.l0 k) (U139.l1 k) _ _ _ _ _ _ _ _ _ _ _ _ _ _ _ _) _
  simp only [U139.l0_, head_end, cond_false]
  exact e
 ·show Ev (fun k => U139.l0_ k (U139.l0 k) (U139.l1 k) _ _ _ _ _ _ _ _ _ _ _ _ _ _ _ _) _
  simp only [U139.l0_, head_in hlt, head_0, Bool.and_self, cond_true, Int.toNat_natCast, getD_at _ _ _ hlt, wrap_nat (show i < 9223372036854775807 by omega)]
  refine Ev.bind (Ev.all fun k => implClone k (h.1.2 _ (List.getElem_mem hlt)).2.1.1) (Ev.dp (len_push 32 (by decide) hp) ?_)
  simp only [← take_push hlt] at e
  exact e
 ·simp only [List.take_length]
  refine (st_loop (n0 := x.2.1.length) (L := fun k a s => U139.l1 k x.2.1 (x.2.1.length : Int) a 0 0 0 0 [] [] x.2.2.1 x.2.2.2.1 x.2.2.2.2.1 x.2.2.2.2.2.1 x.1 s) (T := fun k s => some ((((), (), x.2.2.1, x.2.2.2.1, x.2.2.2.2.1, x.2.2.2.2.2.1, ()), ()), (x.1, s, ()))) (fun i => x.2.1.take i) (fun r e => Ev.sk1 ?_) (fun i r hlt e => Ev.sk1 ?_) (r := ((((), (), x.2.2.1, x.2.2.2.1, x.2.2.2.2.1, x.2.2.2.2.2.1, ()), ()), (x.1, x.2.1, ()))) ?_)
  ·show Ev (fun k => U139.l1_ k (U139.l0 k) (U139.l1 k) _ _ _ _ _ _ _ _ _ _ _ _ _ _ _) _
   simp only [U139.l1_, head_end, cond_false]
   exact e
  ·show Ev (fun k => U139.l1_ k (U139.l0 k) (U139.l1 k) _ _ _ _ _ _ _ _ _ _ _ _ _ _ _) _
   simp only [U139.l1_, head_in hlt, head_0, Bool.and_self, cond_true, Int.toNat_natCast, getD_at _ _ _ hlt, wrap_nat (show i < 9223372036854775807 by omega)]
   refine Ev.bind (Ev.all fun k => implOwnInst k (h.2.1.2 _ (List.getElem_mem hlt)).2.2.2.2.2.2.1.1) (Ev.dp (len_push 72 (by decide) hi) ?_)
   simp only [← take_push hlt] at e
   exact e
  ·simp only [List.take_length]
   exact Ev.cst rfl
theorem implOwnFunc {f : tFuncD} (h : Small tFunc f) : Ev (fun k => U140.f k f) ((((), f.2.1, (), ()), ()), (f.1, f.2.2.1, ())) := by
 have hb : f.2.2.1.length ≤ 1048576 := h.2.2.1.1
 unfold U140.f
 refine Ev.bind (Ev.all fun k => implClone k h.1.1) ?_
 refine (st_loop (n0 := f.2.2.1.length) (L := fun k a s => U140.l0 k f.2.2.1 (f.2.2.1.length : Int) a 0 [] [] f.2.1 f.1 s) (T := fun k s => some ((((), f.2.1, (), ()), ()), (f.1, s, ()))) (fun i => f.2.2.1.take i) (fun r e => Ev.sk1 ?_) (fun i r hlt e => Ev.sk1 ?_) ?_)
 ·show Ev (fun k => U140.l0_ k (U140.l0 k) _ _ _ _ _ _ _ _ _) _
  simp only [U140.l0_, head_end, cond_false]
  exact e
 ·show Ev (fun k => U140.l0_ k (U140.l0 k) _ _ _ _ _ _ _ _ _) _
  simp only [U140.l0_, head_in hlt, head_0, Bool.and_self, cond_true, Int.toNat_natCast, getD_at _ _ _ hlt, wrap_nat (show i < 9223372036854775807 by omega)]
  refine Ev.bind (implOwnBlock (h.2.2.1.2 _ (List.getElem_mem hlt))) (Ev.dp (len_push 80 (by decide) hb) ?_)
  simp only [← take_push hlt] at e
  exact e
 ·simp only [List.take_length]
  exact Ev.cst rfl
theorem sz_then {n s : Int} {g : Nat → Option IR} (h : Ev g (one s)) : Ev (fun k => Option.bind (g k) fun r1 => bif decide (r1.1.1.1 < 0) then some (((-1, ()), ()), ()) else some (((r1.1.1.1, ()), ()), ())) (one (if s < 0 then -1 else s)) := by
 refine Ev.bind h ?_
 by_cases hs : s < 0
 ·rw [if_pos hs]; exact Ev.pos (dpos hs) (Ev.cst rfl)
 ·rw [if_neg hs]; exact Ev.neg (dneg hs) (Ev.cst rfl)
theorem szInts : SzOK (.list (.int .i64)) U0.f := by
 intro l hw n h0 h1
 have hlen : List.length (α := Int) l ≤ 9223372036854775807 := hw.1
 have hwr : IntKind.wrap .i64 (n - (List.length (α := Int) l : Int)) = n - (List.length (α := Int) l : Int) := wrap_id (by omega) (by omega)
 have he : ∀ k, U0.f k l n = bif decide (n - (List.length (α := Int) l : Int) < 0) then some (one (-1)) else some (one (n - (List.length (α := Int) l : Int))) := fun k => by
  show (bif decide (IntKind.wrap .i64 (n - (List.length (α := Int) l : Int)) < 0) then _ else _) = _
  rw [hwr]
 by_cases hs : n - (List.length (α := Int) l : Int) < 0
 ·exact ⟨-1, Ev.all fun k => by rw [he, dpos hs]; rfl, by omega, by omega, fun h => by omega⟩
 ·exact ⟨_, Ev.all fun k => by rw [he, dneg hs]; rfl, by omega, by omega, fun h => ⟨by show List.length (α := Int) l ≤ _; omega, fun _ _ => trivial⟩⟩
theorem szPhi : SzOK tPhi U1.f := by
 intro x hw n h0 h1
 obtain ⟨s, e, a, b, c⟩ := szInts _ hw.2.1 n h0 h1
 exact ⟨_, sz_then (n := n) e, by split <;> omega, by split <;> omega, fun h => ⟨trivial, c (by split at h <;> omega), trivial⟩⟩
theorem szPhiS : SzOK (.list tPhi) U2.f := sz_list (z := tPhiZ) szPhi (L := U2.l0) (fun k l a b => rfl) fun k l a => rfl
theorem szInst : SzOK tInst U3.f := by
 intro x hw n h0 h1
 obtain ⟨s, e, a, b, c⟩ := szInts _ hw.2.2.2.2.2.2.1 n h0 h1
 exact ⟨_, sz_then (n := n) e, by split <;> omega, by split <;> omega, fun h => ⟨trivial, trivial, trivial, trivial, trivial, trivial, c (by split at h <;> omega), trivial⟩⟩
theorem szInstS : SzOK (.list tInst) U4.f := sz_list (z := tInstZ) szInst (L := U4.l0) (fun k l a b => rfl) fun k l a => rfl
theorem sz_two {n s : Int} {g : Nat → Option IR} {f : Nat → Int → Option IR} {r : Int} (h : Ev g (one s)) (h' : 0 ≤ s → Ev (fun k => f k s) (one r)) (hr : s < 0 → r = -1) : Ev (fun k => Option.bind (g k) fun r1 => bif decide (r1.1.1.1 < 0) then some (((-1, ()), ()), ()) else f k r1.1.1.1) (one r) := by
 refine Ev.bind h ?_
 by_cases hs : s < 0
 ·rw [hr hs]; exact Ev.pos (dpos hs) (Ev.cst rfl)
 ·exact Ev.neg (dneg hs) (h' (by omega))
theorem szBlock : SzOK tBlock U5.f := by
 intro x hw n h0 h1
 obtain ⟨s, e, a, b, c⟩ := szPhiS _ hw.1 n h0 h1
 by_cases hs : s < 0
 ·exact ⟨-1, sz_two (n := n) (f := fun k s => Option.bind (U4.f k x.2.1 s) fun r1 => bif decide (r1.1.1.1 < 0) then some (((-1, ()), ()), ()) else some (((r1.1.1.1, ()), ()), ())) e (fun h => by omega) (fun _ => rfl), by omega, by omega, fun h => by omega⟩
 ·obtain ⟨s', e', a', b', c'⟩ := szInstS _ hw.2.1 s (by omega) (by omega)
  exact ⟨_, sz_two (n := n) (f := fun k s => Option.bind (U4.f k x.2.1 s) fun r1 => bif decide (r1.1.1.1 < 0) then some (((-1, ()), ()), ()) else some (((r1.1.1.1, ()), ()), ())) e (fun _ => sz_then (n := n) e') (fun h => by omega), by split <;> omega, by split <;> omega, fun h => ⟨c (by omega), c' (by split at h <;> omega), trivial, trivial, trivial, trivial, trivial⟩⟩
theorem szBlockS : SzOK (.list tBlock) U6.f := sz_list (z := tBlockZ) szBlock (L := U6.l0) (fun k l a b => rfl) fun k l a => rfl
theorem szFunc : SzOK tFunc U7.f := by
 intro x hw n h0 h1
 obtain ⟨s, e, a, b, c⟩ := szInts _ hw.1 n h0 h1
 by_cases hs : s < 0
 ·exact ⟨-1, sz_two (n := n) (f := fun k s => Option.bind (U6.f k x.2.2.1 s) fun r1 => bif decide (r1.1.1.1 < 0) then some (((-1, ()), ()), ()) else some (((r1.1.1.1, ()), ()), ())) e (fun h => by omega) (fun _ => rfl), by omega, by omega, fun h => by omega⟩
 ·obtain ⟨s', e', a', b', c'⟩ := szBlockS _ hw.2.2.1 s (by omega) (by omega)
  exact ⟨_, sz_two (n := n) (f := fun k s => Option.bind (U6.f k x.2.2.1 s) fun r1 => bif decide (r1.1.1.1 < 0) then some (((-1, ()), ()), ()) else some (((r1.1.1.1, ()), ()), ())) e (fun _ => sz_then (n := n) e') (fun h => by omega), by split <;> omega, by split <;> omega, fun h => ⟨c (by omega), trivial, c' (by split at h <;> omega), trivial⟩⟩
theorem toInts {l : List Int} (h : Small (.list (.int .i64)) l) : Ev (fun k => U10.f k l) (rowR l) :=
 to_list (z := 0) (L := U10.l0) (q := fun k x h => h x) (b := 8) (R := Unit) (fun k l a b => rfl) (fun k l => rfl) h.1 (by omega) (by omega) fun x _ h r hh => hh
theorem toPhi {x : tPhiD} (h : Small tPhi x) : Ev (fun k => U11.f k x) (((x.1, (), ()), ()), (x.2.1, ())) := Ev.bind (toInts h.2.1) (Ev.cst rfl)
theorem toPhiS {l : List tPhiD} (h : Small (.list tPhi) l) : Ev (fun k => U12.f k l) (rowR l) :=
 to_list (z := tPhiZ) (L := U12.l0) (q := fun k x h => Option.bind (U11.f k x) fun r1 => h (r1.1.1.1, r1.2.1, ())) (b := 32) (R := Unit) (fun k l a b => rfl) (fun k l => rfl) h.1 (by omega) (by omega) fun x hx g r hh => Ev.bind (toPhi (h.2 x hx)) hh
theorem toInst {x : tInstD} (h : Small tInst x) : Ev (fun k => U13.f k x) (((x.1, x.2.1, x.2.2.1, x.2.2.2.1, x.2.2.2.2.1, x.2.2.2.2.2.1, (), ()), ()), (x.2.2.2.2.2.2.1, ())) := Ev.bind (toInts h.2.2.2.2.2.2.1) (Ev.cst rfl)
theorem toInstS {l : List tInstD} (h : Small (.list tInst) l) : Ev (fun k => U14.f k l) (rowR l) :=
 to_list (z := tInstZ) (L := U14.l0) (q := fun k x h => Option.bind (U13.f k x) fun r1 => h (r1.1.1.1, r1.1.1.2.1, r1.1.1.2.2.1, r1.1.1.2.2.2.1, r1.1.1.2.2.2.2.1, r1.1.1.2.2.2.2.2.1, r1.2.1, ())) (b := 72) (R := Unit) (fun k l a b => rfl) (fun k l => rfl) h.1 (by omega) (by omega) fun x hx g r hh => Ev.bind (toInst (h.2 x hx)) hh
theorem toBlock {x : tBlockD} (h : Small tBlock x) : Ev (fun k => U16.f k x) ((((), (), x.2.2.1, x.2.2.2.1, x.2.2.2.2.1, x.2.2.2.2.2.1, ()), ()), (x.1, x.2.1, ())) := Ev.bind (toPhiS h.1) (Ev.bind (toInstS h.2.1) (Ev.cst rfl))
theorem toBlockS {l : List tBlockD} (h : Small (.list tBlock) l) : Ev (fun k => U17.f k l) (rowR l) :=
 to_list (z := tBlockZ) (L := U17.l0) (q := fun k x h => Option.bind (U16.f k x) fun r1 => h (r1.2.1, r1.2.2.1, r1.1.1.2.2.1, r1.1.1.2.2.2.1, r1.1.1.2.2.2.2.1, r1.1.1.2.2.2.2.2.1, ())) (b := 80) (R := Unit) (fun k l a b => rfl) (fun k l => rfl) h.1 (by omega) (by omega) fun x hx g r hh => Ev.bind (toBlock (h.2 x hx)) hh
theorem toFunc {x : tFuncD} (h : Small tFunc x) : Ev (fun k => U18.f k x) ((((), x.2.1, (), ()), ()), (x.1, x.2.2.1, ())) := Ev.bind (toInts h.1) (Ev.bind (toBlockS h.2.2.1) (Ev.cst rfl))
theorem eqInts {l : List Int} (h : Small (.list (.int .i64)) l) : Ev (fun k => U154.f k l l) (one true) :=
 eq_list (z := 0) (L := U154.l0) (q := fun k x y g => bif !decide (x = y) then some (((false, ()), ()), ()) else g) (fun k l m a => rfl) (fun k l m => rfl) h.1 fun x _ g r hh => Ev.neg (by rw [dpos rfl]; rfl) hh
theorem Ev.skip {R : Type} {n : Int} {o : Option R} {g : Nat → Option R} {r : R} (h : Ev g r) : Ev (fun k => bif !decide (n = n) then o else g k) r := Ev.neg (by rw [dpos rfl]; rfl) h
theorem Ev.yes {g : Nat → Option BR} {f : Nat → Option BR} {o : Option BR} {r : BR} (h : Ev g (one true)) (hf : Ev f r) : Ev (fun k => Option.bind (g k) fun r1 => bif !r1.1.1.1 then o else f k) r := Ev.bind h (Ev.neg rfl hf)
theorem eqPhi {x : tPhiD} (h : Small tPhi x) : Ev (fun k => U155.f k x x) (one true) := Ev.skip (Ev.yes (eqInts h.2.1) (Ev.cst rfl))
theorem eqPhiS {l : List tPhiD} (h : Small (.list tPhi) l) : Ev (fun k => U156.f k l l) (one true) :=
 eq_list (z := tPhiZ) (L := U156.l0) (q := fun k x y g => Option.bind (U155.f k x y) fun r1 => bif !r1.1.1.1 then some (((false, ()), ()), ()) else g) (fun k l m a => rfl) (fun k l m => rfl) h.1 fun x hx g r hh => Ev.yes (eqPhi (h.2 x hx)) hh
theorem eqInst {x : tInstD} (h : Small tInst x) : Ev (fun k => U157.f k x x) (one true) := Ev.skip (Ev.skip (Ev.skip (Ev.skip (Ev.skip (Ev.skip (Ev.yes (eqInts h.2.2.2.2.2.2.1) (Ev.cst rfl)))))))
theorem eqInstS {l : List tInstD} (h : Small (.list tInst) l) : Ev (fun k => U158.f k l l) (one true) :=
 eq_list (z := tInstZ) (L := U158.l0) (q := fun k x y g => Option.bind (U157.f k x y) fun r1 => bif !r1.1.1.1 then some (((false, ()), ()), ()) else g) (fun k l m a => rfl) (fun k l m => rfl) h.1 fun x hx g r hh => Ev.yes (eqInst (h.2 x hx)) hh
theorem eqTerm {x : tTermD} : Ev (fun k => U159.f k x x) (one true) := Ev.skip (Ev.skip (Ev.skip (Ev.skip (Ev.cst rfl))))
theorem eqBlock {x : tBlockD} (h : Small tBlock x) : Ev (fun k => U160.f k x x) (one true) := Ev.yes (eqPhiS h.1) (Ev.yes (eqInstS h.2.1) (Ev.yes eqTerm (Ev.cst rfl)))
theorem eqBlockS {l : List tBlockD} (h : Small (.list tBlock) l) : Ev (fun k => U161.f k l l) (one true) :=
 eq_list (z := tBlockZ) (L := U161.l0) (q := fun k x y g => Option.bind (U160.f k x y) fun r1 => bif !r1.1.1.1 then some (((false, ()), ()), ()) else g) (fun k l m a => rfl) (fun k l m => rfl) h.1 fun x hx g r hh => Ev.yes (eqBlock (h.2 x hx)) hh
theorem eqFunc {x : tFuncD} (h : Small tFunc x) : Ev (fun k => U162.f k x x) (one true) := Ev.yes (eqInts h.1) (Ev.skip (Ev.yes (eqBlockS h.2.2.1) (Ev.cst rfl)))
/-- A function and whether there is one, as it is returned. -/
abbrev fR (c : Bool) (g : tFuncD) : (((Unit × Int × Unit × Unit) × (Bool × Unit) × Unit) × ((List Int) × (List tBlockD) × Unit)) := ((((), g.2.1, (), ()), (c, ()), ()), (g.1, g.2.2.1, ()))
def cpyI (w a : Int) : tInstD := (27, w, a, 0, 0, 0, [], ())
abbrev rN (i : tInstD) : (((Int × Int × Int × Int × Int × Int × Unit × Unit) × Unit) × Unit) := (((i.1, i.2.1, i.2.2.1, i.2.2.2.1, i.2.2.2.2.1, i.2.2.2.2.2.1, (), ()), ()), ())
theorem specCpy (k : Nat) (w a : Int) : U60.f k w a = some (rN (cpyI w a)) := rfl
theorem implCpy (k : Nat) {i : tInstD} (h : i.1 = 24 ∨ i.1 = 25 → i.2.1 = 0) (a : Int) : U148.f k i a = some (rN (cpyI (widthI i) a)) := by
 unfold U148.f
 rw [implWidth k h]; rfl
section
variable {funcs : Int} {f : tFuncD}
def mtB (f : tFuncD) (id b at' : Int) (key : ByteArray) (d : Int) : Bool := !decide (d = id) && (keyQ f d && (strEq (keyS f d) key && seesB f d b at'))
def fndL (f : tFuncD) (id b at' : Int) (key : ByteArray) : Nat → Int → Option Int
 | 0, _ => none
 | n + 1, d => bif mtB f id b at' key d then some d else fndL f id b at' key n (d + 1)
theorem fnd_in {id b at' : Int} {key : ByteArray} : ∀ {n : Nat} {d e : Int}, fndL f id b at' key n d = some e → d ≤ e ∧ e < d + n
 | 0, d, e, h => by cases h
 | n + 1, d, e, h => by
  unfold fndL at h
  cases hm : mtB f id b at' key d with
  | true =>
   rw [hm, cond_true] at h
   have := Option.some.inj h
   omega
  | false =>
   rw [hm, cond_false] at h
   have := fnd_in h
   omega
theorem fnd_skip {id b at' : Int} {key : ByteArray} {n : Nat} : ∀ (p : Nat) (d : Int), (∀ e, d ≤ e → e < d + p → mtB f id b at' key e = false) → fndL f id b at' key (n + p) d = fndL f id b at' key n (d + p)
 | 0, d, _ => by rw [Nat.add_zero, show d + ((0 : Nat) : Int) = d by omega]
 | p + 1, d, h => by
  rw [← Nat.add_assoc]
  show (bif mtB f id b at' key d then some d else fndL f id b at' key (n + p) (d + 1)) = _
  rw [h d (by omega) (by omega), cond_false, fnd_skip p (d + 1) fun e h1 h2 => h e (by omega) (by omega)]
  congr 1
  omega
theorem key_param {d : Int} (h0 : 0 ≤ d) (h1 : d < (f.1.length : Int)) : keyQ f d = false := by
 unfold keyQ instK
 by_cases hv : 0 ≤ d ∧ d < cntB f
 ·rw [if_pos hv]
  have hp : placeOf f d = (-1, d) := if_pos h1
  unfold instP
  rw [hp, if_pos rfl]; rfl
 ·rw [if_neg hv]; rfl
theorem cnt_ge (f : tFuncD) : (f.1.length : Int) ≤ cntB f := by
 rw [cntB_eq]
 have := sumB_nonneg (w := wB) (l := f.2.2.1) fun y _ => wB_nonneg y
 omega
theorem fnd_all {id b at' : Int} {key : ByteArray} : fndL f id b at' key (cntB f).toNat 0 = fndL f id b at' key (cntB f - (f.1.length : Int)).toNat (f.1.length : Int) := by
 have hc := cnt_ge f
 have e : (cntB f).toNat = (cntB f - (f.1.length : Int)).toNat + f.1.length := by omega
 rw [e, fnd_skip f.1.length 0 fun e h1 h2 => by unfold mtB; rw [key_param h1 (by omega)]; simp]
 congr 1
 omega
/-- Where an id lies, seen from a block's instruction. -/
theorem ahead_iff {b : Nat} (hb : b < f.2.2.1.length) {at' d : Int} (v : vid f d) : (placeOf f d).1 = (b : Int) → (d < firstB f b + at' ↔ (placeOf f d).2 < at') := by
 rcases place_cases d v.1 v.2 with ⟨hl, hp⟩ | ⟨hl, j, hj, hp, ha, hb'⟩
 ·rw [hp]; intro h; have h' : (-1 : Int) = (b : Int) := h; omega
 ·rw [hp]
  intro h
  have h' : (j : Int) = (b : Int) := h
  obtain rfl : j = b := by omega
  unfold firstB
  show _ ↔ d - (f.1.length : Int) - sumB wB (f.2.2.1.take j) < at'
  omega
theorem implTwin_l (hs : Small tFunc f) (hf : Fm funcs f) (hm : funcs ≤ 3) {b : Nat} (hb : b < f.2.2.1.length) {at' : Int} (key : ByteArray) : ∀ (n : Nat) (d : Int), 0 ≤ d → d + n = cntB f → Ev (fun k => U147.l0 k (firstB f b + at') (b : Int) key (cntB f) d f) (one ((fndL f (firstB f b + at') (b : Int) at' key n d).getD (-1))) := by
 have h60 := hf.cnt
 intro n
 induction n with
 | zero =>
  intro d h0 hd
  refine Ev.sk1 ?_
  show Ev (fun k => U147.l0_ k (U147.l0 k) _ _ _ _ _ _) _
  unfold U147.l0_
  exact Ev.dn (by omega) (Ev.cst rfl)
 | succ n ih =>
  intro d h0 hd
  have hi := ih (d + 1) (by omega) (by omega)
  have v : vid f d := ⟨h0, by omega⟩
  refine Ev.sk1 ?_
  show Ev (fun k => U147.l0_ k (U147.l0 k) _ _ _ _ _ _) (one ((bif mtB f (firstB f b + at') (b : Int) at' key d then some d else fndL f (firstB f b + at') (b : Int) at' key n (d + 1)).getD (-1)))
  unfold U147.l0_ mtB
  rw [wrap_id (x := d + 1) (by omega) (by omega)]
  refine Ev.dp (by omega) ?_
  by_cases c : d = firstB f b + at'
  ·rw [dpos c]
   exact Ev.pos rfl hi
  ·rw [dneg c]
   refine Ev.neg rfl (Ev.bind (implKeyL hs hf hm) ?_)
   cases hq : keyQ f d with
   | false => exact Ev.neg rfl hi
   | true =>
    refine Ev.pos rfl ?_
    show Ev (fun k => bif strEq (keyS f d) key then _ else _) _
    cases he : strEq (keyS f d) key with
    | false => exact Ev.neg rfl hi
    | true =>
     refine Ev.pos rfl (Ev.bind (implSeen hs hf v (by omega) (by omega) (ahead_iff hb v)) ?_)
     cases hse : seesB f d (b : Int) at' with
     | false => exact Ev.neg rfl hi
     | true => exact Ev.pos rfl (Ev.cst rfl)
theorem implTwin (hs : Small tFunc f) (hf : Fm funcs f) (hm : funcs ≤ 3) {b : Nat} (hb : b < f.2.2.1.length) {at' : Int} (key : ByteArray) : Ev (fun k => U147.f k f (firstB f b + at') (b : Int) key) (one ((fndL f (firstB f b + at') (b : Int) at' key (cntB f - (f.1.length : Int)).toNat (f.1.length : Int)).getD (-1))) := by
 have hc := cnt_ge f
 unfold U147.f
 refine Ev.bind (implCount hs) ((implTwin_l hs hf hm hb key (cntB f).toNat 0 (by omega) (by omega)).rw ?_)
 rw [fnd_all]
def updB (bs : List tBlockD) (b i : Nat) (w : Int) : Option Int → List tBlockD
 | none => bs
 | some d => bs.set b ((bs.getD b tBlockZ).1, (bs.getD b tBlockZ).2.1.set i (cpyI w d), (bs.getD b tBlockZ).2.2)
def tgt (f : tFuncD) (b : Nat) (at' : Int) : Option Int := bif keyQ f (firstB f b + at') && markB f (b : Int) then fndL f (firstB f b + at') (b : Int) at' (keyS f (firstB f b + at')) (cntB f - (f.1.length : Int)).toNat (f.1.length : Int) else none
abbrev blk (f : tFuncD) (b : Nat) : tBlockD := f.2.2.1.getD b tBlockZ
def inS (f : tFuncD) (b : Nat) (bs : List tBlockD) : Nat → List tBlockD
 | 0 => bs
 | i + 1 => updB (inS f b bs i) b i (widthI ((blk f b).2.1.getD i tInstZ)) (tgt f b (((blk f b).1.length : Int) + (i : Int)))
def ouS (f : tFuncD) : Nat → List tBlockD
 | 0 => f.2.2.1
 | b + 1 => inS f b (ouS f b) (blk f b).2.1.length
def shareFn (f : tFuncD) : tFuncD := (f.1, f.2.1, ouS f f.2.2.1.length, ())
/-- As many blocks and instructions as there were. -/
def Like (f : tFuncD) (bs : List tBlockD) : Prop := bs.length = f.2.2.1.length ∧ ∀ c, (bs.getD c tBlockZ).2.1.length = (blk f c).2.1.length
theorem getD_set (bs : List tBlockD) (b c : Nat) (y : tBlockD) : (bs.set b y).getD c tBlockZ = if b = c ∧ b < bs.length then y else bs.getD c tBlockZ := by
 simp only [List.getD_eq_getElem?_getD, List.getElem?_set]
 by_cases e : b = c
 ·subst e
  by_cases h : b < bs.length
  ·simp [h]
  ·simp [h]
 ·simp [e]
theorem Like.upd {bs : List tBlockD} (h : Like f bs) (b i : Nat) (w : Int) (t : Option Int) : Like f (updB bs b i w t) := by
 cases t with
 | none => exact h
 | some d =>
  refine ⟨List.length_set.trans h.1, fun c => ?_⟩
  show ((bs.set b _).getD c tBlockZ).2.1.length = _
  rw [getD_set]
  by_cases e : b = c ∧ b < bs.length
  ·rw [if_pos e, ← h.2 c, ← e.1]
   exact List.length_set
  ·rw [if_neg e]; exact h.2 c
theorem Like.ins {bs : List tBlockD} (h : Like f bs) (b : Nat) : ∀ i, Like f (inS f b bs i)
 | 0 => h
 | i + 1 => (Like.ins h b i).upd b i _ _
theorem Like.ous (f : tFuncD) : ∀ b, Like f (ouS f b)
 | 0 => ⟨rfl, fun _ => rfl⟩
 | b + 1 => (Like.ous f b).ins b _
theorem set_blk {bs : List tBlockD} {b : Nat} (h : b < bs.length) : bs.set b (bs.getD b tBlockZ) = bs := by rw [getD_at _ _ _ h, List.set_getElem_self]
theorem inst_in (hf : Fm funcs f) {b : Nat} (hb : b < f.2.2.1.length) {i : Nat} (hi : i < (blk f b).2.1.length) : instB (cntB f) funcs ((blk f b).2.1.getD i tInstZ) = true := by
 rw [getD_at _ _ _ hi]
 refine hf.ins (blk f b) ?_ _ (List.getElem_mem hi)
 rw [show blk f b = f.2.2.1[b] from getD_at _ _ _ hb]
 exact List.getElem_mem hb
theorem first_ge (f : tFuncD) (b : Nat) : (f.1.length : Int) ≤ firstB f b := by
 unfold firstB
 have := sumB_nonneg (w := wB) (l := f.2.2.1.take b) fun y _ => wB_nonneg y
 omega
theorem first_lt {b : Nat} (hb : b < f.2.2.1.length) : firstB f b + wB (blk f b) ≤ cntB f := by
 have h1 : sumB wB f.2.2.1 = sumB wB (f.2.2.1.take b) + sumB wB (f.2.2.1.drop b) := by
  conv => lhs; rw [← List.take_append_drop b f.2.2.1]
  induction f.2.2.1.take b with
  | nil => simp only [List.nil_append, sumB]; omega
  | cons y l ih => simp only [List.cons_append, sumB]; omega
 have h2 := sumB_drop wB f.2.2.1 b hb
 have h3 := sumB_nonneg (w := wB) (l := f.2.2.1.drop (b + 1)) fun y _ => wB_nonneg y
 rw [cntB_eq]
 unfold firstB
 rw [show blk f b = f.2.2.1[b] from getD_at _ _ _ hb]
 omega
theorem first_next {b : Nat} (hb : b < f.2.2.1.length) : firstB f b + wB (blk f b) = firstB f (b + 1) := by
 unfold firstB
 rw [show blk f b = f.2.2.1[b] from getD_at _ _ _ hb, ← List.take_append_getElem hb]
 have : ∀ l : List tBlockD, sumB wB (l ++ [f.2.2.1[b]]) = sumB wB l + wB f.2.2.1[b] := fun l => by
  induction l with
  | nil => simp only [List.nil_append, sumB]; omega
  | cons y l ih => simp only [List.cons_append, sumB]; omega
 rw [this]
 omega
end
end
end Go.Proofs.YtbkpngmpdnnloaaGreatDoor.V
