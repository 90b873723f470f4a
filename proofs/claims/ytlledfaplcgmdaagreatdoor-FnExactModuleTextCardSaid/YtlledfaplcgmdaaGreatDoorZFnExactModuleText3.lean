/- PROVED HERE: what the functions that the law FnExactModuleText reaches do in memory, each as a plain Lean function, and what these tell: part 4 of 5 of the proof of that law; no condition beyond those written out at each theorem. -/
import Derived.Deep.Slices
import Derived.ProofKit
import Derived.Test.YtlledfaplcgmdaaGreatDoorZFnExactModuleText0
import Derived.Test.YtlledfaplcgmdaaGreatDoorZFnExactModuleText2
namespace Go.Proofs.YtlledfaplcgmdaaGreatDoor.V
open Go
set_option linter.unusedVariables false
set_option linter.unusedSimpArgs false
noncomputable section
namespace U52
abbrev R := (((Bool × Unit) × Unit) × Unit)
def f (k : Nat) (a0 : Int) : Option R := Option.bind (U39.f k a0 18 20) fun r1 => some (((r1.1.1.1, ()), ()), ())
abbrev S : ShapeParts := ⟨[⟨false, [.int .i64]⟩], [], false, [⟨false, [.bool]⟩], [], []⟩
def s (k : Nat) : FS := S.fs fun x => f k x.1.1.1
def E (k : Nat) : Ents := [(⟨24, []⟩, U39.s k)]
def L : List (LS R) := []
def c : Code := Tryz.f79.body.getD .skip
theorem eq (k : Nat) (x) : (s k).pf x = execF tab (E k) Tryz.f79 c (s k) L x := by kernel_rfl
theorem sound : ∀ k, Sound Tryz.prog 79 (s k) := snd S (fun k => (s k).pf) E (fun k => (EntsOK.cons (U39.sound k) EntsOK.nil)) (fun k => L) (fun k => trivial) eq
end U52
namespace U53
abbrev R := (((Unit × Unit) × Unit) × ((List Int) × Unit))
def f (k : Nat) (a0 : tInstD) : Option R := Option.bind (U51.f k a0.1) fun r1 => bif r1.1.1.1 then (some ((((), ()), ()), ([a0.2.2.1, a0.2.2.2.1], ()))) else (bif decide (a0.1 = 24) then (some ((((), ()), ()), ([a0.2.2.1, a0.2.2.2.1], ()))) else (Option.bind (U52.f k a0.1) fun r2 => bif r2.1.1.1 then (some ((((), ()), ()), ([a0.2.2.1], ()))) else (bif decide (a0.1 = 23) then (some ((((), ()), ()), ([a0.2.2.1], ()))) else (bif decide (a0.1 = 25) then (some ((((), ()), ()), ([a0.2.2.1], ()))) else (bif decide (a0.1 = 27) then (some ((((), ()), ()), ([a0.2.2.1], ()))) else (bif decide (a0.1 = 22) then (some ((((), ()), ()), ([a0.2.2.1, a0.2.2.2.1, a0.2.2.2.2.1], ()))) else (bif decide (a0.1 = 26) then (Option.bind (slices_Clone_int64_int64.f k a0.2.2.2.2.2.2.1) fun r3 => some ((((), ()), ()), (r3.2.1, ()))) else (some ((((), ()), ()), (([] : List Int), ()))))))))))
abbrev S : ShapeParts := ⟨[⟨true, [.int .i64, .int .i64, .int .i64, .int .i64, .int .i64, .int .i64, .lst (.int .i64)]⟩], [], false, [⟨false, [.own 100]⟩], [(100, .row true (.int .i64))], []⟩
def s (k : Nat) : FS := S.fs fun x => f k x.1.1
def E (k : Nat) : Ents := [(⟨78, []⟩, U51.s k), (⟨79, []⟩, U52.s k), (⟨80, []⟩, slices_Clone_int64_int64.s k)]
def L : List (LS R) := []
def c : Code := Tryz.f60.body.getD .skip
theorem eq (k : Nat) (x) : (s k).pf x = execF tab (E k) Tryz.f60 c (s k) L x := by kernel_rfl
theorem sound : ∀ k, Sound Tryz.prog 60 (s k) := snd S (fun k => (s k).pf) E (fun k => (EntsOK.cons (U51.sound k) (EntsOK.cons (U52.sound k) (EntsOK.cons (slices_Clone_int64_int64.sound k) EntsOK.nil)))) (fun k => L) (fun k => trivial) eq
end U53
namespace U54
abbrev R := (((Bool × Unit) × Unit) × Unit)
def f (k : Nat) (a0 : Int) (a1 : Int) : Option R := Option.bind (U39.f k a0 0 (IntKind.wrap .i64 (a1 - 1))) fun r1 => some (((!r1.1.1.1, ()), ()), ())
abbrev S : ShapeParts := ⟨[⟨false, [.int .i64]⟩, ⟨false, [.ptr 0 0]⟩], [(0, .cbox [.int .i64])], false, [⟨false, [.bool]⟩], [], []⟩
def s (k : Nat) : FS := S.fs fun x => f k x.1.1.1 x.2.1.1
def E (k : Nat) : Ents := [(⟨24, []⟩, U39.s k)]
def L : List (LS R) := []
def c : Code := Tryz.f70.body.getD .skip
theorem eq (k : Nat) (x) : (s k).pf x = execF tab (E k) Tryz.f70 c (s k) L x := by kernel_rfl
theorem sound : ∀ k, Sound Tryz.prog 70 (s k) := snd S (fun k => (s k).pf) E (fun k => (EntsOK.cons (U39.sound k) EntsOK.nil)) (fun k => L) (fun k => trivial) eq
end U54
namespace U55
abbrev R := (((Int × Unit) × Unit) × Unit)
abbrev T0 : Type := (List Int) → Int → Int → Int → Option R
def l0_ (k : Nat) (l0 : T0) (a0 : List Int) (a1 : Int) (a2 : Int) (a3 : Int) : Option R := bif decide (a2 < a1) then (bif (decide (0 ≤ a2)) && (decide (a2 < ((List.length a0 : Nat) : Int))) then (Option.bind (U54.f k (List.getD a0 (Int.toNat a2) 0) a3) fun r1 => bif r1.1.1.1 then (some (((a2, ()), ()), ())) else (l0 a0 a1 (IntKind.wrap .i64 (a2 + 1)) a3)) else none) else (some (((-1, ()), ()), ()))
def all : Nat → (T0) × Unit
 | 0 => (fun _ _ _ _ => none, ())
 | k + 1 => (l0_ k (all k).1, ())
def l0 (k : Nat) : T0 := (all k).1
def f (k : Nat) (a0 : List Int) (a1 : Int) : Option R := l0 k a0 ((List.length a0 : Nat) : Int) 0 a1
abbrev S : ShapeParts := ⟨[⟨false, [.lst (.int .i64)]⟩, ⟨false, [.fn 70 [(0, 0)]]⟩], [(0, .cbox [.int .i64])], false, [⟨false, [.int .i64]⟩], [], []⟩
def s (k : Nat) : FS := S.fs fun x => f k x.1.1.1 x.2.1.1
def E (k : Nat) : Ents := [(⟨70, []⟩, U54.s k)]
def L0 (l : T0) : LS R := ⟨[], [(0, ⟨false, [.lst (.int .i64)]⟩), (1, ⟨false, [.fn 70 [(0, 0)]]⟩), (7, ⟨false, [.int .i64]⟩), (8, ⟨false, [.int .i64]⟩)], [(0, .cbox [.int .i64])], fun x => l x.1.1.1 x.1.2.2.1.1 x.1.2.2.2.1.1 x.2.1.1⟩
def L (l0 : T0) : List (LS R) := [L0 l0]
def c : Code := Tryz.f67.body.getD .skip
theorem eq (k : Nat) (x) : (s k).pf x = execF tab (E k) Tryz.f67 c (s k) (L (l0 k)) x := by kernel_rfl
theorem r0 (l0 : T0) (k : Nat) (x) : (L0 (l0_ k l0)).l x = roundOf tab (E k) (L l0) c (fin tab Tryz.f67 (s k)) 0 (L0 l0) x := by kernel_rfl
theorem sound : ∀ k, Sound Tryz.prog 67 (s k) := snd S (fun k => (s k).pf) E (fun k => (EntsOK.cons (U54.sound k) EntsOK.nil)) (fun k => L (l0 k)) (fun k => ⟨⟨(L0 (l0 (k + 1))).l, rfl, fun x => r0 (l0 k) k x⟩, trivial⟩) eq
end U55
namespace U56
abbrev R := (((Bool × Unit) × Unit) × Unit)
def f (k : Nat) (a0 : List Int) (a1 : Int) : Option R := Option.bind (U55.f k a0 a1) fun r1 => some (((decide (0 ≤ r1.1.1.1), ()), ()), ())
abbrev S : ShapeParts := ⟨[⟨false, [.lst (.int .i64)]⟩, ⟨false, [.fn 70 [(0, 0)]]⟩], [(0, .cbox [.int .i64])], false, [⟨false, [.bool]⟩], [], []⟩
def s (k : Nat) : FS := S.fs fun x => f k x.1.1.1 x.2.1.1
def E (k : Nat) : Ents := [(⟨67, [70]⟩, U55.s k)]
def L : List (LS R) := []
def c : Code := Tryz.f46.body.getD .skip
theorem eq (k : Nat) (x) : (s k).pf x = execF tab (E k) Tryz.f46 c (s k) L x := by kernel_rfl
theorem sound : ∀ k, Sound Tryz.prog 46 (s k) := snd S (fun k => (s k).pf) E (fun k => (EntsOK.cons (U55.sound k) EntsOK.nil)) (fun k => L) (fun k => trivial) eq
end U56
namespace U57
abbrev R := (((Bool × Unit) × Unit) × Unit)
def f (k : Nat) (a0 : Int) : Option R := some (((!decide (a0 = 0), ()), ()), ())
abbrev S : ShapeParts := ⟨[⟨false, [.int .i64]⟩], [], false, [⟨false, [.bool]⟩], [], []⟩
def s (k : Nat) : FS := S.fs fun x => f k x.1.1.1
def E (k : Nat) : Ents := []
def L : List (LS R) := []
def c : Code := Tryz.f71.body.getD .skip
theorem eq (k : Nat) (x) : (s k).pf x = execF tab (E k) Tryz.f71 c (s k) L x := by kernel_rfl
theorem sound : ∀ k, Sound Tryz.prog 71 (s k) := snd S (fun k => (s k).pf) E (fun k => EntsOK.nil) (fun k => L) (fun k => trivial) eq
end U57
namespace U58
abbrev R := (((Int × Unit) × Unit) × Unit)
abbrev T0 : Type := (List Int) → Int → Int → Option R
def l0_ (k : Nat) (l0 : T0) (a0 : List Int) (a1 : Int) (a2 : Int) : Option R := bif decide (a2 < a1) then (bif (decide (0 ≤ a2)) && (decide (a2 < ((List.length a0 : Nat) : Int))) then (Option.bind (U57.f k (List.getD a0 (Int.toNat a2) 0)) fun r1 => bif r1.1.1.1 then (some (((a2, ()), ()), ())) else (l0 a0 a1 (IntKind.wrap .i64 (a2 + 1)))) else none) else (some (((-1, ()), ()), ()))
def all : Nat → (T0) × Unit
 | 0 => (fun _ _ _ => none, ())
 | k + 1 => (l0_ k (all k).1, ())
def l0 (k : Nat) : T0 := (all k).1
def f (k : Nat) (a0 : List Int) : Option R := l0 k a0 ((List.length a0 : Nat) : Int) 0
abbrev S : ShapeParts := ⟨[⟨false, [.lst (.int .i64)]⟩, ⟨false, [.fn 71 []]⟩], [], false, [⟨false, [.int .i64]⟩], [], []⟩
def s (k : Nat) : FS := S.fs fun x => f k x.1.1.1
def E (k : Nat) : Ents := [(⟨71, []⟩, U57.s k)]
def L0 (l : T0) : LS R := ⟨[], [(0, ⟨false, [.lst (.int .i64)]⟩), (1, ⟨false, [.fn 71 []]⟩), (7, ⟨false, [.int .i64]⟩), (8, ⟨false, [.int .i64]⟩)], [], fun x => l x.1.1.1 x.1.2.2.1.1 x.1.2.2.2.1.1⟩
def L (l0 : T0) : List (LS R) := [L0 l0]
def c : Code := Tryz.f67.body.getD .skip
theorem eq (k : Nat) (x) : (s k).pf x = execF tab (E k) Tryz.f67 c (s k) (L (l0 k)) x := by kernel_rfl
theorem r0 (l0 : T0) (k : Nat) (x) : (L0 (l0_ k l0)).l x = roundOf tab (E k) (L l0) c (fin tab Tryz.f67 (s k)) 0 (L0 l0) x := by kernel_rfl
theorem sound : ∀ k, Sound Tryz.prog 67 (s k) := snd S (fun k => (s k).pf) E (fun k => (EntsOK.cons (U57.sound k) EntsOK.nil)) (fun k => L (l0 k)) (fun k => ⟨⟨(L0 (l0 (k + 1))).l, rfl, fun x => r0 (l0 k) k x⟩, trivial⟩) eq
end U58
namespace U59
abbrev R := (((Bool × Unit) × Unit) × Unit)
def f (k : Nat) (a0 : List Int) : Option R := Option.bind (U58.f k a0) fun r1 => some (((decide (0 ≤ r1.1.1.1), ()), ()), ())
abbrev S : ShapeParts := ⟨[⟨false, [.lst (.int .i64)]⟩, ⟨false, [.fn 71 []]⟩], [], false, [⟨false, [.bool]⟩], [], []⟩
def s (k : Nat) : FS := S.fs fun x => f k x.1.1.1
def E (k : Nat) : Ents := [(⟨67, [71]⟩, U58.s k)]
def L : List (LS R) := []
def c : Code := Tryz.f46.body.getD .skip
theorem eq (k : Nat) (x) : (s k).pf x = execF tab (E k) Tryz.f46 c (s k) L x := by kernel_rfl
theorem sound : ∀ k, Sound Tryz.prog 46 (s k) := snd S (fun k => (s k).pf) E (fun k => (EntsOK.cons (U58.sound k) EntsOK.nil)) (fun k => L) (fun k => trivial) eq
end U59
namespace U60
abbrev R := (((Bool × Unit) × Unit) × Unit)
def f (k : Nat) (a0 : tInstD) : Option R := bif decide (a0.1 = 24) then (bif decide (a0.1 = 24) then (some (((decide (a0.2.1 = 0), ()), ()), ())) else (bif decide (a0.1 = 23) then (some (((decide (a0.2.1 = 8), ()), ()), ())) else (Option.bind (U40.f k a0.2.1) fun r1 => some (((r1.1.1.1, ()), ()), ())))) else (bif decide (a0.1 = 25) then (some (((decide (a0.2.1 = 0), ()), ()), ())) else (bif decide (a0.1 = 23) then (some (((decide (a0.2.1 = 8), ()), ()), ())) else (Option.bind (U40.f k a0.2.1) fun r2 => some (((r2.1.1.1, ()), ()), ()))))
abbrev S : ShapeParts := ⟨[⟨true, [.int .i64, .int .i64, .int .i64, .int .i64, .int .i64, .int .i64, .lst (.int .i64)]⟩], [], false, [⟨false, [.bool]⟩], [], []⟩
def s (k : Nat) : FS := S.fs fun x => f k x.1.1
def E (k : Nat) : Ents := [(⟨45, []⟩, U40.s k)]
def L : List (LS R) := []
def c : Code := Tryz.f72.body.getD .skip
theorem eq (k : Nat) (x) : (s k).pf x = execF tab (E k) Tryz.f72 c (s k) L x := by kernel_rfl
theorem sound : ∀ k, Sound Tryz.prog 72 (s k) := snd S (fun k => (s k).pf) E (fun k => (EntsOK.cons (U40.sound k) EntsOK.nil)) (fun k => L) (fun k => trivial) eq
end U60
namespace U61
abbrev R := (((Int × Unit) × Unit) × Unit)
def f (k : Nat) (a0 : Int) : Option R := bif decide (0 ≤ a0) then (some (((IntKind.wrap .i64 ((V.shl .i64 1 a0) - 1), ()), ()), ())) else none
abbrev S : ShapeParts := ⟨[⟨false, [.int .i64]⟩], [], false, [⟨false, [.int .i64]⟩], [], []⟩
def s (k : Nat) : FS := S.fs fun x => f k x.1.1.1
def E (k : Nat) : Ents := []
def L : List (LS R) := []
def c : Code := Tryz.f101.body.getD .skip
theorem eq (k : Nat) (x) : (s k).pf x = execF tab (E k) Tryz.f101 c (s k) L x := by kernel_rfl
theorem sound : ∀ k, Sound Tryz.prog 101 (s k) := snd S (fun k => (s k).pf) E (fun k => EntsOK.nil) (fun k => L) (fun k => trivial) eq
end U61
namespace U62
abbrev R := (((Bool × Unit) × Unit) × Unit)
def f (k : Nat) (a0 : Int) (a1 : Int) : Option R := Option.bind (U40.f k a0) fun r1 => bif r1.1.1.1 then (Option.bind (U61.f k a0) fun r2 => Option.bind (U39.f k a1 0 r2.1.1.1) fun r3 => some (((r3.1.1.1, ()), ()), ())) else (some (((false, ()), ()), ()))
abbrev S : ShapeParts := ⟨[⟨false, [.int .i64]⟩, ⟨false, [.int .i64]⟩], [], false, [⟨false, [.bool]⟩], [], []⟩
def s (k : Nat) : FS := S.fs fun x => f k x.1.1.1 x.1.2.1.1
def E (k : Nat) : Ents := [(⟨45, []⟩, U40.s k), (⟨101, []⟩, U61.s k), (⟨24, []⟩, U39.s k)]
def L : List (LS R) := []
def c : Code := Tryz.f88.body.getD .skip
theorem eq (k : Nat) (x) : (s k).pf x = execF tab (E k) Tryz.f88 c (s k) L x := by kernel_rfl
theorem sound : ∀ k, Sound Tryz.prog 88 (s k) := snd S (fun k => (s k).pf) E (fun k => (EntsOK.cons (U40.sound k) (EntsOK.cons (U61.sound k) (EntsOK.cons (U39.sound k) EntsOK.nil)))) (fun k => L) (fun k => trivial) eq
end U62
namespace U63
abbrev R := (((Bool × Unit) × Unit) × Unit)
def f (k : Nat) (a0 : tInstD) (a1 : Int) : Option R := bif decide (a0.1 = 21) then (Option.bind (U62.f k a0.2.1 a0.2.2.2.2.2.1) fun r1 => some (((r1.1.1.1, ()), ()), ())) else (bif decide (a0.1 = 26) then (Option.bind (U39.f k a0.2.2.2.2.2.1 0 (IntKind.wrap .i64 (a1 - 1))) fun r2 => some (((r2.1.1.1, ()), ()), ())) else (some (((decide (a0.2.2.2.2.2.1 = 0), ()), ()), ())))
abbrev S : ShapeParts := ⟨[⟨true, [.int .i64, .int .i64, .int .i64, .int .i64, .int .i64, .int .i64, .lst (.int .i64)]⟩, ⟨false, [.int .i64]⟩], [], false, [⟨false, [.bool]⟩], [], []⟩
def s (k : Nat) : FS := S.fs fun x => f k x.1.1 x.1.2.1.1
def E (k : Nat) : Ents := [(⟨88, []⟩, U62.s k), (⟨24, []⟩, U39.s k)]
def L : List (LS R) := []
def c : Code := Tryz.f73.body.getD .skip
theorem eq (k : Nat) (x) : (s k).pf x = execF tab (E k) Tryz.f73 c (s k) L x := by kernel_rfl
theorem sound : ∀ k, Sound Tryz.prog 73 (s k) := snd S (fun k => (s k).pf) E (fun k => (EntsOK.cons (U62.sound k) (EntsOK.cons (U39.sound k) EntsOK.nil))) (fun k => L) (fun k => trivial) eq
end U63
namespace U64
abbrev R := (((Bool × Unit) × Unit) × Unit)
def f (k : Nat) (a0 : tInstD) (a1 : Int) (a2 : Int) : Option R := Option.bind (U39.f k a0.1 1 27) fun r1 => bif !r1.1.1.1 then (some (((false, ()), ()), ())) else (bif decide (4 < ((List.length a0.2.2.2.2.2.2.1 : Nat) : Int)) then (some (((false, ()), ()), ())) else (bif decide (0 < ((List.length a0.2.2.2.2.2.2.1 : Nat) : Int)) then (bif !decide (a0.1 = 26) then (some (((false, ()), ()), ())) else (Option.bind (U53.f k a0) fun r2 => Option.bind (U56.f k r2.2.1 a1) fun r3 => bif r3.1.1.1 then (some (((false, ()), ()), ())) else (bif decide (a0.1 = 26) then (bif (decide (0 ≤ 0)) && (decide (0 ≤ ((List.length [a0.2.2.1, a0.2.2.2.1, a0.2.2.2.2.1] : Nat) : Int))) then (Option.bind (U59.f k [a0.2.2.1, a0.2.2.2.1, a0.2.2.2.2.1]) fun r4 => bif r4.1.1.1 then (some (((false, ()), ()), ())) else (Option.bind (U60.f k a0) fun r5 => bif r5.1.1.1 then (Option.bind (U63.f k a0 a2) fun r6 => some (((r6.1.1.1, ()), ()), ())) else (some (((false, ()), ()), ())))) else none) else (bif (decide (0 ≤ ((List.length r2.2.1 : Nat) : Int))) && (decide (((List.length r2.2.1 : Nat) : Int) ≤ ((List.length [a0.2.2.1, a0.2.2.2.1, a0.2.2.2.2.1] : Nat) : Int))) then (Option.bind (U59.f k (List.drop (Int.toNat ((List.length r2.2.1 : Nat) : Int)) [a0.2.2.1, a0.2.2.2.1, a0.2.2.2.2.1])) fun r7 => bif r7.1.1.1 then (some (((false, ()), ()), ())) else (Option.bind (U60.f k a0) fun r8 => bif r8.1.1.1 then (Option.bind (U63.f k a0 a2) fun r9 => some (((r9.1.1.1, ()), ()), ())) else (some (((false, ()), ()), ())))) else none)))) else (Option.bind (U53.f k a0) fun r10 => Option.bind (U56.f k r10.2.1 a1) fun r11 => bif r11.1.1.1 then (some (((false, ()), ()), ())) else (bif decide (a0.1 = 26) then (bif (decide (0 ≤ 0)) && (decide (0 ≤ ((List.length [a0.2.2.1, a0.2.2.2.1, a0.2.2.2.2.1] : Nat) : Int))) then (Option.bind (U59.f k [a0.2.2.1, a0.2.2.2.1, a0.2.2.2.2.1]) fun r12 => bif r12.1.1.1 then (some (((false, ()), ()), ())) else (Option.bind (U60.f k a0) fun r13 => bif r13.1.1.1 then (Option.bind (U63.f k a0 a2) fun r14 => some (((r14.1.1.1, ()), ()), ())) else (some (((false, ()), ()), ())))) else none) else (bif (decide (0 ≤ ((List.length r10.2.1 : Nat) : Int))) && (decide (((List.length r10.2.1 : Nat) : Int) ≤ ((List.length [a0.2.2.1, a0.2.2.2.1, a0.2.2.2.2.1] : Nat) : Int))) then (Option.bind (U59.f k (List.drop (Int.toNat ((List.length r10.2.1 : Nat) : Int)) [a0.2.2.1, a0.2.2.2.1, a0.2.2.2.2.1])) fun r15 => bif r15.1.1.1 then (some (((false, ()), ()), ())) else (Option.bind (U60.f k a0) fun r16 => bif r16.1.1.1 then (Option.bind (U63.f k a0 a2) fun r17 => some (((r17.1.1.1, ()), ()), ())) else (some (((false, ()), ()), ())))) else none)))))
abbrev S : ShapeParts := ⟨[⟨true, [.int .i64, .int .i64, .int .i64, .int .i64, .int .i64, .int .i64, .lst (.int .i64)]⟩, ⟨false, [.int .i64]⟩, ⟨false, [.int .i64]⟩], [], false, [⟨false, [.bool]⟩], [], []⟩
def s (k : Nat) : FS := S.fs fun x => f k x.1.1 x.1.2.1.1 x.1.2.2.1.1
def E (k : Nat) : Ents := [(⟨24, []⟩, U39.s k), (⟨60, []⟩, U53.s k), (⟨46, [70]⟩, U56.s k), (⟨46, [71]⟩, U59.s k), (⟨72, []⟩, U60.s k), (⟨73, []⟩, U63.s k)]
def L : List (LS R) := []
def c : Code := Tryz.f54.body.getD .skip
theorem eq (k : Nat) (x) : (s k).pf x = execF tab (E k) Tryz.f54 c (s k) L x := by kernel_rfl
theorem sound : ∀ k, Sound Tryz.prog 54 (s k) := snd S (fun k => (s k).pf) E (fun k => (EntsOK.cons (U39.sound k) (EntsOK.cons (U53.sound k) (EntsOK.cons (U56.sound k) (EntsOK.cons (U59.sound k) (EntsOK.cons (U60.sound k) (EntsOK.cons (U63.sound k) EntsOK.nil))))))) (fun k => L) (fun k => trivial) eq
end U64
namespace U65
abbrev R := (((Bool × Unit) × Unit) × Unit)
def f (k : Nat) (a0 : tInstD) (a1 : Int) (a2 : Int) : Option R := Option.bind (U64.f k a0 a1 a2) fun r1 => some (((!r1.1.1.1, ()), ()), ())
abbrev S : ShapeParts := ⟨[⟨true, [.int .i64, .int .i64, .int .i64, .int .i64, .int .i64, .int .i64, .lst (.int .i64)]⟩, ⟨false, [.ptr 0 0]⟩, ⟨false, [.ptr 1 0]⟩], [(0, .cbox [.int .i64]), (1, .cbox [.int .i64])], false, [⟨false, [.bool]⟩], [], []⟩
def s (k : Nat) : FS := S.fs fun x => f k x.1.1 x.2.1.1 x.2.2.1.1
def E (k : Nat) : Ents := [(⟨54, []⟩, U64.s k)]
def L : List (LS R) := []
def c : Code := Tryz.f53.body.getD .skip
theorem eq (k : Nat) (x) : (s k).pf x = execF tab (E k) Tryz.f53 c (s k) L x := by kernel_rfl
theorem sound : ∀ k, Sound Tryz.prog 53 (s k) := snd S (fun k => (s k).pf) E (fun k => (EntsOK.cons (U64.sound k) EntsOK.nil)) (fun k => L) (fun k => trivial) eq
end U65
namespace U66
abbrev R := (((Int × Unit) × Unit) × Unit)
abbrev T0 : Type := (List tInstD) → Int → Int → Int → Int → Option R
def l0_ (k : Nat) (l0 : T0) (a0 : List tInstD) (a1 : Int) (a2 : Int) (a3 : Int) (a4 : Int) : Option R := bif decide (a2 < a1) then (bif (decide (0 ≤ a2)) && (decide (a2 < ((List.length a0 : Nat) : Int))) then (Option.bind (U65.f k (List.getD a0 (Int.toNat a2) tInstZ) a3 a4) fun r1 => bif r1.1.1.1 then (some (((a2, ()), ()), ())) else (l0 a0 a1 (IntKind.wrap .i64 (a2 + 1)) a3 a4)) else none) else (some (((-1, ()), ()), ()))
def all : Nat → (T0) × Unit
 | 0 => (fun _ _ _ _ _ => none, ())
 | k + 1 => (l0_ k (all k).1, ())
def l0 (k : Nat) : T0 := (all k).1
def f (k : Nat) (a0 : List tInstD) (a1 : Int) (a2 : Int) : Option R := l0 k a0 ((List.length a0 : Nat) : Int) 0 a1 a2
abbrev S : ShapeParts := ⟨[⟨false, [.lst tInst]⟩, ⟨false, [.fn 53 [(0, 0), (1, 0)]]⟩], [(0, .cbox [.int .i64]), (1, .cbox [.int .i64])], false, [⟨false, [.int .i64]⟩], [], []⟩
def s (k : Nat) : FS := S.fs fun x => f k x.1.1.1 x.2.1.1 x.2.2.1.1
def E (k : Nat) : Ents := [(⟨53, []⟩, U65.s k)]
def L0 (l : T0) : LS R := ⟨[], [(0, ⟨false, [.lst tInst]⟩), (1, ⟨false, [.fn 53 [(0, 0), (1, 0)]]⟩), (7, ⟨false, [.int .i64]⟩), (8, ⟨false, [.int .i64]⟩)], [(0, .cbox [.int .i64]), (1, .cbox [.int .i64])], fun x => l x.1.1.1 x.1.2.2.1.1 x.1.2.2.2.1.1 x.2.1.1 x.2.2.1.1⟩
def L (l0 : T0) : List (LS R) := [L0 l0]
def c : Code := Tryz.f69.body.getD .skip
theorem eq (k : Nat) (x) : (s k).pf x = execF tab (E k) Tryz.f69 c (s k) (L (l0 k)) x := by kernel_rfl
theorem r0 (l0 : T0) (k : Nat) (x) : (L0 (l0_ k l0)).l x = roundOf tab (E k) (L l0) c (fin tab Tryz.f69 (s k)) 0 (L0 l0) x := by kernel_rfl
theorem sound : ∀ k, Sound Tryz.prog 69 (s k) := snd S (fun k => (s k).pf) E (fun k => (EntsOK.cons (U65.sound k) EntsOK.nil)) (fun k => L (l0 k)) (fun k => ⟨⟨(L0 (l0 (k + 1))).l, rfl, fun x => r0 (l0 k) k x⟩, trivial⟩) eq
end U66
namespace U67
abbrev R := (((Bool × Unit) × Unit) × Unit)
def f (k : Nat) (a0 : List tInstD) (a1 : Int) (a2 : Int) : Option R := Option.bind (U66.f k a0 a1 a2) fun r1 => some (((decide (0 ≤ r1.1.1.1), ()), ()), ())
abbrev S : ShapeParts := ⟨[⟨false, [.lst tInst]⟩, ⟨false, [.fn 53 [(0, 0), (1, 0)]]⟩], [(0, .cbox [.int .i64]), (1, .cbox [.int .i64])], false, [⟨false, [.bool]⟩], [], []⟩
def s (k : Nat) : FS := S.fs fun x => f k x.1.1.1 x.2.1.1 x.2.2.1.1
def E (k : Nat) : Ents := [(⟨69, [53]⟩, U66.s k)]
def L : List (LS R) := []
def c : Code := Tryz.f52.body.getD .skip
theorem eq (k : Nat) (x) : (s k).pf x = execF tab (E k) Tryz.f52 c (s k) L x := by kernel_rfl
theorem sound : ∀ k, Sound Tryz.prog 52 (s k) := snd S (fun k => (s k).pf) E (fun k => (EntsOK.cons (U66.sound k) EntsOK.nil)) (fun k => L) (fun k => trivial) eq
end U67
namespace U68
abbrev R := (((Bool × Unit) × Unit) × Unit)
def f (k : Nat) (a0 : Int) (a1 : tFuncD) : Option R := Option.bind (U39.f k a0 0 (IntKind.wrap .i64 (((List.length a1.2.2.1 : Nat) : Int) - 1))) fun r1 => some (((r1.1.1.1, ()), ()), ())
abbrev S : ShapeParts := ⟨[⟨false, [.int .i64]⟩, ⟨false, [.ptr 0 0]⟩], [(0, .cbox [.lst (.int .i64), .int .i64, .lst tBlock])], false, [⟨false, [.bool]⟩], [], []⟩
def s (k : Nat) : FS := S.fs fun x => f k x.1.1.1 x.2.1
def E (k : Nat) : Ents := [(⟨24, []⟩, U39.s k)]
def L : List (LS R) := []
def c : Code := Tryz.f74.body.getD .skip
theorem eq (k : Nat) (x) : (s k).pf x = execF tab (E k) Tryz.f74 c (s k) L x := by kernel_rfl
theorem sound : ∀ k, Sound Tryz.prog 74 (s k) := snd S (fun k => (s k).pf) E (fun k => (EntsOK.cons (U39.sound k) EntsOK.nil)) (fun k => L) (fun k => trivial) eq
end U68
namespace U69
abbrev R := (((Bool × Unit) × Unit) × Unit)
def f (k : Nat) (a0 : tFuncD) (a1 : tTermD) (a2 : Int) : Option R := bif decide (a1.1 = 1) then (Option.bind (U39.f k a1.2.1 0 (IntKind.wrap .i64 (a2 - 1))) fun r1 => bif r1.1.1.1 then (bif decide (a1.2.2.1 = 0) then (some (((decide (a1.2.2.2.1 = 0), ()), ()), ())) else (some (((false, ()), ()), ()))) else (some (((false, ()), ()), ()))) else (bif decide (a1.1 = 2) then (bif decide (a1.2.1 = 0) then (Option.bind (U68.f k a1.2.2.1 a0) fun r2 => bif r2.1.1.1 then (some (((decide (a1.2.2.2.1 = 0), ()), ()), ())) else (some (((false, ()), ()), ()))) else (some (((false, ()), ()), ()))) else (bif decide (a1.1 = 3) then (Option.bind (U39.f k a1.2.1 0 (IntKind.wrap .i64 (a2 - 1))) fun r3 => bif r3.1.1.1 then (Option.bind (U68.f k a1.2.2.1 a0) fun r4 => bif r4.1.1.1 then (Option.bind (U68.f k a1.2.2.2.1 a0) fun r5 => bif r5.1.1.1 then (some (((!decide (a1.2.2.1 = a1.2.2.2.1), ()), ()), ())) else (some (((false, ()), ()), ()))) else (some (((false, ()), ()), ()))) else (some (((false, ()), ()), ()))) else (bif decide (a1.1 = 4) then (bif decide (a1.2.1 = 0) then (bif decide (a1.2.2.1 = 0) then (some (((decide (a1.2.2.2.1 = 0), ()), ()), ())) else (some (((false, ()), ()), ()))) else (some (((false, ()), ()), ()))) else (some (((false, ()), ()), ())))))
abbrev S : ShapeParts := ⟨[⟨true, [.lst (.int .i64), .int .i64, .lst tBlock]⟩, ⟨true, [.int .i64, .int .i64, .int .i64, .int .i64]⟩, ⟨false, [.int .i64]⟩], [], false, [⟨false, [.bool]⟩], [], []⟩
def s (k : Nat) : FS := S.fs fun x => f k x.1.1 x.1.2.1 x.1.2.2.1.1
def E (k : Nat) : Ents := [(⟨24, []⟩, U39.s k), (⟨74, []⟩, U68.s k)]
def L : List (LS R) := []
def c : Code := Tryz.f55.body.getD .skip
theorem eq (k : Nat) (x) : (s k).pf x = execF tab (E k) Tryz.f55 c (s k) L x := by kernel_rfl
theorem sound : ∀ k, Sound Tryz.prog 55 (s k) := snd S (fun k => (s k).pf) E (fun k => (EntsOK.cons (U39.sound k) (EntsOK.cons (U68.sound k) EntsOK.nil))) (fun k => L) (fun k => trivial) eq
end U69
namespace U70
abbrev R := (((Bool × Unit) × Unit) × Unit)
abbrev T0 : Type := (List tBlockD) → Int → Int → tFuncD → Int → Int → Option R
def l0_ (k : Nat) (l0 : T0) (a0 : List tBlockD) (a1 : Int) (a2 : Int) (a3 : tFuncD) (a4 : Int) (a5 : Int) : Option R := bif decide (a2 < a1) then (bif (decide (0 ≤ a2)) && (decide (a2 < ((List.length a0 : Nat) : Int))) then (Option.bind (U50.f k ((List.getD a0 (Int.toNat a2) tBlockZ).1) a5) fun r1 => bif r1.1.1.1 then (some (((false, ()), ()), ())) else (Option.bind (U67.f k ((List.getD a0 (Int.toNat a2) tBlockZ).2.1) a5 a4) fun r2 => bif r2.1.1.1 then (some (((false, ()), ()), ())) else (Option.bind (U69.f k a3 ((List.getD a0 (Int.toNat a2) tBlockZ).2.2) a5) fun r3 => bif !r3.1.1.1 then (some (((false, ()), ()), ())) else (l0 a0 a1 (IntKind.wrap .i64 (a2 + 1)) a3 a4 a5)))) else none) else (some (((true, ()), ()), ()))
def all : Nat → (T0) × Unit
 | 0 => (fun _ _ _ _ _ _ => none, ())
 | k + 1 => (l0_ k (all k).1, ())
def l0 (k : Nat) : T0 := (all k).1
def f (k : Nat) (a0 : tFuncD) (a1 : Int) : Option R := bif decide (4 < ((List.length a0.1 : Nat) : Int)) then (some (((false, ()), ()), ())) else (Option.bind (U40.f k a0.2.1) fun r1 => bif !r1.1.1.1 then (some (((false, ()), ()), ())) else (Option.bind (U39.f k ((List.length a0.2.2.1 : Nat) : Int) 1 10) fun r2 => bif !r2.1.1.1 then (some (((false, ()), ()), ())) else (Option.bind (U43.f k a0.1) fun r3 => bif r3.1.1.1 then (some (((false, ()), ()), ())) else (Option.bind (U44.f k a0) fun r4 => bif decide (60 < r4.1.1.1) then (some (((false, ()), ()), ())) else (l0 k a0.2.2.1 ((List.length a0.2.2.1 : Nat) : Int) 0 a0 a1 r4.1.1.1)))))
abbrev S : ShapeParts := ⟨[⟨true, [.lst (.int .i64), .int .i64, .lst tBlock]⟩, ⟨false, [.int .i64]⟩], [], false, [⟨false, [.bool]⟩], [], []⟩
def s (k : Nat) : FS := S.fs fun x => f k x.1.1 x.1.2.1.1
def E (k : Nat) : Ents := [(⟨45, []⟩, U40.s k), (⟨24, []⟩, U39.s k), (⟨46, [47]⟩, U43.s k), (⟨48, []⟩, U44.s k), (⟨49, [50]⟩, U50.s k), (⟨52, [53]⟩, U67.s k), (⟨55, []⟩, U69.s k)]
def L0 (l : T0) : LS R := ⟨[], [(2, ⟨false, [.ptr 100000 0]⟩), (3, ⟨false, [.ptr 100001 0]⟩), (5, ⟨false, [.ptr 100002 0]⟩), (35, ⟨false, [.lst tBlock]⟩), (36, ⟨false, [.int .i64]⟩), (37, ⟨false, [.int .i64]⟩)], [(100000, .box [.lst (.int .i64), .int .i64, .lst tBlock]), (100001, .box [.int .i64]), (100002, .box [.int .i64])], fun x => l x.1.2.2.2.1.1 x.1.2.2.2.2.1.1 x.1.2.2.2.2.2.1.1 x.2.1 x.2.2.1.1 x.2.2.2.1.1⟩
def L (l0 : T0) : List (LS R) := [L0 l0]
def c : Code := Tryz.f27.body.getD .skip
theorem eq (k : Nat) (x) : (s k).pf x = execF tab (E k) Tryz.f27 c (s k) (L (l0 k)) x := by kernel_rfl
theorem r0 (l0 : T0) (k : Nat) (x) : (L0 (l0_ k l0)).l x = roundOf tab (E k) (L l0) c (fin tab Tryz.f27 (s k)) 0 (L0 l0) x := by kernel_rfl
theorem sound : ∀ k, Sound Tryz.prog 27 (s k) := snd S (fun k => (s k).pf) E (fun k => (EntsOK.cons (U40.sound k) (EntsOK.cons (U39.sound k) (EntsOK.cons (U43.sound k) (EntsOK.cons (U44.sound k) (EntsOK.cons (U50.sound k) (EntsOK.cons (U67.sound k) (EntsOK.cons (U69.sound k) EntsOK.nil)))))))) (fun k => L (l0 k)) (fun k => ⟨⟨(L0 (l0 (k + 1))).l, rfl, fun x => r0 (l0 k) k x⟩, trivial⟩) eq
end U70
namespace U71
abbrev R := (((Bool × Unit) × Unit) × Unit)
def f (k : Nat) (a0 : tFuncD) (a1 : Int) : Option R := Option.bind (U70.f k a0 a1) fun r1 => some (((!r1.1.1.1, ()), ()), ())
abbrev S : ShapeParts := ⟨[⟨true, [.lst (.int .i64), .int .i64, .lst tBlock]⟩, ⟨false, [.ptr 0 0]⟩], [(0, .cbox [.int .i64])], false, [⟨false, [.bool]⟩], [], []⟩
def s (k : Nat) : FS := S.fs fun x => f k x.1.1 x.2.1.1
def E (k : Nat) : Ents := [(⟨27, []⟩, U70.s k)]
def L : List (LS R) := []
def c : Code := Tryz.f26.body.getD .skip
theorem eq (k : Nat) (x) : (s k).pf x = execF tab (E k) Tryz.f26 c (s k) L x := by kernel_rfl
theorem sound : ∀ k, Sound Tryz.prog 26 (s k) := snd S (fun k => (s k).pf) E (fun k => (EntsOK.cons (U70.sound k) EntsOK.nil)) (fun k => L) (fun k => trivial) eq
end U71
namespace U72
abbrev R := (((Int × Unit) × Unit) × Unit)
abbrev T0 : Type := (List tFuncD) → Int → Int → Int → Option R
def l0_ (k : Nat) (l0 : T0) (a0 : List tFuncD) (a1 : Int) (a2 : Int) (a3 : Int) : Option R := bif decide (a2 < a1) then (bif (decide (0 ≤ a2)) && (decide (a2 < ((List.length a0 : Nat) : Int))) then (Option.bind (U71.f k (List.getD a0 (Int.toNat a2) tFuncZ) a3) fun r1 => bif r1.1.1.1 then (some (((a2, ()), ()), ())) else (l0 a0 a1 (IntKind.wrap .i64 (a2 + 1)) a3)) else none) else (some (((-1, ()), ()), ()))
def all : Nat → (T0) × Unit
 | 0 => (fun _ _ _ _ => none, ())
 | k + 1 => (l0_ k (all k).1, ())
def l0 (k : Nat) : T0 := (all k).1
def f (k : Nat) (a0 : List tFuncD) (a1 : Int) : Option R := l0 k a0 ((List.length a0 : Nat) : Int) 0 a1
abbrev S : ShapeParts := ⟨[⟨false, [.lst tFunc]⟩, ⟨false, [.fn 26 [(0, 0)]]⟩], [(0, .cbox [.int .i64])], false, [⟨false, [.int .i64]⟩], [], []⟩
def s (k : Nat) : FS := S.fs fun x => f k x.1.1.1 x.2.1.1
def E (k : Nat) : Ents := [(⟨26, []⟩, U71.s k)]
def L0 (l : T0) : LS R := ⟨[], [(0, ⟨false, [.lst tFunc]⟩), (1, ⟨false, [.fn 26 [(0, 0)]]⟩), (7, ⟨false, [.int .i64]⟩), (8, ⟨false, [.int .i64]⟩)], [(0, .cbox [.int .i64])], fun x => l x.1.1.1 x.1.2.2.1.1 x.1.2.2.2.1.1 x.2.1.1⟩
def L (l0 : T0) : List (LS R) := [L0 l0]
def c : Code := Tryz.f44.body.getD .skip
theorem eq (k : Nat) (x) : (s k).pf x = execF tab (E k) Tryz.f44 c (s k) (L (l0 k)) x := by kernel_rfl
theorem r0 (l0 : T0) (k : Nat) (x) : (L0 (l0_ k l0)).l x = roundOf tab (E k) (L l0) c (fin tab Tryz.f44 (s k)) 0 (L0 l0) x := by kernel_rfl
theorem sound : ∀ k, Sound Tryz.prog 44 (s k) := snd S (fun k => (s k).pf) E (fun k => (EntsOK.cons (U71.sound k) EntsOK.nil)) (fun k => L (l0 k)) (fun k => ⟨⟨(L0 (l0 (k + 1))).l, rfl, fun x => r0 (l0 k) k x⟩, trivial⟩) eq
end U72
namespace U73
abbrev R := (((Bool × Unit) × Unit) × Unit)
def f (k : Nat) (a0 : List tFuncD) (a1 : Int) : Option R := Option.bind (U72.f k a0 a1) fun r1 => some (((decide (0 ≤ r1.1.1.1), ()), ()), ())
abbrev S : ShapeParts := ⟨[⟨false, [.lst tFunc]⟩, ⟨false, [.fn 26 [(0, 0)]]⟩], [(0, .cbox [.int .i64])], false, [⟨false, [.bool]⟩], [], []⟩
def s (k : Nat) : FS := S.fs fun x => f k x.1.1.1 x.2.1.1
def E (k : Nat) : Ents := [(⟨44, [26]⟩, U72.s k)]
def L : List (LS R) := []
def c : Code := Tryz.f25.body.getD .skip
theorem eq (k : Nat) (x) : (s k).pf x = execF tab (E k) Tryz.f25 c (s k) L x := by kernel_rfl
theorem sound : ∀ k, Sound Tryz.prog 25 (s k) := snd S (fun k => (s k).pf) E (fun k => (EntsOK.cons (U72.sound k) EntsOK.nil)) (fun k => L) (fun k => trivial) eq
end U73
namespace U74
abbrev R := (((Bool × Unit) × Unit) × Unit)
def f (k : Nat) (a0 : tModuleD) : Option R := Option.bind (U39.f k ((List.length a0.1 : Nat) : Int) 1 3) fun r1 => bif r1.1.1.1 then (Option.bind (U73.f k a0.1 ((List.length a0.1 : Nat) : Int)) fun r2 => some (((!r2.1.1.1, ()), ()), ())) else (some (((false, ()), ()), ()))
abbrev S : ShapeParts := ⟨[⟨true, [.lst tFunc]⟩], [], false, [⟨false, [.bool]⟩], [], []⟩
def s (k : Nat) : FS := S.fs fun x => f k x.1.1
def E (k : Nat) : Ents := [(⟨24, []⟩, U39.s k), (⟨25, [26]⟩, U73.s k)]
def L : List (LS R) := []
def c : Code := Tryz.f13.body.getD .skip
theorem eq (k : Nat) (x) : (s k).pf x = execF tab (E k) Tryz.f13 c (s k) L x := by kernel_rfl
theorem sound : ∀ k, Sound Tryz.prog 13 (s k) := snd S (fun k => (s k).pf) E (fun k => (EntsOK.cons (U39.sound k) (EntsOK.cons (U73.sound k) EntsOK.nil))) (fun k => L) (fun k => trivial) eq
end U74
namespace U75
abbrev R := (((ByteArray × Unit) × Unit) × Unit)
abbrev T0 : Type := ByteArray → (List Int) → Int → Int → Option R
def l0_ (k : Nat) (l0 : T0) (a0 : ByteArray) (a1 : List Int) (a2 : Int) (a3 : Int) : Option R := bif decide (a3 < a2) then (bif (decide (0 ≤ a3)) && (decide (a3 < ((List.length a1 : Nat) : Int))) then (Option.bind (strconv_FormatInt.f k (List.getD a1 (Int.toNat a3) 0) 10) fun r1 => bif decide (ByteArray.size (ByteArray.mk #[32]) + ByteArray.size r1.1.1.1 ≤ big) then (bif decide (ByteArray.size a0 + ByteArray.size ((ByteArray.mk #[32]) ++ r1.1.1.1) ≤ big) then (l0 (a0 ++ ((ByteArray.mk #[32]) ++ r1.1.1.1)) a1 a2 (IntKind.wrap .i64 (a3 + 1))) else none) else none) else none) else (some (((a0, ()), ()), ()))
def all : Nat → (T0) × Unit
 | 0 => (fun _ _ _ _ => none, ())
 | k + 1 => (l0_ k (all k).1, ())
def l0 (k : Nat) : T0 := (all k).1
def f (k : Nat) (a0 : ByteArray) (a1 : List Int) : Option R := l0 k a0 a1 ((List.length a1 : Nat) : Int) 0
abbrev S : ShapeParts := ⟨[⟨false, [.str]⟩, ⟨false, [.lst (.int .i64)]⟩], [], false, [⟨false, [.str]⟩], [], []⟩
def s (k : Nat) : FS := S.fs fun x => f k x.1.1.1 x.1.2.1.1
def E (k : Nat) : Ents := [(⟨57, []⟩, strconv_FormatInt.s k)]
def L0 (l : T0) : LS R := ⟨[], [(0, ⟨false, [.str]⟩), (7, ⟨false, [.lst (.int .i64)]⟩), (8, ⟨false, [.int .i64]⟩), (9, ⟨false, [.int .i64]⟩)], [], fun x => l x.1.1.1 x.1.2.1.1 x.1.2.2.1.1 x.1.2.2.2.1.1⟩
def L (l0 : T0) : List (LS R) := [L0 l0]
def c : Code := Tryz.f29.body.getD .skip
theorem eq (k : Nat) (x) : (s k).pf x = execF tab (E k) Tryz.f29 c (s k) (L (l0 k)) x := by kernel_rfl
theorem r0 (l0 : T0) (k : Nat) (x) : (L0 (l0_ k l0)).l x = roundOf tab (E k) (L l0) c (fin tab Tryz.f29 (s k)) 0 (L0 l0) x := by kernel_rfl
theorem sound : ∀ k, Sound Tryz.prog 29 (s k) := snd S (fun k => (s k).pf) E (fun k => (EntsOK.cons (strconv_FormatInt.sound k) EntsOK.nil)) (fun k => L (l0 k)) (fun k => ⟨⟨(L0 (l0 (k + 1))).l, rfl, fun x => r0 (l0 k) k x⟩, trivial⟩) eq
end U75
namespace U76
abbrev R := (((Unit × Unit) × Unit) × ((List ByteArray) × Unit))
set_option maxRecDepth 100000 in
def f (k : Nat) : Option R := Option.bind (strings_Split.f k (ByteArray.mk #[97, 100, 100, 32, 115, 117, 98, 32, 109, 117, 108, 32, 117, 100, 105, 118, 32, 115, 100, 105, 118, 32, 117, 114, 101, 109, 32, 115, 114, 101, 109, 32, 97, 110, 100, 32, 111, 114, 32, 120, 111, 114, 32, 115, 104, 108, 32, 108, 115, 104, 114, 32, 97, 115, 104, 114, 32, 101, 113, 32, 110, 101, 32, 117, 108, 116, 32, 115, 108, 116, 32, 122, 101, 120, 116, 32, 115, 101, 120, 116, 32, 116, 114, 117, 110, 99, 32, 99, 111, 110, 115, 116, 32, 115, 101, 108, 101, 99, 116, 32, 108, 111, 97, 100, 32, 115, 116, 111, 114, 101, 32, 112, 114, 105, 110, 116, 32, 99, 97, 108, 108, 32, 99, 111, 112, 121]) (ByteArray.mk #[32])) fun r1 => some ((((), ()), ()), (r1.2.1, ()))
abbrev S : ShapeParts := ⟨[], [], false, [⟨false, [.own 100]⟩], [(100, .row true .str)], []⟩
def s (k : Nat) : FS := S.fs fun x => f k
def E (k : Nat) : Ents := [(⟨77, []⟩, strings_Split.s k)]
def L : List (LS R) := []
def c : Code := Tryz.f58.body.getD .skip
set_option maxRecDepth 100000 in
theorem eq (k : Nat) (x) : (s k).pf x = execF tab (E k) Tryz.f58 c (s k) L x := by kernel_rfl
set_option maxRecDepth 100000 in
theorem sound : ∀ k, Sound Tryz.prog 58 (s k) := snd S (fun k => (s k).pf) E (fun k => (EntsOK.cons (strings_Split.sound k) EntsOK.nil)) (fun k => L) (fun k => trivial) eq
end U76
namespace U77
abbrev R := (((Bool × Unit) × Unit) × Unit)
def f (k : Nat) (a0 : Int) : Option R := bif decide (a0 = 21) then (some (((true, ()), ()), ())) else (some (((decide (a0 = 26), ()), ()), ()))
abbrev S : ShapeParts := ⟨[⟨false, [.int .i64]⟩], [], false, [⟨false, [.bool]⟩], [], []⟩
def s (k : Nat) : FS := S.fs fun x => f k x.1.1.1
def E (k : Nat) : Ents := []
def L : List (LS R) := []
def c : Code := Tryz.f59.body.getD .skip
theorem eq (k : Nat) (x) : (s k).pf x = execF tab (E k) Tryz.f59 c (s k) L x := by kernel_rfl
theorem sound : ∀ k, Sound Tryz.prog 59 (s k) := snd S (fun k => (s k).pf) E (fun k => EntsOK.nil) (fun k => L) (fun k => trivial) eq
end U77
namespace U78
abbrev R := (((ByteArray × Unit) × Unit) × Unit)
set_option maxRecDepth 100000 in
def f (k : Nat) (a0 : tInstD) : Option R := Option.bind (U76.f k) fun r1 => bif (decide (0 ≤ IntKind.wrap .i64 (a0.1 - 1))) && (decide (IntKind.wrap .i64 (a0.1 - 1) < ((List.length r1.2.1 : Nat) : Int))) then (Option.bind (U75.f k (List.getD r1.2.1 (Int.toNat (IntKind.wrap .i64 (a0.1 - 1))) ByteArray.empty) [a0.2.1]) fun r2 => Option.bind (U77.f k a0.1) fun r3 => bif r3.1.1.1 then (Option.bind (U75.f k r2.1.1.1 [a0.2.2.2.2.2.1]) fun r4 => Option.bind (U53.f k a0) fun r5 => Option.bind (U75.f k r4.1.1.1 r5.2.1) fun r6 => some (((r6.1.1.1, ()), ()), ())) else (Option.bind (U53.f k a0) fun r7 => Option.bind (U75.f k r2.1.1.1 r7.2.1) fun r8 => some (((r8.1.1.1, ()), ()), ()))) else none
abbrev S : ShapeParts := ⟨[⟨true, [.int .i64, .int .i64, .int .i64, .int .i64, .int .i64, .int .i64, .lst (.int .i64)]⟩], [], false, [⟨false, [.str]⟩], [], []⟩
def s (k : Nat) : FS := S.fs fun x => f k x.1.1
def E (k : Nat) : Ents := [(⟨58, []⟩, U76.s k), (⟨29, []⟩, U75.s k), (⟨59, []⟩, U77.s k), (⟨60, []⟩, U53.s k)]
def L : List (LS R) := []
def c : Code := Tryz.f30.body.getD .skip
set_option maxRecDepth 100000 in
theorem eq (k : Nat) (x) : (s k).pf x = execF tab (E k) Tryz.f30 c (s k) L x := by kernel_rfl
set_option maxRecDepth 100000 in
theorem sound : ∀ k, Sound Tryz.prog 30 (s k) := snd S (fun k => (s k).pf) E (fun k => (EntsOK.cons (U76.sound k) (EntsOK.cons (U75.sound k) (EntsOK.cons (U77.sound k) (EntsOK.cons (U53.sound k) EntsOK.nil))))) (fun k => L) (fun k => trivial) eq
end U78
namespace U79
abbrev R := (((ByteArray × Unit) × Unit) × Unit)
def f (k : Nat) (a0 : tTermD) : Option R := bif decide (a0.1 = 1) then (Option.bind (U75.f k (ByteArray.mk #[114, 101, 116]) [a0.2.1]) fun r1 => some (((r1.1.1.1, ()), ()), ())) else (bif decide (a0.1 = 2) then (Option.bind (U75.f k (ByteArray.mk #[106, 117, 109, 112]) [a0.2.2.1]) fun r2 => some (((r2.1.1.1, ()), ()), ())) else (bif decide (a0.1 = 3) then (Option.bind (U75.f k (ByteArray.mk #[98, 114, 97, 110, 99, 104]) [a0.2.1, a0.2.2.1, a0.2.2.2.1]) fun r3 => some (((r3.1.1.1, ()), ()), ())) else (some ((((ByteArray.mk #[116, 114, 97, 112]), ()), ()), ()))))
abbrev S : ShapeParts := ⟨[⟨true, [.int .i64, .int .i64, .int .i64, .int .i64]⟩], [], false, [⟨false, [.str]⟩], [], []⟩
def s (k : Nat) : FS := S.fs fun x => f k x.1.1
def E (k : Nat) : Ents := [(⟨29, []⟩, U75.s k)]
def L : List (LS R) := []
def c : Code := Tryz.f31.body.getD .skip
theorem eq (k : Nat) (x) : (s k).pf x = execF tab (E k) Tryz.f31 c (s k) L x := by kernel_rfl
theorem sound : ∀ k, Sound Tryz.prog 31 (s k) := snd S (fun k => (s k).pf) E (fun k => (EntsOK.cons (U75.sound k) EntsOK.nil)) (fun k => L) (fun k => trivial) eq
end U79
namespace U80
abbrev R := (((ByteArray × Unit) × Unit) × Unit)
abbrev T0 : Type := (List tFuncD) → Int → Int → ByteArray → Option R
abbrev T1 : Type := (List tFuncD) → Int → Int → (List tBlockD) → Int → Int → ByteArray → Option R
abbrev T2 : Type := (List tFuncD) → Int → Int → (List tBlockD) → Int → Int → (List tPhiD) → Int → Int → ByteArray → tBlockD → Option R
abbrev T3 : Type := (List tFuncD) → Int → Int → (List tBlockD) → Int → Int → (List tInstD) → Int → Int → ByteArray → tBlockD → Option R
def l0_ (k : Nat) (l0 : T0) (l1 : T1) (l2 : T2) (l3 : T3) (a0 : List tFuncD) (a1 : Int) (a2 : Int) (a3 : ByteArray) : Option R := bif decide (a2 < a1) then (bif (decide (0 ≤ a2)) && (decide (a2 < ((List.length a0 : Nat) : Int))) then (Option.bind (U75.f k (ByteArray.mk #[102, 117, 110, 99]) [(List.getD a0 (Int.toNat a2) tFuncZ).2.1]) fun r1 => Option.bind (U75.f k r1.1.1.1 ((List.getD a0 (Int.toNat a2) tFuncZ).1)) fun r2 => bif decide (ByteArray.size r2.1.1.1 + ByteArray.size (ByteArray.mk #[10]) ≤ big) then (Option.bind (strings_Builder_WriteString.f k (r2.1.1.1 ++ (ByteArray.mk #[10])) a3) fun r3 => l1 a0 a1 a2 ((List.getD a0 (Int.toNat a2) tFuncZ).2.2.1) ((List.length ((List.getD a0 (Int.toNat a2) tFuncZ).2.2.1) : Nat) : Int) 0 r3.2.1) else none) else none) else (Option.bind (strings_Builder_String.f k a3) fun r4 => some (((r4.1.1.1, ()), ()), ()))
def l1_ (k : Nat) (l0 : T0) (l1 : T1) (l2 : T2) (l3 : T3) (a0 : List tFuncD) (a1 : Int) (a2 : Int) (a3 : List tBlockD) (a4 : Int) (a5 : Int) (a6 : ByteArray) : Option R := bif decide (a5 < a4) then (bif (decide (0 ≤ a5)) && (decide (a5 < ((List.length a3 : Nat) : Int))) then (Option.bind (strings_Builder_WriteString.f k (ByteArray.mk #[98, 108, 111, 99, 107, 10]) a6) fun r1 => l2 a0 a1 a2 a3 a4 a5 ((List.getD a3 (Int.toNat a5) tBlockZ).1) ((List.length ((List.getD a3 (Int.toNat a5) tBlockZ).1) : Nat) : Int) 0 r1.2.1 (List.getD a3 (Int.toNat a5) tBlockZ)) else none) else (l0 a0 a1 (IntKind.wrap .i64 (a2 + 1)) a6)
def l2_ (k : Nat) (l0 : T0) (l1 : T1) (l2 : T2) (l3 : T3) (a0 : List tFuncD) (a1 : Int) (a2 : Int) (a3 : List tBlockD) (a4 : Int) (a5 : Int) (a6 : List tPhiD) (a7 : Int) (a8 : Int) (a9 : ByteArray) (a10 : tBlockD) : Option R := bif decide (a8 < a7) then (bif (decide (0 ≤ a8)) && (decide (a8 < ((List.length a6 : Nat) : Int))) then (Option.bind (U75.f k (ByteArray.mk #[112, 104, 105]) [(List.getD a6 (Int.toNat a8) tPhiZ).1]) fun r1 => Option.bind (U75.f k r1.1.1.1 ((List.getD a6 (Int.toNat a8) tPhiZ).2.1)) fun r2 => bif decide (ByteArray.size r2.1.1.1 + ByteArray.size (ByteArray.mk #[10]) ≤ big) then (Option.bind (strings_Builder_WriteString.f k (r2.1.1.1 ++ (ByteArray.mk #[10])) a9) fun r3 => l2 a0 a1 a2 a3 a4 a5 a6 a7 (IntKind.wrap .i64 (a8 + 1)) r3.2.1 a10) else none) else none) else (l3 a0 a1 a2 a3 a4 a5 a10.2.1 ((List.length a10.2.1 : Nat) : Int) 0 a9 a10)
def l3_ (k : Nat) (l0 : T0) (l1 : T1) (l2 : T2) (l3 : T3) (a0 : List tFuncD) (a1 : Int) (a2 : Int) (a3 : List tBlockD) (a4 : Int) (a5 : Int) (a6 : List tInstD) (a7 : Int) (a8 : Int) (a9 : ByteArray) (a10 : tBlockD) : Option R := bif decide (a8 < a7) then (bif (decide (0 ≤ a8)) && (decide (a8 < ((List.length a6 : Nat) : Int))) then (Option.bind (U78.f k (List.getD a6 (Int.toNat a8) tInstZ)) fun r1 => bif decide (ByteArray.size r1.1.1.1 + ByteArray.size (ByteArray.mk #[10]) ≤ big) then (Option.bind (strings_Builder_WriteString.f k (r1.1.1.1 ++ (ByteArray.mk #[10])) a9) fun r2 => l3 a0 a1 a2 a3 a4 a5 a6 a7 (IntKind.wrap .i64 (a8 + 1)) r2.2.1 a10) else none) else none) else (Option.bind (U79.f k a10.2.2) fun r3 => bif decide (ByteArray.size r3.1.1.1 + ByteArray.size (ByteArray.mk #[10]) ≤ big) then (Option.bind (strings_Builder_WriteString.f k (r3.1.1.1 ++ (ByteArray.mk #[10])) a9) fun r4 => l1 a0 a1 a2 a3 a4 (IntKind.wrap .i64 (a5 + 1)) r4.2.1) else none)
def all : Nat → (T0) × (T1) × (T2) × (T3) × Unit
 | 0 => (fun _ _ _ _ => none, fun _ _ _ _ _ _ _ => none, fun _ _ _ _ _ _ _ _ _ _ _ => none, fun _ _ _ _ _ _ _ _ _ _ _ => none, ())
 | k + 1 => (l0_ k (all k).1 (all k).2.1 (all k).2.2.1 (all k).2.2.2.1, l1_ k (all k).1 (all k).2.1 (all k).2.2.1 (all k).2.2.2.1, l2_ k (all k).1 (all k).2.1 (all k).2.2.1 (all k).2.2.2.1, l3_ k (all k).1 (all k).2.1 (all k).2.2.1 (all k).2.2.2.1, ())
def l0 (k : Nat) : T0 := (all k).1
def l1 (k : Nat) : T1 := (all k).2.1
def l2 (k : Nat) : T2 := (all k).2.2.1
def l3 (k : Nat) : T3 := (all k).2.2.2.1
set_option maxRecDepth 100000 in
def f (k : Nat) (a0 : tModuleD) : Option R := l0 k a0.1 ((List.length a0.1 : Nat) : Int) 0 ByteArray.empty
abbrev S : ShapeParts := ⟨[⟨true, [.lst tFunc]⟩], [], false, [⟨false, [.str]⟩], [], []⟩
def s (k : Nat) : FS := S.fs fun x => f k x.1.1
def E (k : Nat) : Ents := [(⟨29, []⟩, U75.s k), (⟨28, []⟩, strings_Builder_WriteString.s k), (⟨32, []⟩, strings_Builder_String.s k), (⟨30, []⟩, U78.s k), (⟨31, []⟩, U79.s k)]
def L0 (l : T0) : LS R := ⟨[], [(3, ⟨false, [.ptr 100000 0]⟩), (13, ⟨false, [.lst tFunc]⟩), (14, ⟨false, [.int .i64]⟩), (15, ⟨false, [.int .i64]⟩)], [(100000, .bld 67 5)], fun x => l x.1.2.1.1 x.1.2.2.1.1 x.1.2.2.2.1.1 x.2.1⟩
def L1 (l : T1) : LS R := ⟨[], [(3, ⟨false, [.ptr 100000 0]⟩), (13, ⟨false, [.lst tFunc]⟩), (14, ⟨false, [.int .i64]⟩), (15, ⟨false, [.int .i64]⟩), (29, ⟨false, [.lst tBlock]⟩), (30, ⟨false, [.int .i64]⟩), (31, ⟨false, [.int .i64]⟩)], [(100000, .bld 67 5)], fun x => l x.1.2.1.1 x.1.2.2.1.1 x.1.2.2.2.1.1 x.1.2.2.2.2.1.1 x.1.2.2.2.2.2.1.1 x.1.2.2.2.2.2.2.1.1 x.2.1⟩
def L2 (l : T2) : LS R := ⟨[], [(3, ⟨false, [.ptr 100000 0]⟩), (7, ⟨false, [.ptr 100001 0]⟩), (13, ⟨false, [.lst tFunc]⟩), (14, ⟨false, [.int .i64]⟩), (15, ⟨false, [.int .i64]⟩), (29, ⟨false, [.lst tBlock]⟩), (30, ⟨false, [.int .i64]⟩), (31, ⟨false, [.int .i64]⟩), (37, ⟨false, [.lst tPhi]⟩), (38, ⟨false, [.int .i64]⟩), (39, ⟨false, [.int .i64]⟩)], [(100000, .bld 67 5), (100001, .box [.lst tPhi, .lst tInst, .int .i64, .int .i64, .int .i64, .int .i64])], fun x => l x.1.2.2.1.1 x.1.2.2.2.1.1 x.1.2.2.2.2.1.1 x.1.2.2.2.2.2.1.1 x.1.2.2.2.2.2.2.1.1 x.1.2.2.2.2.2.2.2.1.1 x.1.2.2.2.2.2.2.2.2.1.1 x.1.2.2.2.2.2.2.2.2.2.1.1 x.1.2.2.2.2.2.2.2.2.2.2.1.1 x.2.1 x.2.2.1⟩
def L3 (l : T3) : LS R := ⟨[], [(3, ⟨false, [.ptr 100000 0]⟩), (7, ⟨false, [.ptr 100001 0]⟩), (13, ⟨false, [.lst tFunc]⟩), (14, ⟨false, [.int .i64]⟩), (15, ⟨false, [.int .i64]⟩), (29, ⟨false, [.lst tBlock]⟩), (30, ⟨false, [.int .i64]⟩), (31, ⟨false, [.int .i64]⟩), (54, ⟨false, [.lst tInst]⟩), (55, ⟨false, [.int .i64]⟩), (56, ⟨false, [.int .i64]⟩)], [(100000, .bld 67 5), (100001, .box [.lst tPhi, .lst tInst, .int .i64, .int .i64, .int .i64, .int .i64])], fun x => l x.1.2.2.1.1 x.1.2.2.2.1.1 x.1.2.2.2.2.1.1 x.1.2.2.2.2.2.1.1 x.1.2.2.2.2.2.2.1.1 x.1.2.2.2.2.2.2.2.1.1 x.1.2.2.2.2.2.2.2.2.1.1 x.1.2.2.2.2.2.2.2.2.2.1.1 x.1.2.2.2.2.2.2.2.2.2.2.1.1 x.2.1 x.2.2.1⟩
def L (l0 : T0) (l1 : T1) (l2 : T2) (l3 : T3) : List (LS R) := [L0 l0, L1 l1, L2 l2, L3 l3]
def c : Code := Tryz.f14.body.getD .skip
set_option maxRecDepth 100000 in
theorem eq (k : Nat) (x) : (s k).pf x = execF tab (E k) Tryz.f14 c (s k) (L (l0 k) (l1 k) (l2 k) (l3 k)) x := by kernel_rfl
set_option maxRecDepth 100000 in
theorem r0 (l0 : T0) (l1 : T1) (l2 : T2) (l3 : T3) (k : Nat) (x) : (L0 (l0_ k l0 l1 l2 l3)).l x = roundOf tab (E k) (L l0 l1 l2 l3) c (fin tab Tryz.f14 (s k)) 0 (L0 l0) x := by kernel_rfl
set_option maxRecDepth 100000 in
theorem r1 (l0 : T0) (l1 : T1) (l2 : T2) (l3 : T3) (k : Nat) (x) : (L1 (l1_ k l0 l1 l2 l3)).l x = roundOf tab (E k) (L l0 l1 l2 l3) c (fin tab Tryz.f14 (s k)) 1 (L1 l1) x := by kernel_rfl
set_option maxRecDepth 100000 in
theorem r2 (l0 : T0) (l1 : T1) (l2 : T2) (l3 : T3) (k : Nat) (x) : (L2 (l2_ k l0 l1 l2 l3)).l x = roundOf tab (E k) (L l0 l1 l2 l3) c (fin tab Tryz.f14 (s k)) 2 (L2 l2) x := by kernel_rfl
set_option maxRecDepth 100000 in
theorem r3 (l0 : T0) (l1 : T1) (l2 : T2) (l3 : T3) (k : Nat) (x) : (L3 (l3_ k l0 l1 l2 l3)).l x = roundOf tab (E k) (L l0 l1 l2 l3) c (fin tab Tryz.f14 (s k)) 3 (L3 l3) x := by kernel_rfl
set_option maxRecDepth 100000 in
theorem sound : ∀ k, Sound Tryz.prog 14 (s k) := snd S (fun k => (s k).pf) E (fun k => (EntsOK.cons (U75.sound k) (EntsOK.cons (strings_Builder_WriteString.sound k) (EntsOK.cons (strings_Builder_String.sound k) (EntsOK.cons (U78.sound k) (EntsOK.cons (U79.sound k) EntsOK.nil)))))) (fun k => L (l0 k) (l1 k) (l2 k) (l3 k)) (fun k => ⟨⟨(L0 (l0 (k + 1))).l, rfl, fun x => r0 (l0 k) (l1 k) (l2 k) (l3 k) k x⟩, ⟨(L1 (l1 (k + 1))).l, rfl, fun x => r1 (l0 k) (l1 k) (l2 k) (l3 k) k x⟩, ⟨(L2 (l2 (k + 1))).l, rfl, fun x => r2 (l0 k) (l1 k) (l2 k) (l3 k) k x⟩, ⟨(L3 (l3 (k + 1))).l, rfl, fun x => r3 (l0 k) (l1 k) (l2 k) (l3 k) k x⟩, trivial⟩) eq
end U80
namespace U81
abbrev R := (((ByteArray × Unit) × Unit) × Unit)
set_option maxRecDepth 100000 in
def f (k : Nat) (a0 : tModuleD) : Option R := Option.bind (U74.f k (a0.1, ())) fun r1 => bif !r1.1.1.1 then (some (((ByteArray.empty, ()), ()), ())) else (Option.bind (U80.f k (a0.1, ())) fun r2 => some (((r2.1.1.1, ()), ()), ()))
abbrev S : ShapeParts := ⟨[⟨true, [.lst tFunc]⟩], [], false, [⟨false, [.str]⟩], [], []⟩
def s (k : Nat) : FS := S.fs fun x => f k x.1.1
def E (k : Nat) : Ents := [(⟨13, []⟩, U74.s k), (⟨14, []⟩, U80.s k)]
def L : List (LS R) := []
def c : Code := Tryz.f7.body.getD .skip
set_option maxRecDepth 100000 in
theorem eq (k : Nat) (x) : (s k).pf x = execF tab (E k) Tryz.f7 c (s k) L x := by kernel_rfl
set_option maxRecDepth 100000 in
theorem sound : ∀ k, Sound Tryz.prog 7 (s k) := snd S (fun k => (s k).pf) E (fun k => (EntsOK.cons (U74.sound k) (EntsOK.cons (U80.sound k) EntsOK.nil))) (fun k => L) (fun k => trivial) eq
end U81
namespace U82
abbrev R := (((Bool × Unit) × Unit) × Unit)
abbrev T0 : Type := (List Int) → (List Int) → Int → Option R
def l0_ (k : Nat) (l0 : T0) (a0 : List Int) (a1 : List Int) (a2 : Int) : Option R := bif decide (a2 < ((List.length a0 : Nat) : Int)) then (bif (decide (0 ≤ a2)) && (decide (a2 < ((List.length a0 : Nat) : Int))) then (bif (decide (0 ≤ a2)) && (decide (a2 < ((List.length a1 : Nat) : Int))) then (bif !decide (List.getD a0 (Int.toNat a2) 0 = List.getD a1 (Int.toNat a2) 0) then (some (((false, ()), ()), ())) else (l0 a0 a1 (IntKind.wrap .i64 (a2 + 1)))) else none) else none) else (some (((true, ()), ()), ()))
def all : Nat → (T0) × Unit
 | 0 => (fun _ _ _ => none, ())
 | k + 1 => (l0_ k (all k).1, ())
def l0 (k : Nat) : T0 := (all k).1
def f (k : Nat) (a0 : List Int) (a1 : List Int) : Option R := bif !decide (((List.length a0 : Nat) : Int) = ((List.length a1 : Nat) : Int)) then (some (((false, ()), ()), ())) else (l0 k a0 a1 0)
abbrev S : ShapeParts := ⟨[⟨false, [.lst (.int .i64)]⟩, ⟨false, [.lst (.int .i64)]⟩], [], false, [⟨false, [.bool]⟩], [], []⟩
def s (k : Nat) : FS := S.fs fun x => f k x.1.1.1 x.1.2.1.1
def E (k : Nat) : Ents := []
def L0 (l : T0) : LS R := ⟨[], [(0, ⟨false, [.lst (.int .i64)]⟩), (1, ⟨false, [.lst (.int .i64)]⟩), (5, ⟨false, [.int .i64]⟩)], [], fun x => l x.1.1.1 x.1.2.1.1 x.1.2.2.1.1⟩
def L (l0 : T0) : List (LS R) := [L0 l0]
def c : Code := Tryz.f61.body.getD .skip
theorem eq (k : Nat) (x) : (s k).pf x = execF tab (E k) Tryz.f61 c (s k) (L (l0 k)) x := by kernel_rfl
theorem r0 (l0 : T0) (k : Nat) (x) : (L0 (l0_ k l0)).l x = roundOf tab (E k) (L l0) c (fin tab Tryz.f61 (s k)) 0 (L0 l0) x := by kernel_rfl
theorem sound : ∀ k, Sound Tryz.prog 61 (s k) := snd S (fun k => (s k).pf) E (fun k => EntsOK.nil) (fun k => L (l0 k)) (fun k => ⟨⟨(L0 (l0 (k + 1))).l, rfl, fun x => r0 (l0 k) k x⟩, trivial⟩) eq
end U82
namespace U83
abbrev R := (((Bool × Unit) × Unit) × Unit)
def f (k : Nat) (a0 : tPhiD) (a1 : tPhiD) : Option R := bif !decide (a0.1 = a1.1) then (some (((false, ()), ()), ())) else (Option.bind (U82.f k a0.2.1 a1.2.1) fun r1 => bif !r1.1.1.1 then (some (((false, ()), ()), ())) else (some (((true, ()), ()), ())))
abbrev S : ShapeParts := ⟨[⟨true, [.int .i64, .lst (.int .i64)]⟩, ⟨true, [.int .i64, .lst (.int .i64)]⟩], [], false, [⟨false, [.bool]⟩], [], []⟩
def s (k : Nat) : FS := S.fs fun x => f k x.1.1 x.1.2.1
def E (k : Nat) : Ents := [(⟨61, []⟩, U82.s k)]
def L : List (LS R) := []
def c : Code := Tryz.f110.body.getD .skip
theorem eq (k : Nat) (x) : (s k).pf x = execF tab (E k) Tryz.f110 c (s k) L x := by kernel_rfl
theorem sound : ∀ k, Sound Tryz.prog 110 (s k) := snd S (fun k => (s k).pf) E (fun k => (EntsOK.cons (U82.sound k) EntsOK.nil)) (fun k => L) (fun k => trivial) eq
end U83
namespace U84
abbrev R := (((Bool × Unit) × Unit) × Unit)
abbrev T0 : Type := (List tPhiD) → (List tPhiD) → Int → Option R
def l0_ (k : Nat) (l0 : T0) (a0 : List tPhiD) (a1 : List tPhiD) (a2 : Int) : Option R := bif decide (a2 < ((List.length a0 : Nat) : Int)) then (bif (decide (0 ≤ a2)) && (decide (a2 < ((List.length a0 : Nat) : Int))) then (bif (decide (0 ≤ a2)) && (decide (a2 < ((List.length a1 : Nat) : Int))) then (Option.bind (U83.f k (List.getD a0 (Int.toNat a2) tPhiZ) (List.getD a1 (Int.toNat a2) tPhiZ)) fun r1 => bif !r1.1.1.1 then (some (((false, ()), ()), ())) else (l0 a0 a1 (IntKind.wrap .i64 (a2 + 1)))) else none) else none) else (some (((true, ()), ()), ()))
def all : Nat → (T0) × Unit
 | 0 => (fun _ _ _ => none, ())
 | k + 1 => (l0_ k (all k).1, ())
def l0 (k : Nat) : T0 := (all k).1
def f (k : Nat) (a0 : List tPhiD) (a1 : List tPhiD) : Option R := bif !decide (((List.length a0 : Nat) : Int) = ((List.length a1 : Nat) : Int)) then (some (((false, ()), ()), ())) else (l0 k a0 a1 0)
abbrev S : ShapeParts := ⟨[⟨false, [.lst tPhi]⟩, ⟨false, [.lst tPhi]⟩], [], false, [⟨false, [.bool]⟩], [], []⟩
def s (k : Nat) : FS := S.fs fun x => f k x.1.1.1 x.1.2.1.1
def E (k : Nat) : Ents := [(⟨110, []⟩, U83.s k)]
def L0 (l : T0) : LS R := ⟨[], [(0, ⟨false, [.lst tPhi]⟩), (1, ⟨false, [.lst tPhi]⟩), (5, ⟨false, [.int .i64]⟩)], [], fun x => l x.1.1.1 x.1.2.1.1 x.1.2.2.1.1⟩
def L (l0 : T0) : List (LS R) := [L0 l0]
def c : Code := Tryz.f94.body.getD .skip
theorem eq (k : Nat) (x) : (s k).pf x = execF tab (E k) Tryz.f94 c (s k) (L (l0 k)) x := by kernel_rfl
theorem r0 (l0 : T0) (k : Nat) (x) : (L0 (l0_ k l0)).l x = roundOf tab (E k) (L l0) c (fin tab Tryz.f94 (s k)) 0 (L0 l0) x := by kernel_rfl
theorem sound : ∀ k, Sound Tryz.prog 94 (s k) := snd S (fun k => (s k).pf) E (fun k => (EntsOK.cons (U83.sound k) EntsOK.nil)) (fun k => L (l0 k)) (fun k => ⟨⟨(L0 (l0 (k + 1))).l, rfl, fun x => r0 (l0 k) k x⟩, trivial⟩) eq
end U84
namespace U85
abbrev R := (((Bool × Unit) × Unit) × Unit)
def f (k : Nat) (a0 : tInstD) (a1 : tInstD) : Option R := bif !decide (a0.1 = a1.1) then (some (((false, ()), ()), ())) else (bif !decide (a0.2.1 = a1.2.1) then (some (((false, ()), ()), ())) else (bif !decide (a0.2.2.1 = a1.2.2.1) then (some (((false, ()), ()), ())) else (bif !decide (a0.2.2.2.1 = a1.2.2.2.1) then (some (((false, ()), ()), ())) else (bif !decide (a0.2.2.2.2.1 = a1.2.2.2.2.1) then (some (((false, ()), ()), ())) else (bif !decide (a0.2.2.2.2.2.1 = a1.2.2.2.2.2.1) then (some (((false, ()), ()), ())) else (Option.bind (U82.f k a0.2.2.2.2.2.2.1 a1.2.2.2.2.2.2.1) fun r1 => bif !r1.1.1.1 then (some (((false, ()), ()), ())) else (some (((true, ()), ()), ()))))))))
abbrev S : ShapeParts := ⟨[⟨true, [.int .i64, .int .i64, .int .i64, .int .i64, .int .i64, .int .i64, .lst (.int .i64)]⟩, ⟨true, [.int .i64, .int .i64, .int .i64, .int .i64, .int .i64, .int .i64, .lst (.int .i64)]⟩], [], false, [⟨false, [.bool]⟩], [], []⟩
def s (k : Nat) : FS := S.fs fun x => f k x.1.1 x.1.2.1
def E (k : Nat) : Ents := [(⟨61, []⟩, U82.s k)]
def L : List (LS R) := []
def c : Code := Tryz.f111.body.getD .skip
theorem eq (k : Nat) (x) : (s k).pf x = execF tab (E k) Tryz.f111 c (s k) L x := by kernel_rfl
theorem sound : ∀ k, Sound Tryz.prog 111 (s k) := snd S (fun k => (s k).pf) E (fun k => (EntsOK.cons (U82.sound k) EntsOK.nil)) (fun k => L) (fun k => trivial) eq
end U85
namespace U86
abbrev R := (((Bool × Unit) × Unit) × Unit)
abbrev T0 : Type := (List tInstD) → (List tInstD) → Int → Option R
def l0_ (k : Nat) (l0 : T0) (a0 : List tInstD) (a1 : List tInstD) (a2 : Int) : Option R := bif decide (a2 < ((List.length a0 : Nat) : Int)) then (bif (decide (0 ≤ a2)) && (decide (a2 < ((List.length a0 : Nat) : Int))) then (bif (decide (0 ≤ a2)) && (decide (a2 < ((List.length a1 : Nat) : Int))) then (Option.bind (U85.f k (List.getD a0 (Int.toNat a2) tInstZ) (List.getD a1 (Int.toNat a2) tInstZ)) fun r1 => bif !r1.1.1.1 then (some (((false, ()), ()), ())) else (l0 a0 a1 (IntKind.wrap .i64 (a2 + 1)))) else none) else none) else (some (((true, ()), ()), ()))
def all : Nat → (T0) × Unit
 | 0 => (fun _ _ _ => none, ())
 | k + 1 => (l0_ k (all k).1, ())
def l0 (k : Nat) : T0 := (all k).1
def f (k : Nat) (a0 : List tInstD) (a1 : List tInstD) : Option R := bif !decide (((List.length a0 : Nat) : Int) = ((List.length a1 : Nat) : Int)) then (some (((false, ()), ()), ())) else (l0 k a0 a1 0)
abbrev S : ShapeParts := ⟨[⟨false, [.lst tInst]⟩, ⟨false, [.lst tInst]⟩], [], false, [⟨false, [.bool]⟩], [], []⟩
def s (k : Nat) : FS := S.fs fun x => f k x.1.1.1 x.1.2.1.1
def E (k : Nat) : Ents := [(⟨111, []⟩, U85.s k)]
def L0 (l : T0) : LS R := ⟨[], [(0, ⟨false, [.lst tInst]⟩), (1, ⟨false, [.lst tInst]⟩), (5, ⟨false, [.int .i64]⟩)], [], fun x => l x.1.1.1 x.1.2.1.1 x.1.2.2.1.1⟩
def L (l0 : T0) : List (LS R) := [L0 l0]
def c : Code := Tryz.f95.body.getD .skip
theorem eq (k : Nat) (x) : (s k).pf x = execF tab (E k) Tryz.f95 c (s k) (L (l0 k)) x := by kernel_rfl
theorem r0 (l0 : T0) (k : Nat) (x) : (L0 (l0_ k l0)).l x = roundOf tab (E k) (L l0) c (fin tab Tryz.f95 (s k)) 0 (L0 l0) x := by kernel_rfl
theorem sound : ∀ k, Sound Tryz.prog 95 (s k) := snd S (fun k => (s k).pf) E (fun k => (EntsOK.cons (U85.sound k) EntsOK.nil)) (fun k => L (l0 k)) (fun k => ⟨⟨(L0 (l0 (k + 1))).l, rfl, fun x => r0 (l0 k) k x⟩, trivial⟩) eq
end U86
namespace U87
abbrev R := (((Bool × Unit) × Unit) × Unit)
def f (k : Nat) (a0 : tTermD) (a1 : tTermD) : Option R := bif !decide (a0.1 = a1.1) then (some (((false, ()), ()), ())) else (bif !decide (a0.2.1 = a1.2.1) then (some (((false, ()), ()), ())) else (bif !decide (a0.2.2.1 = a1.2.2.1) then (some (((false, ()), ()), ())) else (bif !decide (a0.2.2.2.1 = a1.2.2.2.1) then (some (((false, ()), ()), ())) else (some (((true, ()), ()), ())))))
abbrev S : ShapeParts := ⟨[⟨true, [.int .i64, .int .i64, .int .i64, .int .i64]⟩, ⟨true, [.int .i64, .int .i64, .int .i64, .int .i64]⟩], [], false, [⟨false, [.bool]⟩], [], []⟩
def s (k : Nat) : FS := S.fs fun x => f k x.1.1 x.1.2.1
def E (k : Nat) : Ents := []
def L : List (LS R) := []
def c : Code := Tryz.f96.body.getD .skip
theorem eq (k : Nat) (x) : (s k).pf x = execF tab (E k) Tryz.f96 c (s k) L x := by kernel_rfl
theorem sound : ∀ k, Sound Tryz.prog 96 (s k) := snd S (fun k => (s k).pf) E (fun k => EntsOK.nil) (fun k => L) (fun k => trivial) eq
end U87
namespace U88
abbrev R := (((Bool × Unit) × Unit) × Unit)
def f (k : Nat) (a0 : tBlockD) (a1 : tBlockD) : Option R := Option.bind (U84.f k a0.1 a1.1) fun r1 => bif !r1.1.1.1 then (some (((false, ()), ()), ())) else (Option.bind (U86.f k a0.2.1 a1.2.1) fun r2 => bif !r2.1.1.1 then (some (((false, ()), ()), ())) else (Option.bind (U87.f k a0.2.2 a1.2.2) fun r3 => bif !r3.1.1.1 then (some (((false, ()), ()), ())) else (some (((true, ()), ()), ()))))
abbrev S : ShapeParts := ⟨[⟨true, [.lst tPhi, .lst tInst, .int .i64, .int .i64, .int .i64, .int .i64]⟩, ⟨true, [.lst tPhi, .lst tInst, .int .i64, .int .i64, .int .i64, .int .i64]⟩], [], false, [⟨false, [.bool]⟩], [], []⟩
def s (k : Nat) : FS := S.fs fun x => f k x.1.1 x.1.2.1
def E (k : Nat) : Ents := [(⟨94, []⟩, U84.s k), (⟨95, []⟩, U86.s k), (⟨96, []⟩, U87.s k)]
def L : List (LS R) := []
def c : Code := Tryz.f81.body.getD .skip
theorem eq (k : Nat) (x) : (s k).pf x = execF tab (E k) Tryz.f81 c (s k) L x := by kernel_rfl
theorem sound : ∀ k, Sound Tryz.prog 81 (s k) := snd S (fun k => (s k).pf) E (fun k => (EntsOK.cons (U84.sound k) (EntsOK.cons (U86.sound k) (EntsOK.cons (U87.sound k) EntsOK.nil)))) (fun k => L) (fun k => trivial) eq
end U88
namespace U89
abbrev R := (((Bool × Unit) × Unit) × Unit)
abbrev T0 : Type := (List tBlockD) → (List tBlockD) → Int → Option R
def l0_ (k : Nat) (l0 : T0) (a0 : List tBlockD) (a1 : List tBlockD) (a2 : Int) : Option R := bif decide (a2 < ((List.length a0 : Nat) : Int)) then (bif (decide (0 ≤ a2)) && (decide (a2 < ((List.length a0 : Nat) : Int))) then (bif (decide (0 ≤ a2)) && (decide (a2 < ((List.length a1 : Nat) : Int))) then (Option.bind (U88.f k (List.getD a0 (Int.toNat a2) tBlockZ) (List.getD a1 (Int.toNat a2) tBlockZ)) fun r1 => bif !r1.1.1.1 then (some (((false, ()), ()), ())) else (l0 a0 a1 (IntKind.wrap .i64 (a2 + 1)))) else none) else none) else (some (((true, ()), ()), ()))
def all : Nat → (T0) × Unit
 | 0 => (fun _ _ _ => none, ())
 | k + 1 => (l0_ k (all k).1, ())
def l0 (k : Nat) : T0 := (all k).1
def f (k : Nat) (a0 : List tBlockD) (a1 : List tBlockD) : Option R := bif !decide (((List.length a0 : Nat) : Int) = ((List.length a1 : Nat) : Int)) then (some (((false, ()), ()), ())) else (l0 k a0 a1 0)
abbrev S : ShapeParts := ⟨[⟨false, [.lst tBlock]⟩, ⟨false, [.lst tBlock]⟩], [], false, [⟨false, [.bool]⟩], [], []⟩
def s (k : Nat) : FS := S.fs fun x => f k x.1.1.1 x.1.2.1.1
def E (k : Nat) : Ents := [(⟨81, []⟩, U88.s k)]
def L0 (l : T0) : LS R := ⟨[], [(0, ⟨false, [.lst tBlock]⟩), (1, ⟨false, [.lst tBlock]⟩), (5, ⟨false, [.int .i64]⟩)], [], fun x => l x.1.1.1 x.1.2.1.1 x.1.2.2.1.1⟩
def L (l0 : T0) : List (LS R) := [L0 l0]
def c : Code := Tryz.f62.body.getD .skip
theorem eq (k : Nat) (x) : (s k).pf x = execF tab (E k) Tryz.f62 c (s k) (L (l0 k)) x := by kernel_rfl
theorem r0 (l0 : T0) (k : Nat) (x) : (L0 (l0_ k l0)).l x = roundOf tab (E k) (L l0) c (fin tab Tryz.f62 (s k)) 0 (L0 l0) x := by kernel_rfl
theorem sound : ∀ k, Sound Tryz.prog 62 (s k) := snd S (fun k => (s k).pf) E (fun k => (EntsOK.cons (U88.sound k) EntsOK.nil)) (fun k => L (l0 k)) (fun k => ⟨⟨(L0 (l0 (k + 1))).l, rfl, fun x => r0 (l0 k) k x⟩, trivial⟩) eq
end U89
namespace U90
abbrev R := (((Bool × Unit) × Unit) × Unit)
def f (k : Nat) (a0 : tFuncD) (a1 : tFuncD) : Option R := Option.bind (U82.f k a0.1 a1.1) fun r1 => bif !r1.1.1.1 then (some (((false, ()), ()), ())) else (bif !decide (a0.2.1 = a1.2.1) then (some (((false, ()), ()), ())) else (Option.bind (U89.f k a0.2.2.1 a1.2.2.1) fun r2 => bif !r2.1.1.1 then (some (((false, ()), ()), ())) else (some (((true, ()), ()), ()))))
abbrev S : ShapeParts := ⟨[⟨true, [.lst (.int .i64), .int .i64, .lst tBlock]⟩, ⟨true, [.lst (.int .i64), .int .i64, .lst tBlock]⟩], [], false, [⟨false, [.bool]⟩], [], []⟩
def s (k : Nat) : FS := S.fs fun x => f k x.1.1 x.1.2.1
def E (k : Nat) : Ents := [(⟨61, []⟩, U82.s k), (⟨62, []⟩, U89.s k)]
def L : List (LS R) := []
def c : Code := Tryz.f33.body.getD .skip
theorem eq (k : Nat) (x) : (s k).pf x = execF tab (E k) Tryz.f33 c (s k) L x := by kernel_rfl
theorem sound : ∀ k, Sound Tryz.prog 33 (s k) := snd S (fun k => (s k).pf) E (fun k => (EntsOK.cons (U82.sound k) (EntsOK.cons (U89.sound k) EntsOK.nil))) (fun k => L) (fun k => trivial) eq
end U90
namespace U91
abbrev R := (((Bool × Unit) × Unit) × Unit)
abbrev T0 : Type := (List tFuncD) → (List tFuncD) → Int → Option R
def l0_ (k : Nat) (l0 : T0) (a0 : List tFuncD) (a1 : List tFuncD) (a2 : Int) : Option R := bif decide (a2 < ((List.length a0 : Nat) : Int)) then (bif (decide (0 ≤ a2)) && (decide (a2 < ((List.length a0 : Nat) : Int))) then (bif (decide (0 ≤ a2)) && (decide (a2 < ((List.length a1 : Nat) : Int))) then (Option.bind (U90.f k (List.getD a0 (Int.toNat a2) tFuncZ) (List.getD a1 (Int.toNat a2) tFuncZ)) fun r1 => bif !r1.1.1.1 then (some (((false, ()), ()), ())) else (l0 a0 a1 (IntKind.wrap .i64 (a2 + 1)))) else none) else none) else (some (((true, ()), ()), ()))
def all : Nat → (T0) × Unit
 | 0 => (fun _ _ _ => none, ())
 | k + 1 => (l0_ k (all k).1, ())
def l0 (k : Nat) : T0 := (all k).1
def f (k : Nat) (a0 : List tFuncD) (a1 : List tFuncD) : Option R := bif !decide (((List.length a0 : Nat) : Int) = ((List.length a1 : Nat) : Int)) then (some (((false, ()), ()), ())) else (l0 k a0 a1 0)
abbrev S : ShapeParts := ⟨[⟨false, [.lst tFunc]⟩, ⟨false, [.lst tFunc]⟩], [], false, [⟨false, [.bool]⟩], [], []⟩
def s (k : Nat) : FS := S.fs fun x => f k x.1.1.1 x.1.2.1.1
def E (k : Nat) : Ents := [(⟨33, []⟩, U90.s k)]
def L0 (l : T0) : LS R := ⟨[], [(0, ⟨false, [.lst tFunc]⟩), (1, ⟨false, [.lst tFunc]⟩), (5, ⟨false, [.int .i64]⟩)], [], fun x => l x.1.1.1 x.1.2.1.1 x.1.2.2.1.1⟩
def L (l0 : T0) : List (LS R) := [L0 l0]
def c : Code := Tryz.f15.body.getD .skip
theorem eq (k : Nat) (x) : (s k).pf x = execF tab (E k) Tryz.f15 c (s k) (L (l0 k)) x := by kernel_rfl
theorem r0 (l0 : T0) (k : Nat) (x) : (L0 (l0_ k l0)).l x = roundOf tab (E k) (L l0) c (fin tab Tryz.f15 (s k)) 0 (L0 l0) x := by kernel_rfl
theorem sound : ∀ k, Sound Tryz.prog 15 (s k) := snd S (fun k => (s k).pf) E (fun k => (EntsOK.cons (U90.sound k) EntsOK.nil)) (fun k => L (l0 k)) (fun k => ⟨⟨(L0 (l0 (k + 1))).l, rfl, fun x => r0 (l0 k) k x⟩, trivial⟩) eq
end U91
namespace U92
abbrev R := (((Bool × Unit) × Unit) × Unit)
def f (k : Nat) (a0 : tModuleD) (a1 : tModuleD) : Option R := Option.bind (U91.f k a0.1 a1.1) fun r1 => bif !r1.1.1.1 then (some (((false, ()), ()), ())) else (some (((true, ()), ()), ()))
abbrev S : ShapeParts := ⟨[⟨true, [.lst tFunc]⟩, ⟨true, [.lst tFunc]⟩], [], false, [⟨false, [.bool]⟩], [], []⟩
def s (k : Nat) : FS := S.fs fun x => f k x.1.1 x.1.2.1
def E (k : Nat) : Ents := [(⟨15, []⟩, U91.s k)]
def L : List (LS R) := []
def c : Code := Tryz.f8.body.getD .skip
theorem eq (k : Nat) (x) : (s k).pf x = execF tab (E k) Tryz.f8 c (s k) L x := by kernel_rfl
theorem sound : ∀ k, Sound Tryz.prog 8 (s k) := snd S (fun k => (s k).pf) E (fun k => (EntsOK.cons (U91.sound k) EntsOK.nil)) (fun k => L) (fun k => trivial) eq
end U92
namespace laws_FnExactModuleText
abbrev R := (((Bool × Unit) × Unit) × Unit)
set_option maxRecDepth 100000 in
def f (k : Nat) (a0 : tModuleD) : Option R := Option.bind (U9.f k (a0.1, ()) 1048576) fun r1 => bif decide (r1.1.1.1 < 0) then (some (((true, ()), ()), ())) else (Option.bind (U20.f k (a0.1, ())) fun r2 => Option.bind (U38.f k (r2.2.1, ())) fun r3 => Option.bind (U20.f k (a0.1, ())) fun r4 => Option.bind (U81.f k (r4.2.1, ())) fun r5 => bif !strEq r5.1.1.1 r3.1.1.1 then (some (((false, ()), ()), ())) else (Option.bind (U20.f k (a0.1, ())) fun r6 => Option.bind (U92.f k (r4.2.1, ()) (r6.2.1, ())) fun r7 => bif !r7.1.1.1 then (some (((false, ()), ()), ())) else (some (((true, ()), ()), ()))))
abbrev S : ShapeParts := ⟨[⟨true, [.lst tFunc]⟩], [], false, [⟨false, [.bool]⟩], [], []⟩
def s (k : Nat) : FS := S.fs fun x => f k x.1.1
def E (k : Nat) : Ents := [(⟨4, []⟩, U9.s k), (⟨6, []⟩, U20.s k), (⟨5, []⟩, U38.s k), (⟨7, []⟩, U81.s k), (⟨8, []⟩, U92.s k)]
def L : List (LS R) := []
def c : Code := Tryz.f3.body.getD .skip
set_option maxRecDepth 100000 in
theorem eq (k : Nat) (x) : (s k).pf x = execF tab (E k) Tryz.f3 c (s k) L x := by kernel_rfl
set_option maxRecDepth 100000 in
theorem sound : ∀ k, Sound Tryz.prog 3 (s k) := snd S (fun k => (s k).pf) E (fun k => (EntsOK.cons (U9.sound k) (EntsOK.cons (U20.sound k) (EntsOK.cons (U38.sound k) (EntsOK.cons (U81.sound k) (EntsOK.cons (U92.sound k) EntsOK.nil)))))) (fun k => L) (fun k => trivial) eq
end laws_FnExactModuleText
section
open Go Go.Deep Go.RowKit
/-- What is known of a datum that was read. -/
def Wf : (t : T) → t.Den → Prop
 | .int k, n => (Lit.int k n).wf = true
 | .bool, _ => True
 | .str, s => ByteArray.size s ≤ 9223372036854775807
 | .list t, xs => List.length (α := t.Den) xs ≤ 9223372036854775807 ∧ ∀ x : t.Den, List.Mem (α := t.Den) x xs → Wf t x
 | .pair a b, x => Wf a (Prod.fst (α := a.Den) (β := b.Den) x) ∧ Wf b (Prod.snd (α := a.Den) (β := b.Den) x)
 | .unit, _ => True
def OpensC (P : Program) (ty : TypeId) (t r : T) : Prop :=
 ∀ (H : Type) (enc : TypeId × Value → H) (w : World) (base : Nat) (spare : Nat → Bool) (held : Bool) (fuel : Nat) (cs : List Value) (x : DataW H × List MemPlace), DataW.trod enc P w base spare held fuel ty cs = some x →
  ∀ (y : r.Den) (us : List Value), Rd (fun b => b < w.heap.size) w r y us → Wf r y → ∃ a : t.Den, Rd (fun b => b < w.heap.size) w t a (cs ++ us) ∧ Wf t a
def Opens (P : Program) (ty : TypeId) (t : T) : Prop :=
 ∀ (H : Type) (enc : TypeId × Value → H) (w : World) (base : Nat) (spare : Nat → Bool) (held : Bool) (fuel : Nat) (cs : List Value) (x : DataW H × List MemPlace), DataW.trod enc P w base spare held fuel ty cs = some x →
  ∃ a : t.Den, Rd (fun b => b < w.heap.size) w t a cs ∧ Wf t a
theorem OpensC.whole {P : Program} {ty : TypeId} {t : T} (h : OpensC P ty t .unit) : Opens P ty t := by
 intro H enc w base spare held fuel cs x hx
 obtain ⟨a, h1, h2⟩ := h H enc w base spare held fuel cs x hx () [] rfl trivial
 rw [List.append_nil] at h1
 exact ⟨a, h1, h2⟩
theorem OpensC.one {P : Program} {ty : TypeId} {e : T} (h : OpensC P ty (.pair e .unit) .unit) : Opens P ty e := by
 intro H enc w base spare held fuel cs x hx
 obtain ⟨a, ⟨us, ws, h0, h1, h2⟩, h3⟩ := h H enc w base spare held fuel cs x hx () [] rfl trivial
 simp only [Rd] at h2
 subst h2
 simp only [List.append_nil] at h0
 subst h0
 exact ⟨_, h1, h3.1⟩
theorem OpensC.leaf {P : Program} {ty : TypeId} {e r : T} (h : Opens P ty e) : OpensC P ty (.pair e r) r := by
 intro H enc w base spare held fuel cs x hx y us hy hw
 obtain ⟨a, h1, h2⟩ := h H enc w base spare held fuel cs x hx
 exact ⟨(a, y), ⟨cs, us, rfl, h1, hy⟩, h2, hw⟩
theorem opens_list {P : Program} {ty el : TypeId} {e : T} (hu : P.underlying ty = some (.slice el)) (hc : P.cellsOf el = e.sz) (h1 : 1 ≤ e.sz) (h : Opens P el e) : Opens P ty (.list e) := by
 intro H enc w base spare held fuel cs x hx
 rcases open_slice hu hx with ⟨rfl, -⟩ | ⟨a, len, cap, m, n, D, Pl, rfl, hb, hl, hm, hmm, -, hel⟩
 ·exact ⟨([] : List e.Den), ⟨none, 0, rfl, Nat.le_refl _, fun h => absurd rfl h⟩, Nat.zero_le _, fun _ h => (List.not_mem_nil h).elim⟩
 ·have hlm : len ≤ m := by rw [hmm]; split <;> omega
  have hspot : len ≠ 0 → a.spot = none ∧ a.block < w.heap.size := by
   intro hn
   obtain ⟨cs', c1, c2⟩ := hel 0 (by omega)
   obtain ⟨-, l1, l2⟩ := World.cells?_some c1
   rw [hc] at l1 l2
   have h0 := l2 0 (by omega)
   simp only [Nat.zero_mul, Addr.add, if_true] at h0
   rw [List.getElem?_eq_getElem (by omega)] at h0
   unfold World.cell? at h0
   split at h0
   ·rename_i hh
    refine ⟨?_, (Array.getElem?_eq_some_iff.1 hh).1⟩
    split at h0
    ·cases h0
    ·rename_i hs
     simpa using hs
   ·cases h0
  have hadd : len ≠ 0 → ∀ n, a.add n = ⟨a.block, a.off + n, none⟩ := by
   intro hn n
   have hs := (hspot hn).1
   unfold Addr.add
   split
   ·rename_i h0
    subst h0
    cases a
    simp only at hs
    subst hs
    rfl
   ·rfl
  have each : ∀ n, n ≤ len → ∃ (xs : List e.Den) (us : List Value), xs.length = n ∧ (∀ x ∈ xs, Wf e x) ∧ At w a.block a.off us ∧ ELs (Rd (fun b => b < w.heap.size) w e) e.sz xs us := by
   intro n
   induction n with
   | zero => exact fun _ => ⟨[], [], rfl, fun _ h => (List.not_mem_nil h).elim, fun j v hj => by simp at hj, rfl⟩
   | succ n ih =>
    intro hn
    obtain ⟨xs, us, i1, i2, i4, i5⟩ := ih (by omega)
    obtain ⟨cs', c1, c2⟩ := hel n (by omega)
    obtain ⟨y, y1, y2⟩ := h H enc w base spare held _ cs' _ c2
    obtain ⟨-, l1, l2⟩ := World.cells?_some c1
    rw [hc] at l1 l2
    have hcell : ∀ j, j < e.sz → w.cell? ⟨a.block, a.off + (n * e.sz + j), none⟩ = cs'[j]? := by
     intro j hj
     have := l2 j hj
     rw [Deep.add_add, hadd (by omega)] at this
     exact this
    refine ⟨xs ++ [y], us ++ cs', by simp [i1], fun x hx => ?_, fun j v hj => ?_, ?_⟩
    ·rcases List.mem_append.1 hx with hx | hx
     ·exact i2 x hx
     ·simp only [List.mem_singleton] at hx; subst hx; exact y2
    ·have hul : us.length = n * e.sz := by have := i5.length; rw [i1] at this; exact this
     rcases Nat.lt_or_ge j us.length with hlt | hge
     ·rw [List.getElem?_append_left hlt] at hj
      exact i4 j v hj
     ·rw [List.getElem?_append_right hge] at hj
      have hlt := (List.getElem?_eq_some_iff.1 hj).1
      have := hcell (j - us.length) (by omega)
      rw [hj, show a.off + (n * e.sz + (j - us.length)) = a.off + j by omega] at this
      exact this
    ·refine i5.app ⟨cs', [], by simp, l1, y1, rfl⟩
  obtain ⟨xs, us, i1, i2, i4, i5⟩ := each len (Nat.le_refl _)
  refine ⟨xs, ⟨some a, cap, by rw [i1], by omega, fun hne => ?_⟩, ?_, i2⟩
  ·have hn : len ≠ 0 := fun h0 => hne (List.length_eq_zero_iff.1 (by omega))
   obtain ⟨s1, s2⟩ := hspot hn
   refine ⟨a.block, a.off, us, ?_, s2, i4, i5⟩
   cases a
   simp only at s1
   subst s1
   rfl
  ·have : cap ≤ maxLen := hm
   unfold maxLen at this
   show xs.length ≤ _
   omega
theorem opens_int {P : Program} {t : TypeId} {k : IntKind} (hu : P.underlying t = some (.int k)) : Opens P t (.int k) := by
 intro H enc w base spare held fuel cs x h
 obtain ⟨n, rfl, -, hw⟩ := DataW.trod_int hu h
 exact ⟨n, rfl, hw⟩
/-- Fields from place o on, of m cells. -/
def OpensF (P : Program) (o m : Nat) (fs : List Field) (t r : T) : Prop :=
 ∀ (H : Type) (enc : TypeId × Value → H) (w : World) (base : Nat) (spare : Nat → Bool) (held : Bool) (fuel : Nat) (cs : List Value),
  (∀ f ∈ fs, ∃ x, DataW.trod enc P w base spare held fuel f.type ((cs.drop f.offset).take (P.cellsOf f.type)) = some x) → cs.length = o + m →
  ∀ (y : r.Den) (us : List Value), Rd (fun b => b < w.heap.size) w r y us → Wf r y → ∃ a : t.Den, Rd (fun b => b < w.heap.size) w t a (cs.drop o ++ us) ∧ Wf t a
theorem opensF_nil {P : Program} {o : Nat} {t : T} : OpensF P o 0 [] t t := by
 intro H enc w base spare held fuel cs h hl y us hy hw
 refine ⟨y, ?_, hw⟩
 rw [List.drop_eq_nil_of_le (by omega), List.nil_append]
 exact hy
theorem opensF_cons {P : Program} {o m n : Nat} {f : Field} {fs : List Field} {t t1 r : T} (ho : f.offset = o) (hc : P.cellsOf f.type = m) (hd : OpensC P f.type t t1) (hs : OpensF P (o + m) n fs t1 r) : OpensF P o (m + n) (f :: fs) t r := by
 intro H enc w base spare held fuel cs h hl y us hy hw
 obtain ⟨x, hx⟩ := h f (by simp)
 obtain ⟨a1, q1, q2⟩ := hs H enc w base spare held fuel cs (fun f hf => h f (by simp [hf])) (by omega) y us hy hw
 rw [ho, hc] at hx
 obtain ⟨a, q3, q4⟩ := hd H enc w base spare held fuel _ _ hx a1 _ q1 q2
 refine ⟨a, ?_, q4⟩
 rw [← List.append_assoc, ← List.drop_drop, List.take_append_drop] at q3
 exact q3
theorem opensC_struct {P : Program} {ty : TypeId} {fs : Array Field} {m : Nat} {t r : T} (hu : P.underlying ty = some (.struct fs)) (hc : P.cellsOf ty = m) (hd : OpensF P 0 m fs.toList t r) : OpensC P ty t r := by
 intro H enc w base spare held fuel cs x h y us hy hw
 obtain ⟨xs, n, -, -, hl, hxs, hf⟩ := DataW.trod_struct hu h
 have := hd H enc w base spare held n cs (fun f hm => by
  obtain ⟨i, hi, rfl⟩ := List.getElem_of_mem hm
  have hi' : i < fs.size := by simpa using hi
  have := hf i fs[i] (by simp [hi'])
  rw [List.getElem?_eq_getElem (by omega)] at this
  exact ⟨_, by simpa using this⟩) (by rw [hl, hc, Nat.zero_add]) y us hy hw
 simpa using this
def gh0 (W : World) : Gh := ⟨fun _ => none, fun _ => none, fun b => b < W.heap.size⟩
theorem rval_struct {W : World} {t : T} {a : t.Den} {cs : Array Value} (h : Rd (fun b => b < W.heap.size) W t a cs.toList) : RVal (gh0 W) [] W true (cellsOf t a) (.agg cs) :=
 ⟨cs, rfl, rcs_cells (g := gh0 W) h⟩
theorem law_calls {P : Program} {f : FuncId} {ins : List VS} {pf : DenV ins × DenO [] → Option (DenV [⟨false, [.bool]⟩] × DenO [])} (hs : Sound P f ⟨ins, [], false, [⟨false, [.bool]⟩], [], [], pf⟩) {x : DenV ins} (hx : pf (x, ()) = some (((true, ()), ()), ())) {W : World} {args : Array Value}
  (hlx : LX (gh0 W).F W) (h : RVals (gh0 W) [] W (instV ins x) args.toList) : Calls P f args W fun e W' => e = .returned (.bool true) ∧ Below W.heap.size W W' := by
 have hG : RelG (gh0 W) [] W := ⟨fun o ob h => (by cases h), fun b o h => (by cases h), fun b h => h, hlx⟩
 refine (hs.2 (x, ()) (((true, ()), ()), ()) hx (gh0 W) W args hG h).mono fun e W' he => ?_
 cases e with
 | returned v =>
  obtain ⟨g', O⟩ := he
  have hv : RVal g' [] W' false [.bool true] v := O.val
  obtain ⟨u, us, e, h1, h2⟩ := hv
  obtain ⟨rfl, rfl⟩ : u = v ∧ us = [] := by simpa using e.symm
  have h3 : u = .bool true := h1.2
  refine ⟨by rw [h3], O.ext.os, O.ext.tape, O.ext.output, O.ext.size, fun k hk => O.ext.block k hk (by simp [gh0])⟩
 | panicked c => exact he.elim
 | outgrown => exact he.elim
end
theorem opensC131 (r : T) : OpensC Tryz.prog 131 (.pair (.int .i64) (.pair (.list (.int .i64)) r)) r := opensC_struct Tryz.underlying131 (by kernel_rfl) (opensF_cons (o := 0) (m := 1) (n := 1) rfl (by kernel_rfl) (OpensC.leaf (opens_int Tryz.underlying2)) (opensF_cons (o := 1) (m := 1) (n := 0) rfl (by kernel_rfl) (OpensC.leaf (opens_list Tryz.underlying38 (by kernel_rfl) (by decide) (opens_int Tryz.underlying2))) opensF_nil))
theorem opensC133 (r : T) : OpensC Tryz.prog 133 (.pair (.int .i64) (.pair (.int .i64) (.pair (.int .i64) (.pair (.int .i64) (.pair (.int .i64) (.pair (.int .i64) (.pair (.list (.int .i64)) r))))))) r := opensC_struct Tryz.underlying133 (by kernel_rfl) (opensF_cons (o := 0) (m := 1) (n := 6) rfl (by kernel_rfl) (OpensC.leaf (opens_int Tryz.underlying2)) (opensF_cons (o := 1) (m := 1) (n := 5) rfl (by kernel_rfl) (OpensC.leaf (opens_int Tryz.underlying2)) (opensF_cons (o := 2) (m := 1) (n := 4) rfl (by kernel_rfl) (OpensC.leaf (opens_int Tryz.underlying2)) (opensF_cons (o := 3) (m := 1) (n := 3) rfl (by kernel_rfl) (OpensC.leaf (opens_int Tryz.underlying2)) (opensF_cons (o := 4) (m := 1) (n := 2) rfl (by kernel_rfl) (OpensC.leaf (opens_int Tryz.underlying2)) (opensF_cons (o := 5) (m := 1) (n := 1) rfl (by kernel_rfl) (OpensC.leaf (opens_int Tryz.underlying2)) (opensF_cons (o := 6) (m := 1) (n := 0) rfl (by kernel_rfl) (OpensC.leaf (opens_list Tryz.underlying38 (by kernel_rfl) (by decide) (opens_int Tryz.underlying2))) opensF_nil)))))))
theorem opensC100 (r : T) : OpensC Tryz.prog 100 (.pair (.int .i64) (.pair (.int .i64) (.pair (.int .i64) (.pair (.int .i64) r)))) r := opensC_struct Tryz.underlying100 (by kernel_rfl) (opensF_cons (o := 0) (m := 1) (n := 3) rfl (by kernel_rfl) (OpensC.leaf (opens_int Tryz.underlying2)) (opensF_cons (o := 1) (m := 1) (n := 2) rfl (by kernel_rfl) (OpensC.leaf (opens_int Tryz.underlying2)) (opensF_cons (o := 2) (m := 1) (n := 1) rfl (by kernel_rfl) (OpensC.leaf (opens_int Tryz.underlying2)) (opensF_cons (o := 3) (m := 1) (n := 0) rfl (by kernel_rfl) (OpensC.leaf (opens_int Tryz.underlying2)) opensF_nil))))
theorem opensC102 (r : T) : OpensC Tryz.prog 102 (.pair (.list tPhi) (.pair (.list tInst) (.pair (.int .i64) (.pair (.int .i64) (.pair (.int .i64) (.pair (.int .i64) r)))))) r := opensC_struct Tryz.underlying102 (by kernel_rfl) (opensF_cons (o := 0) (m := 1) (n := 5) rfl (by kernel_rfl) (OpensC.leaf (opens_list Tryz.underlying98 (by kernel_rfl) (by decide) (OpensC.whole (opensC131 _)))) (opensF_cons (o := 1) (m := 1) (n := 4) rfl (by kernel_rfl) (OpensC.leaf (opens_list Tryz.underlying99 (by kernel_rfl) (by decide) (OpensC.whole (opensC133 _)))) (opensF_cons (o := 2) (m := 4) (n := 0) rfl (by kernel_rfl) (opensC100 _) opensF_nil)))
theorem opensC41 (r : T) : OpensC Tryz.prog 41 (.pair (.list (.int .i64)) (.pair (.int .i64) (.pair (.list tBlock) r))) r := opensC_struct Tryz.underlying41 (by kernel_rfl) (opensF_cons (o := 0) (m := 1) (n := 2) rfl (by kernel_rfl) (OpensC.leaf (opens_list Tryz.underlying38 (by kernel_rfl) (by decide) (opens_int Tryz.underlying2))) (opensF_cons (o := 1) (m := 1) (n := 1) rfl (by kernel_rfl) (OpensC.leaf (opens_int Tryz.underlying2)) (opensF_cons (o := 2) (m := 1) (n := 0) rfl (by kernel_rfl) (OpensC.leaf (opens_list Tryz.underlying39 (by kernel_rfl) (by decide) (OpensC.whole (opensC102 _)))) opensF_nil)))
theorem opensC24 (r : T) : OpensC Tryz.prog 24 (.pair (.list tFunc) r) r := opensC_struct Tryz.underlying24 (by kernel_rfl) (opensF_cons (o := 0) (m := 1) (n := 0) rfl (by kernel_rfl) (OpensC.leaf (opens_list Tryz.underlying22 (by kernel_rfl) (by decide) (OpensC.whole (opensC41 _)))) opensF_nil)
def Ev {R : Type} (g : Nat → Option R) (r : R) : Prop := ∃ n, ∀ k, n ≤ k → g k = some r
abbrev one {α : Type} (x : α) : ((α × Unit) × Unit) × Unit := (((x, ()), ()), ())
abbrev rowR {α : Type} (xs : α) : ((Unit × Unit) × Unit) × (α × Unit) := ((((), ()), ()), (xs, ()))
section
variable {R S : Type}
theorem Ev.cst {o : Option R} {r : R} (h : o = some r) : Ev (fun _ => o) r := ⟨0, fun _ _ => h⟩
theorem Ev.all {g : Nat → Option R} {r : R} (h : ∀ k, g k = some r) : Ev g r := ⟨0, fun k _ => h k⟩
theorem Ev.congr {g g' : Nat → Option R} {r : R} (h : Ev g' r) (e : ∀ k, g k = g' k) : Ev g r := by
 obtain ⟨n, h⟩ := h
 exact ⟨n, fun k hk => by rw [e, h k hk]⟩
theorem Ev.step {g g' : Nat → Option R} {r : R} (h : Ev g' r) (e : ∀ k, g (k + 1) = g' k) : Ev g r := by
 obtain ⟨n, h⟩ := h
 refine ⟨n + 1, fun k hk => ?_⟩
 obtain ⟨k, rfl⟩ : ∃ j, k = j + 1 := ⟨k - 1, by omega⟩
 rw [e, h k (by omega)]
theorem Ev.bind {g : Nat → Option S} {f : Nat → S → Option R} {a : S} {r : R} (h : Ev g a) (k : Ev (fun n => f n a) r) : Ev (fun n => Option.bind (g n) (f n)) r := by
 obtain ⟨n, h⟩ := h
 obtain ⟨m, k⟩ := k
 exact ⟨max n m, fun j hj => by show Option.bind (g j) (f j) = some r; rw [h j (by omega), Option.bind_some]; exact k j (by omega)⟩
theorem Ev.rw {g : Nat → Option R} {r s : R} (h : Ev g r) (e : r = s) : Ev g s := e ▸ h
theorem Ev.pos {c : Bool} {f g : Nat → Option R} {r : R} (hc : c = true) (h : Ev f r) : Ev (fun k => bif c then f k else g k) r := h.congr fun k => by rw [hc]; rfl
theorem Ev.neg {c : Bool} {f g : Nat → Option R} {r : R} (hc : c = false) (h : Ev g r) : Ev (fun k => bif c then f k else g k) r := h.congr fun k => by rw [hc]; rfl
theorem Ev.ex {g : Nat → Option R} {r : R} (h : Ev g r) : ∃ k, g k = some r := by
 obtain ⟨n, h⟩ := h
 exact ⟨n, h n (Nat.le_refl _)⟩
end
def W (x : Int) : Int := IntKind.wrap .i64 x
theorem wrap_id {x : Int} (h0 : -9223372036854775808 ≤ x) (h1 : x ≤ 9223372036854775807) : IntKind.wrap .i64 x = x := by
 have e : IntKind.wrap .i64 x = if (true && decide (x % 18446744073709551616 ≥ 9223372036854775808)) = true then x % 18446744073709551616 - 18446744073709551616 else x % 18446744073709551616 := rfl
 rw [e]
 simp only [Bool.true_and, decide_eq_true_eq]
 split <;> omega
theorem wrap_nat {i : Nat} (h : i < 9223372036854775807) : IntKind.wrap .i64 ((i : Int) + 1) = ((i + 1 : Nat) : Int) := by
 rw [wrap_id (by omega) (by omega)]; omega
theorem getD_at {α : Type} (l : List α) (z : α) (j : Nat) (h : j < l.length) : l.getD j z = l[j] := by simp [List.getD, List.getElem?_eq_getElem h]
theorem dpos {c : Prop} [Decidable c] (h : c) : decide c = true := by simp [h]
theorem dneg {c : Prop} [Decidable c] (h : ¬ c) : decide c = false := by simp [h]
theorem Ev.dp {R : Type} {p : Prop} [Decidable p] {f g : Nat → Option R} {r : R} (h : p) (e : Ev f r) : Ev (fun k => bif decide p then f k else g k) r := Ev.pos (dpos h) e
theorem Ev.dn {R : Type} {p : Prop} [Decidable p] {f g : Nat → Option R} {r : R} (h : ¬ p) (e : Ev g r) : Ev (fun k => bif decide p then f k else g k) r := Ev.neg (dneg h) e
theorem Ev.dd {R : Type} {p q : Prop} [Decidable p] [Decidable q] {f g : Nat → Option R} {r : R} (h : p) (h' : q) (e : Ev f r) : Ev (fun k => bif decide p && decide q then f k else g k) r := Ev.pos (by rw [dpos h, dpos h']; rfl) e
theorem Ev.succ {R : Type} {g : Nat → Option R} {r : R} (h : Ev (fun k => g (k + 1)) r) : Ev g r := Ev.step h fun _ => rfl
/-- A loop over places 0 .. n, backwards. -/
theorem Ev.down {R : Type} {G : Nat → Nat → Option R} {V : Nat → R} (n : Nat) (hend : Ev (G n) (V n)) (hstep : ∀ i, i < n → Ev (G (i + 1)) (V (i + 1)) → Ev (G i) (V i)) : ∀ i, i ≤ n → Ev (G i) (V i) := by
 intro i hi
 obtain ⟨d, rfl⟩ : ∃ d, i = n - d := ⟨n - i, by omega⟩
 clear hi
 induction d with
 | zero => exact hend
 | succ d ih =>
  by_cases h : d < n
  ·have e : n - (d + 1) + 1 = n - d := by omega
   exact hstep (n - (d + 1)) (by omega) (by rw [e]; exact ih)
  ·have e : n - (d + 1) = n - d := by omega
   rw [e]; exact ih
section
variable {α R : Type} {z : α} {l : List α}
/-- What a loop's head asks: is the place one of the list? -/
theorem head_in {i : Nat} (h : i < l.length) : (decide ((i : Int) < (l.length : Int))) = true := dpos (by omega)
theorem head_0 {i : Nat} : (decide (0 ≤ (i : Int))) = true := dpos (by omega)
theorem head_end : (decide ((l.length : Int) < (l.length : Int))) = false := dneg (by omega)
theorem get_in {i : Nat} (h : i < l.length) : l.getD (Int.toNat (i : Int)) z = l[i] := by rw [Int.toNat_natCast]; exact getD_at l z i h
/-- The loops that ask something of each element. -/
theorem each_ev {L : Nat → Int → Option R} {q : Nat → α → (Nat → Option R) → Option R} {tail : Nat → Option R} {V : List α → R} (hlen : l.length ≤ 9223372036854775807)
  (hL : ∀ k a, L (k + 1) a = bif decide (a < (l.length : Int)) then (bif decide (0 ≤ a) && decide (a < (l.length : Int)) then q k (l.getD a.toNat z) (fun j => L j (IntKind.wrap .i64 (a + 1))) else none) else tail k)
  (hend : Ev tail (V [])) (hstep : ∀ x m (g : Nat → Option R), x ∈ l → Ev g (V m) → Ev (fun k => q k x g) (V (x :: m))) : Ev (fun k => L k 0) (V l) := by
 have := Ev.down (G := fun i k => L k (i : Int)) (V := fun i => V (l.drop i)) l.length ?_ ?_ 0 (Nat.zero_le _)
 ·exact this
 ·rw [List.drop_length]
  refine hend.step fun k => ?_
  rw [hL, head_end]; rfl
 ·intro i hi ih
  rw [List.drop_eq_getElem_cons hi]
  refine (hstep l[i] (l.drop (i + 1)) (fun j => L j (((i + 1 : Nat)) : Int)) (List.getElem_mem hi) ih).step fun k => ?_
  show L (k + 1) (i : Int) = _
  rw [hL]
  simp only [head_in hi, head_0, Bool.and_self, cond_true, get_in hi, wrap_nat (show i < 9223372036854775807 by omega)]
/-- slices.IndexFunc. -/
def ixF (p : α → Bool) : List α → Nat → Int
 | [], _ => -1
 | x :: l, i => bif p x then (i : Int) else ixF p l (i + 1)
theorem ixF_any (p : α → Bool) : ∀ (l : List α) (i : Nat), decide (0 ≤ ixF p l i) = l.any p
 | [], i => by simp [ixF]
 | x :: l, i => by
  have ih := ixF_any p l (i + 1)
  rw [List.any_cons]
  unfold ixF
  rcases Bool.eq_false_or_eq_true (p x) with h | h
  ·simp only [h, cond_true, Bool.true_or]; exact dpos (by omega)
  ·simp only [h, cond_false, Bool.false_or]; exact ih
theorem index_ev {p : α → Bool} {q : Nat → α → Option (((Bool × Unit) × Unit) × Unit)} {L : Nat → Int → Int → Option (((Int × Unit) × Unit) × Unit)} (hlen : l.length ≤ 9223372036854775807)
  (hL : ∀ k b a, L (k + 1) b a = bif decide (a < b) then (bif decide (0 ≤ a) && decide (a < (l.length : Int)) then (Option.bind (q k (l.getD a.toNat z)) fun r1 => bif r1.1.1.1 then some (((a, ()), ()), ()) else L k b (IntKind.wrap .i64 (a + 1))) else none) else some (((-1, ()), ()), ()))
  (hq : ∀ x ∈ l, Ev (fun k => q k x) (one (p x))) : Ev (fun k => Option.bind (L k (l.length : Int) 0) fun r1 => some (((decide (0 ≤ r1.1.1.1), ()), ()), ())) (one (l.any p)) := by
 have := Ev.down (G := fun i k => L k (l.length : Int) (i : Int)) (V := fun i => one (ixF p (l.drop i) i)) l.length ?_ ?_ 0 (Nat.zero_le _)
 ·refine (Ev.bind (f := fun _ r1 => some (((decide (0 ≤ r1.1.1.1), ()), ()), ())) this (Ev.cst rfl)).rw ?_
  show one (decide (0 ≤ ixF p l 0)) = _
  rw [ixF_any]
 ·rw [List.drop_length]
  refine Ev.step (g' := fun _ => some (((-1, ()), ()), ())) (Ev.cst rfl) fun k => ?_
  show L (k + 1) _ _ = _
  rw [hL, head_end]; rfl
 ·intro i hi ih
  rw [List.drop_eq_getElem_cons hi]
  have h1 := hq l[i] (List.getElem_mem hi)
  refine Ev.step (g' := fun k => Option.bind (q k l[i]) fun r1 => bif r1.1.1.1 then some ((((i : Int), ()), ()), ()) else L k (l.length : Int) ((i + 1 : Nat) : Int)) ?_ fun k => ?_
  ·refine Ev.bind h1 ?_
   simp only [ixF]
   cases p l[i] with
   | true => exact Ev.cst rfl
   | false => exact ih
  ·show L (k + 1) _ _ = _
   rw [hL]
   simp only [head_in hi, head_0, Bool.and_self, cond_true, get_in hi, wrap_nat (show i < 9223372036854775807 by omega)]
end
/-- All lists are short. -/
def Small : (t : T) → t.Den → Prop
 | .list t, xs => List.length (α := t.Den) xs ≤ 1048576 ∧ ∀ x : t.Den, List.Mem (α := t.Den) x xs → Small t x
 | .pair a b, x => Small a (Prod.fst (α := a.Den) (β := b.Den) x) ∧ Small b (Prod.snd (α := a.Den) (β := b.Den) x)
 | _, _ => True
abbrev IR := (((Int × Unit) × Unit) × Unit)
abbrev BR := (((Bool × Unit) × Unit) × Unit)
def SzP {α : Type} (wf small : α → Prop) (f : Nat → α → Int → Option IR) : Prop := ∀ (x : α), wf x → ∀ n : Int, 0 ≤ n → n ≤ 1048576 → ∃ s, Ev (fun k => f k x n) (one s) ∧ -1 ≤ s ∧ s ≤ n ∧ (0 ≤ s → small x)
abbrev SzOK (t : T) (f : Nat → t.Den → Int → Option IR) : Prop := SzP (Wf t) (Small t) f
theorem sz_list {α : Type} {wf small : α → Prop} {z : α} {f : Nat → α → Int → Option IR} (hf : SzP wf small f) {L : Nat → List α → Int → Int → Option IR} {F : Nat → List α → Int → Option IR}
  (hL : ∀ k l a1 a2, L (k + 1) l a1 a2 = bif decide (a2 < (l.length : Int)) then (bif decide (0 ≤ a2) && decide (a2 < (l.length : Int)) then (Option.bind (f k (l.getD a2.toNat z) a1) fun r1 => bif decide (r1.1.1.1 < 0) then some (((-1, ()), ()), ()) else L k l r1.1.1.1 (IntKind.wrap .i64 (a2 + 1))) else none) else some (((a1, ()), ()), ()))
  (hF : ∀ k l a, F k l a = bif decide (IntKind.wrap .i64 (a - (l.length : Int)) < 0) then some (((-1, ()), ()), ()) else L k l (IntKind.wrap .i64 (a - (l.length : Int))) 0) : SzP (fun l : List α => l.length ≤ 9223372036854775807 ∧ ∀ x ∈ l, wf x) (fun l : List α => l.length ≤ 1048576 ∧ ∀ x ∈ l, small x) F := by
 intro l hw n h0 h1
 obtain ⟨hlen, hel⟩ := hw
 have key : ∀ (d i : Nat) (n : Int), i + d = l.length → 0 ≤ n → n ≤ 1048576 → ∃ s, Ev (fun k => L k l n (i : Int)) (one s) ∧ -1 ≤ s ∧ s ≤ n ∧ (0 ≤ s → ∀ x ∈ l.drop i, small x) := by
  intro d
  induction d with
  | zero =>
   intro i n hi h0 h1
   have hi' : i = l.length := by omega
   subst hi'
   refine ⟨n, Ev.step (g' := fun _ => some (one n)) (Ev.cst rfl) fun k => ?_, by omega, Int.le_refl _, fun _ x hx => by rw [List.drop_length] at hx; cases hx⟩
   rw [hL, head_end]; rfl
  | succ d ih =>
   intro i n hi h0 h1
   have hi' : i < l.length := by omega
   have hmem : l[i] ∈ l := List.getElem_mem hi'
   obtain ⟨s, e1, e2, e3, e4⟩ := hf (l[i]) (hel _ hmem) n h0 h1
   have hstep : ∀ k, L (k + 1) l n (i : Int) = Option.bind (f k (l[i]) n) fun r1 => bif decide (r1.1.1.1 < 0) then some (((-1, ()), ()), ()) else L k l r1.1.1.1 ((i + 1 : Nat) : Int) := fun k => by
    rw [hL]
    simp only [head_in hi', head_0, Bool.and_self, cond_true, get_in hi', wrap_nat (show i < 9223372036854775807 by omega)]
   rcases Int.lt_or_le s 0 with hs | hs
   ·refine ⟨-1, Ev.step (Ev.bind (f := fun k r1 => bif decide (r1.1.1.1 < 0) then some (((-1, ()), ()), ()) else L k l r1.1.1.1 ((i + 1 : Nat) : Int)) e1 ?_) hstep, by omega, by omega, fun h => by omega⟩
    exact Ev.pos (dpos hs) (Ev.cst rfl)
   ·obtain ⟨s', q1, q2, q3, q4⟩ := ih (i + 1) s (by omega) hs (by omega)
    refine ⟨s', Ev.step (Ev.bind (f := fun k r1 => bif decide (r1.1.1.1 < 0) then some (((-1, ()), ()), ()) else L k l r1.1.1.1 ((i + 1 : Nat) : Int)) e1 (Ev.neg (dneg (show ¬ s < 0 by omega)) q1)) hstep, q2, by omega, fun h x hx => ?_⟩
    rw [List.drop_eq_getElem_cons hi'] at hx
    rcases List.mem_cons.1 hx with rfl | hx
    ·exact e4 hs
    ·exact q4 h x hx
 have hw : IntKind.wrap .i64 (n - (l.length : Int)) = n - (l.length : Int) := wrap_id (by omega) (by omega)
 rcases Int.lt_or_le (n - (l.length : Int)) 0 with hs | hs
 ·refine ⟨-1, (Ev.cst rfl : Ev (fun _ => some (one (-1 : Int))) _).congr fun k => ?_, by omega, by omega, fun h => by omega⟩
  rw [hF, hw, dpos hs]; rfl
 ·obtain ⟨s, q1, q2, q3, q4⟩ := key (l.length) 0 _ (by omega) hs (by omega)
  refine ⟨s, q1.congr fun k => ?_, q2, by omega, fun h => ⟨by omega, fun x hx => q4 h x (by simpa using hx)⟩⟩
  rw [hF, hw, dneg (by omega)]; rfl
/-- A copy, element by element. -/
theorem to_list {α R : Type} {z : α} {L : Nat → List α → Int → List α → Option (((Unit × Unit) × Unit) × (List α × Unit))} {q : Nat → α → (α → Option (((Unit × Unit) × Unit) × (List α × Unit))) → Option (((Unit × Unit) × Unit) × (List α × Unit))} {F : Nat → List α → Option (((Unit × Unit) × Unit) × (List α × Unit))} {b : Int}
  (hL : ∀ k l a1 a2, L (k + 1) l a1 a2 = bif decide (a1 < (l.length : Int)) then (bif decide (0 ≤ a1) && decide (a1 < (l.length : Int)) then q k (l.getD a1.toNat z) (fun y => bif decide (0 ≤ a1) && decide (a1 < (a2.length : Int)) then L k l (IntKind.wrap .i64 (a1 + 1)) (a2.set a1.toNat y) else none) else none) else some ((((), ()), ()), (a2, ())))
  (hF : ∀ k l, F k l = bif decide ((l.length : Int) = (l.length : Int)) && decide (0 ≤ (l.length : Int)) && decide ((l.length : Int) * b ≤ 281474976710656) then L k l 0 (List.replicate (Int.toNat (l.length : Int)) z) else none)
  {l : List α} (hlen : l.length ≤ 1048576) (hb0 : 0 ≤ b) (hb : b ≤ 1000) (hq : ∀ x ∈ l, ∀ (h : Nat → α → Option (((Unit × Unit) × Unit) × (List α × Unit))) r, Ev (fun k => h k x) r → Ev (fun k => q k x (h k)) r) : Ev (fun k => F k l) (rowR l) := by
 have h1 := Ev.down (G := fun i k => L k l (i : Int) (l.take i ++ List.replicate (l.length - i) z)) (V := fun _ => rowR l) l.length ?_ ?_ 0 (Nat.zero_le _)
 ·refine h1.congr fun k => ?_
  have hsz : (l.length : Int) * b ≤ 281474976710656 := by
   have : (l.length : Int) * b ≤ 1048576 * 1000 := Int.mul_le_mul (by omega) hb hb0 (by omega)
   omega
  rw [hF, dpos rfl, dpos (show 0 ≤ (l.length : Int) by omega), dpos hsz]
  simp
 ·refine Ev.step (g' := fun _ => some (rowR l)) (Ev.cst rfl) fun k => ?_
  show L (k + 1) l _ _ = _
  rw [hL, head_end]
  simp
 ·intro i hi ih
  refine Ev.step (g' := fun k => q k l[i] (fun y => bif decide (0 ≤ (i : Int)) && decide ((i : Int) < (((l.take i ++ List.replicate (l.length - i) z).length : Nat) : Int)) then L k l ((i + 1 : Nat) : Int) ((l.take i ++ List.replicate (l.length - i) z).set i y) else none)) (hq _ (List.getElem_mem hi) (fun k y => bif decide (0 ≤ (i : Int)) && decide ((i : Int) < (((l.take i ++ List.replicate (l.length - i) z).length : Nat) : Int)) then L k l ((i + 1 : Nat) : Int) ((l.take i ++ List.replicate (l.length - i) z).set i y) else none) _ ?_) fun k => ?_
  ·refine Ev.pos ?_ (ih.congr fun k => ?_)
   ·rw [dpos (by omega), dpos (by simp; omega)]; rfl
   ·congr 1
    rw [List.set_append_right _ _ (by simp; omega)]
    have e1 : i - (l.take i).length = 0 := by simp; omega
    have e2 : l.length - i = (l.length - (i + 1)) + 1 := by omega
    rw [e1, e2, List.replicate_succ, List.set_cons_zero, List.take_succ_eq_append_getElem hi, List.append_assoc]
    rfl
  ·show L (k + 1) l _ _ = _
   rw [hL]
   simp only [head_in hi, head_0, Bool.and_self, cond_true, get_in hi, wrap_nat (show i < 9223372036854775807 by omega), Int.toNat_natCast]
   rw [getD_at l z i hi]
/-- A list compared with itself. -/
theorem eq_list {α : Type} {z : α} {L : Nat → List α → List α → Int → Option BR} {q : Nat → α → α → Option BR → Option BR} {F : Nat → List α → List α → Option BR}
  (hL : ∀ k l m a, L (k + 1) l m a = bif decide (a < (l.length : Int)) then (bif decide (0 ≤ a) && decide (a < (l.length : Int)) then (bif decide (0 ≤ a) && decide (a < (m.length : Int)) then q k (l.getD a.toNat z) (m.getD a.toNat z) (L k l m (IntKind.wrap .i64 (a + 1))) else none) else none) else some (((true, ()), ()), ()))
  (hF : ∀ k l m, F k l m = bif !decide ((l.length : Int) = (m.length : Int)) then some (((false, ()), ()), ()) else L k l m 0)
  {l : List α} (hlen : l.length ≤ 1048576) (hq : ∀ x ∈ l, ∀ (g : Nat → Option BR) r, Ev g r → Ev (fun k => q k x x (g k)) r) : Ev (fun k => F k l l) (one true) := by
 have h1 := Ev.down (G := fun i k => L k l l (i : Int)) (V := fun _ => one true) l.length ?_ ?_ 0 (Nat.zero_le _)
 ·refine h1.congr fun k => ?_
  rw [hF, dpos rfl]; rfl
 ·refine Ev.step (g' := fun _ => some (one true)) (Ev.cst rfl) fun k => ?_
  show L (k + 1) l l _ = _
  rw [hL, head_end]; rfl
 ·intro i hi ih
  refine Ev.step (hq _ (List.getElem_mem hi) (fun k => L k l l ((i + 1 : Nat) : Int)) _ ih) fun k => ?_
  show L (k + 1) l l _ = _
  rw [hL]
  simp only [head_in hi, head_0, Bool.and_self, cond_true, get_in hi, wrap_nat (show i < 9223372036854775807 by omega)]
theorem sz_then {n s : Int} {g : Nat → Option IR} (h : Ev g (one s)) : Ev (fun k => Option.bind (g k) fun r1 => bif decide (r1.1.1.1 < 0) then some (((-1, ()), ()), ()) else some (((r1.1.1.1, ()), ()), ())) (one (if s < 0 then -1 else s)) := by
 refine Ev.bind h ?_
 by_cases hs : s < 0
 ·rw [if_pos hs]; exact Ev.pos (dpos hs) (Ev.cst rfl)
 ·rw [if_neg hs]; exact Ev.neg (dneg hs) (Ev.cst rfl)
theorem szInts : SzOK (.list (.int .i64)) U0.f := by
 intro l hw n h0 h1
 have hlen : List.length (α := Int) l ≤ 9223372036854775807 := hw.1
 have hwr : IntKind.wrap .i64 (n - (List.length (α := Int) l : Int)) = n - (List.length (α := Int) l : Int) := wrap_id (by omega) (by omega)
 have he : ∀ k, U0.f k l n = bif decide (n - (List.length (α := Int) l : Int) < 0) then some (one (-1)) else some (one (n - (List.length (α := Int) l : Int))) := fun k => by
  show (bif decide (IntKind.wrap .i64 (n - (List.length (α := Int) l : Int)) < 0) then _ else _) = _
  rw [hwr]
 by_cases hs : n - (List.length (α := Int) l : Int) < 0
 ·exact ⟨-1, Ev.all fun k => by rw [he, dpos hs]; rfl, by omega, by omega, fun h => by omega⟩
 ·exact ⟨_, Ev.all fun k => by rw [he, dneg hs]; rfl, by omega, by omega, fun h => ⟨by show List.length (α := Int) l ≤ _; omega, fun _ _ => trivial⟩⟩
theorem szPhi : SzOK tPhi U1.f := by
 intro x hw n h0 h1
 obtain ⟨s, e, a, b, c⟩ := szInts _ hw.2.1 n h0 h1
 exact ⟨_, sz_then (n := n) e, by split <;> omega, by split <;> omega, fun h => ⟨trivial, c (by split at h <;> omega), trivial⟩⟩
theorem szPhiS : SzOK (.list tPhi) U2.f := sz_list (z := tPhiZ) szPhi (L := U2.l0) (fun k l a b => rfl) fun k l a => rfl
theorem szInst : SzOK tInst U3.f := by
 intro x hw n h0 h1
 obtain ⟨s, e, a, b, c⟩ := szInts _ hw.2.2.2.2.2.2.1 n h0 h1
 exact ⟨_, sz_then (n := n) e, by split <;> omega, by split <;> omega, fun h => ⟨trivial, trivial, trivial, trivial, trivial, trivial, c (by split at h <;> omega), trivial⟩⟩
theorem szInstS : SzOK (.list tInst) U4.f := sz_list (z := tInstZ) szInst (L := U4.l0) (fun k l a b => rfl) fun k l a => rfl
theorem sz_two {n s : Int} {g : Nat → Option IR} {f : Nat → Int → Option IR} {r : Int} (h : Ev g (one s)) (h' : 0 ≤ s → Ev (fun k => f k s) (one r)) (hr : s < 0 → r = -1) : Ev (fun k => Option.bind (g k) fun r1 => bif decide (r1.1.1.1 < 0) then some (((-1, ()), ()), ()) else f k r1.1.1.1) (one r) := by
 refine Ev.bind h ?_
 by_cases hs : s < 0
 ·rw [hr hs]; exact Ev.pos (dpos hs) (Ev.cst rfl)
 ·exact Ev.neg (dneg hs) (h' (by omega))
theorem szBlock : SzOK tBlock U5.f := by
 intro x hw n h0 h1
 obtain ⟨s, e, a, b, c⟩ := szPhiS _ hw.1 n h0 h1
 by_cases hs : s < 0
 ·exact ⟨-1, sz_two (n := n) (f := fun k s => Option.bind (U4.f k x.2.1 s) fun r1 => bif decide (r1.1.1.1 < 0) then some (((-1, ()), ()), ()) else some (((r1.1.1.1, ()), ()), ())) e (fun h => by omega) (fun _ => rfl), by omega, by omega, fun h => by omega⟩
 ·obtain ⟨s', e', a', b', c'⟩ := szInstS _ hw.2.1 s (by omega) (by omega)
  exact ⟨_, sz_two (n := n) (f := fun k s => Option.bind (U4.f k x.2.1 s) fun r1 => bif decide (r1.1.1.1 < 0) then some (((-1, ()), ()), ()) else some (((r1.1.1.1, ()), ()), ())) e (fun _ => sz_then (n := n) e') (fun h => by omega), by split <;> omega, by split <;> omega, fun h => ⟨c (by omega), c' (by split at h <;> omega), trivial, trivial, trivial, trivial, trivial⟩⟩
theorem szBlockS : SzOK (.list tBlock) U6.f := sz_list (z := tBlockZ) szBlock (L := U6.l0) (fun k l a b => rfl) fun k l a => rfl
theorem szFunc : SzOK tFunc U7.f := by
 intro x hw n h0 h1
 obtain ⟨s, e, a, b, c⟩ := szInts _ hw.1 n h0 h1
 by_cases hs : s < 0
 ·exact ⟨-1, sz_two (n := n) (f := fun k s => Option.bind (U6.f k x.2.2.1 s) fun r1 => bif decide (r1.1.1.1 < 0) then some (((-1, ()), ()), ()) else some (((r1.1.1.1, ()), ()), ())) e (fun h => by omega) (fun _ => rfl), by omega, by omega, fun h => by omega⟩
 ·obtain ⟨s', e', a', b', c'⟩ := szBlockS _ hw.2.2.1 s (by omega) (by omega)
  exact ⟨_, sz_two (n := n) (f := fun k s => Option.bind (U6.f k x.2.2.1 s) fun r1 => bif decide (r1.1.1.1 < 0) then some (((-1, ()), ()), ()) else some (((r1.1.1.1, ()), ()), ())) e (fun _ => sz_then (n := n) e') (fun h => by omega), by split <;> omega, by split <;> omega, fun h => ⟨c (by omega), trivial, c' (by split at h <;> omega), trivial⟩⟩
theorem toInts {l : List Int} (h : Small (.list (.int .i64)) l) : Ev (fun k => U10.f k l) (rowR l) :=
 to_list (z := 0) (L := U10.l0) (q := fun k x h => h x) (b := 8) (R := Unit) (fun k l a b => rfl) (fun k l => rfl) h.1 (by omega) (by omega) fun x _ h r hh => hh
theorem toPhi {x : tPhiD} (h : Small tPhi x) : Ev (fun k => U11.f k x) (((x.1, (), ()), ()), (x.2.1, ())) := Ev.bind (toInts h.2.1) (Ev.cst rfl)
theorem toPhiS {l : List tPhiD} (h : Small (.list tPhi) l) : Ev (fun k => U12.f k l) (rowR l) :=
 to_list (z := tPhiZ) (L := U12.l0) (q := fun k x h => Option.bind (U11.f k x) fun r1 => h (r1.1.1.1, r1.2.1, ())) (b := 32) (R := Unit) (fun k l a b => rfl) (fun k l => rfl) h.1 (by omega) (by omega) fun x hx g r hh => Ev.bind (toPhi (h.2 x hx)) hh
theorem toInst {x : tInstD} (h : Small tInst x) : Ev (fun k => U13.f k x) (((x.1, x.2.1, x.2.2.1, x.2.2.2.1, x.2.2.2.2.1, x.2.2.2.2.2.1, (), ()), ()), (x.2.2.2.2.2.2.1, ())) := Ev.bind (toInts h.2.2.2.2.2.2.1) (Ev.cst rfl)
theorem toInstS {l : List tInstD} (h : Small (.list tInst) l) : Ev (fun k => U14.f k l) (rowR l) :=
 to_list (z := tInstZ) (L := U14.l0) (q := fun k x h => Option.bind (U13.f k x) fun r1 => h (r1.1.1.1, r1.1.1.2.1, r1.1.1.2.2.1, r1.1.1.2.2.2.1, r1.1.1.2.2.2.2.1, r1.1.1.2.2.2.2.2.1, r1.2.1, ())) (b := 72) (R := Unit) (fun k l a b => rfl) (fun k l => rfl) h.1 (by omega) (by omega) fun x hx g r hh => Ev.bind (toInst (h.2 x hx)) hh
theorem toBlock {x : tBlockD} (h : Small tBlock x) : Ev (fun k => U16.f k x) ((((), (), x.2.2.1, x.2.2.2.1, x.2.2.2.2.1, x.2.2.2.2.2.1, ()), ()), (x.1, x.2.1, ())) := Ev.bind (toPhiS h.1) (Ev.bind (toInstS h.2.1) (Ev.cst rfl))
theorem toBlockS {l : List tBlockD} (h : Small (.list tBlock) l) : Ev (fun k => U17.f k l) (rowR l) :=
 to_list (z := tBlockZ) (L := U17.l0) (q := fun k x h => Option.bind (U16.f k x) fun r1 => h (r1.2.1, r1.2.2.1, r1.1.1.2.2.1, r1.1.1.2.2.2.1, r1.1.1.2.2.2.2.1, r1.1.1.2.2.2.2.2.1, ())) (b := 80) (R := Unit) (fun k l a b => rfl) (fun k l => rfl) h.1 (by omega) (by omega) fun x hx g r hh => Ev.bind (toBlock (h.2 x hx)) hh
theorem toFunc {x : tFuncD} (h : Small tFunc x) : Ev (fun k => U18.f k x) ((((), x.2.1, (), ()), ()), (x.1, x.2.2.1, ())) := Ev.bind (toInts h.1) (Ev.bind (toBlockS h.2.2.1) (Ev.cst rfl))
theorem eqInts {l : List Int} (h : Small (.list (.int .i64)) l) : Ev (fun k => U82.f k l l) (one true) :=
 eq_list (z := 0) (L := U82.l0) (q := fun k x y g => bif !decide (x = y) then some (((false, ()), ()), ()) else g) (fun k l m a => rfl) (fun k l m => rfl) h.1 fun x _ g r hh => Ev.neg (by rw [dpos rfl]; rfl) hh
theorem Ev.skip {R : Type} {n : Int} {o : Option R} {g : Nat → Option R} {r : R} (h : Ev g r) : Ev (fun k => bif !decide (n = n) then o else g k) r := Ev.neg (by rw [dpos rfl]; rfl) h
theorem Ev.yes {g : Nat → Option BR} {f : Nat → Option BR} {o : Option BR} {r : BR} (h : Ev g (one true)) (hf : Ev f r) : Ev (fun k => Option.bind (g k) fun r1 => bif !r1.1.1.1 then o else f k) r := Ev.bind h (Ev.neg rfl hf)
theorem eqPhi {x : tPhiD} (h : Small tPhi x) : Ev (fun k => U83.f k x x) (one true) := Ev.skip (Ev.yes (eqInts h.2.1) (Ev.cst rfl))
theorem eqPhiS {l : List tPhiD} (h : Small (.list tPhi) l) : Ev (fun k => U84.f k l l) (one true) :=
 eq_list (z := tPhiZ) (L := U84.l0) (q := fun k x y g => Option.bind (U83.f k x y) fun r1 => bif !r1.1.1.1 then some (((false, ()), ()), ()) else g) (fun k l m a => rfl) (fun k l m => rfl) h.1 fun x hx g r hh => Ev.yes (eqPhi (h.2 x hx)) hh
theorem eqInst {x : tInstD} (h : Small tInst x) : Ev (fun k => U85.f k x x) (one true) := Ev.skip (Ev.skip (Ev.skip (Ev.skip (Ev.skip (Ev.skip (Ev.yes (eqInts h.2.2.2.2.2.2.1) (Ev.cst rfl)))))))
theorem eqInstS {l : List tInstD} (h : Small (.list tInst) l) : Ev (fun k => U86.f k l l) (one true) :=
 eq_list (z := tInstZ) (L := U86.l0) (q := fun k x y g => Option.bind (U85.f k x y) fun r1 => bif !r1.1.1.1 then some (((false, ()), ()), ()) else g) (fun k l m a => rfl) (fun k l m => rfl) h.1 fun x hx g r hh => Ev.yes (eqInst (h.2 x hx)) hh
theorem eqTerm {x : tTermD} : Ev (fun k => U87.f k x x) (one true) := Ev.skip (Ev.skip (Ev.skip (Ev.skip (Ev.cst rfl))))
theorem eqBlock {x : tBlockD} (h : Small tBlock x) : Ev (fun k => U88.f k x x) (one true) := Ev.yes (eqPhiS h.1) (Ev.yes (eqInstS h.2.1) (Ev.yes eqTerm (Ev.cst rfl)))
theorem eqBlockS {l : List tBlockD} (h : Small (.list tBlock) l) : Ev (fun k => U89.f k l l) (one true) :=
 eq_list (z := tBlockZ) (L := U89.l0) (q := fun k x y g => Option.bind (U88.f k x y) fun r1 => bif !r1.1.1.1 then some (((false, ()), ()), ()) else g) (fun k l m a => rfl) (fun k l m => rfl) h.1 fun x hx g r hh => Ev.yes (eqBlock (h.2 x hx)) hh
theorem eqFunc {x : tFuncD} (h : Small tFunc x) : Ev (fun k => U90.f k x x) (one true) := Ev.yes (eqInts h.1) (Ev.skip (Ev.yes (eqBlockS h.2.2.1) (Ev.cst rfl)))
theorem szFuncS : SzOK (.list tFunc) U8.f := sz_list (z := tFuncZ) szFunc (L := U8.l0) (fun k l a b => rfl) fun k l a => rfl
theorem szModule : SzOK tModule U9.f := by
 intro x hw n h0 h1
 obtain ⟨s, e, a, b, c⟩ := szFuncS _ hw.1 n h0 h1
 exact ⟨_, sz_then (n := n) e, by split <;> omega, by split <;> omega, fun h => ⟨c (by split at h <;> omega), trivial⟩⟩
theorem toFuncS {l : List tFuncD} (h : Small (.list tFunc) l) : Ev (fun k => U19.f k l) (rowR l) :=
 to_list (z := tFuncZ) (L := U19.l0) (q := fun k x h => Option.bind (U18.f k x) fun r1 => h (r1.2.1, r1.1.1.2.1, r1.2.2.1, ())) (b := 56) (R := Unit) (fun k l a b => rfl) (fun k l => rfl) h.1 (by omega) (by omega) fun x hx g r hh => Ev.bind (toFunc (h.2 x hx)) hh
theorem toModule {x : tModuleD} (h : Small tModule x) : Ev (fun k => U20.f k x) ((((), ()), ()), (x.1, ())) := Ev.bind (toFuncS h.1) (Ev.cst rfl)
theorem eqFuncS {l : List tFuncD} (h : Small (.list tFunc) l) : Ev (fun k => U91.f k l l) (one true) :=
 eq_list (z := tFuncZ) (L := U91.l0) (q := fun k x y g => Option.bind (U90.f k x y) fun r1 => bif !r1.1.1.1 then some (((false, ()), ()), ()) else g) (fun k l m a => rfl) (fun k l m => rfl) h.1 fun x hx g r hh => Ev.yes (eqFunc (h.2 x hx)) hh
theorem eqModule {x : tModuleD} (h : Small tModule x) : Ev (fun k => U92.f k x x) (one true) := Ev.yes (eqFuncS h.1) (Ev.cst rfl)
theorem law_frame {a : tModuleD} (hw : Wf tModule a) {g : Nat → Option BR} (h : Small tModule a → Ev g (one true)) : Ev (fun k => Option.bind (U9.f k (a.1, ()) 1048576) fun r1 => bif decide (r1.1.1.1 < 0) then some (((true, ()), ()), ()) else g k) (one true) := by
 obtain ⟨s, e, _, _, c⟩ := szModule a hw 1048576 (by omega) (by omega)
 refine Ev.bind (f := fun k r1 => bif decide (r1.1.1.1 < 0) then some (((true, ()), ()), ()) else g k) e ?_
 by_cases hs : s < 0
 ·exact Ev.pos (dpos hs) (Ev.cst rfl)
 ·exact Ev.neg (dneg hs) (h (c (by omega)))
/-- What comes behind the two answers: the module that went in is as it was. -/
theorem law_end {a : tModuleD} (h : Small tModule a) : Ev (fun k => Option.bind (U20.f k (a.1, ())) fun r6 => Option.bind (U92.f k (a.1, ()) (r6.2.1, ())) fun r7 => bif !r7.1.1.1 then some (((false, ()), ()), ()) else some (((true, ()), ()), ())) (one true) :=
 Ev.bind (f := fun k r6 => Option.bind (U92.f k (a.1, ()) (r6.2.1, ())) fun r7 => bif !r7.1.1.1 then some (((false, ()), ()), ()) else some (((true, ()), ()), ())) (toModule h) (Ev.yes (eqModule h) (Ev.cst rfl))
def inB (lo hi x : Int) : Bool := decide (lo ≤ x) && decide (x ≤ hi)
def wOk (w : Int) : Bool := decide (w = 1) || decide (w = 8) || decide (w = 16) || decide (w = 32)
def opsB (i : tInstD) : List Int :=
 bif inB 1 17 i.1 then [i.2.2.1, i.2.2.2.1] else bif decide (i.1 = 24) then [i.2.2.1, i.2.2.2.1] else bif inB 18 20 i.1 then [i.2.2.1] else bif decide (i.1 = 23) then [i.2.2.1] else bif decide (i.1 = 25) then [i.2.2.1] else bif decide (i.1 = 27) then [i.2.2.1] else
 bif decide (i.1 = 22) then [i.2.2.1, i.2.2.2.1, i.2.2.2.2.1] else bif decide (i.1 = 26) then i.2.2.2.2.2.2.1 else []
theorem specIn (k : Nat) (a lo hi : Int) : U21.f k a lo hi = some (one (inB lo hi a)) := by
 unfold U21.f inB
 cases decide (lo ≤ a) <;> rfl
theorem implIn (k : Nat) (a lo hi : Int) : U39.f k a lo hi = some (one (inB lo hi a)) := by
 unfold U39.f inB
 cases decide (lo ≤ a) <;> rfl
theorem specW (k : Nat) (a : Int) : U23.f k a = some (one (wOk a)) := by
 unfold U23.f wOk
 cases decide (a = 1) <;> cases decide (a = 8) <;> cases decide (a = 16) <;> rfl
theorem implW (k : Nat) (a : Int) : U40.f k a = some (one (wOk a)) := by
 unfold U40.f wOk
 cases decide (a = 1) <;> cases decide (a = 8) <;> cases decide (a = 16) <;> rfl
theorem specCopy (k : Nat) {l : List Int} (h : l.length ≤ 1048576) : U24.f k l = some (rowR l) := by
 unfold U24.f
 rw [dpos (by simp; omega)]; rfl
theorem implClone (k : Nat) {l : List Int} (h : l.length ≤ 1048576) : slices_Clone_int64_int64.f k l = some (rowR l) := by
 unfold slices_Clone_int64_int64.f cloneF
 rw [dpos (by omega)]; rfl
theorem specOps (k : Nat) {i : tInstD} (h : i.2.2.2.2.2.2.1.length ≤ 1048576) : U25.f k i = some (rowR (opsB i)) := by
 unfold U25.f opsB
 simp only [specIn, specCopy k h, Option.bind_some]
 cases inB 1 17 i.1
 ·cases decide (i.1 = 24)
  ·cases inB 18 20 i.1
   ·cases decide (i.1 = 23)
    ·cases decide (i.1 = 25)
     ·cases decide (i.1 = 27)
      ·cases decide (i.1 = 22)
       ·cases decide (i.1 = 26) <;> rfl
       ·rfl
      ·rfl
     ·rfl
    ·rfl
   ·rfl
  ·rfl
 ·rfl
theorem implBin (k : Nat) (a : Int) : U51.f k a = some (one (inB 1 17 a)) := by
 unfold U51.f
 rw [implIn]; rfl
theorem implCast (k : Nat) (a : Int) : U52.f k a = some (one (inB 18 20 a)) := by
 unfold U52.f
 rw [implIn]; rfl
theorem implOps (k : Nat) {i : tInstD} (h : i.2.2.2.2.2.2.1.length ≤ 1048576) : U53.f k i = some (rowR (opsB i)) := by
 unfold U53.f opsB
 simp only [implBin, implCast, implClone k h, Option.bind_some]
 cases inB 1 17 i.1
 ·cases decide (i.1 = 24)
  ·cases inB 18 20 i.1
   ·cases decide (i.1 = 23)
    ·cases decide (i.1 = 25)
     ·cases decide (i.1 = 27)
      ·cases decide (i.1 = 22)
       ·cases decide (i.1 = 26) <;> rfl
       ·rfl
      ·rfl
     ·rfl
    ·rfl
   ·rfl
  ·rfl
 ·rfl
def topOf (w : Int) : Int := bif decide (w = 1) then 1 else bif decide (w = 8) then 255 else bif decide (w = 16) then 65535 else 4294967295
def valB (w x : Int) : Bool := wOk w && inB 0 (topOf w) x
theorem wOk_cases {w : Int} (h : wOk w = true) : w = 1 ∨ w = 8 ∨ w = 16 ∨ w = 32 := by
 simp only [wOk, Bool.or_eq_true, decide_eq_true_eq] at h
 omega
theorem specVal (k : Nat) (w x : Int) : U27.f k w x = some (one (valB w x)) := by
 unfold U27.f valB
 simp only [specW, Option.bind_some]
 cases h : wOk w with
 | false => rfl
 | true => rcases wOk_cases h with rfl | rfl | rfl | rfl <;> (unfold U26.f; simp only [specIn]; rfl)
theorem implVal (k : Nat) (w x : Int) : U62.f k w x = some (one (valB w x)) := by
 unfold U62.f valB
 simp only [implW, Option.bind_some]
 cases h : wOk w with
 | false => rfl
 | true => rcases wOk_cases h with rfl | rfl | rfl | rfl <;> (unfold U61.f; simp only [implIn]; rfl)
def widB (i : tInstD) : Bool := bif decide (i.1 = 24) || decide (i.1 = 25) then decide (i.2.1 = 0) else bif decide (i.1 = 23) then decide (i.2.1 = 8) else wOk i.2.1
def immB (i : tInstD) (funcs : Int) : Bool := bif decide (i.1 = 21) then valB i.2.1 i.2.2.2.2.2.1 else bif decide (i.1 = 26) then inB 0 (funcs - 1) i.2.2.2.2.2.1 else decide (i.2.2.2.2.2.1 = 0)
def named (i : tInstD) : Nat := bif decide (i.1 = 26) then 0 else (opsB i).length
def zerosB (i : tInstD) : Bool := ([i.2.2.1, i.2.2.2.1, i.2.2.2.2.1].drop (named i)).all fun n => decide (n = 0)
def instB (count funcs : Int) (i : tInstD) : Bool :=
 inB 1 27 i.1 && decide (i.2.2.2.2.2.2.1.length ≤ 4) && (decide (i.2.2.2.2.2.2.1.length = 0) || decide (i.1 = 26)) && (opsB i).all (inB 0 (count - 1)) && zerosB i && widB i && immB i funcs
theorem implWid (k : Nat) (i : tInstD) : U60.f k i = some (one (widB i)) := by
 unfold U60.f widB
 simp only [implW, Option.bind_some]
 by_cases h : i.1 = 24
 ·simp [h]
 ·by_cases h2 : i.1 = 25
  ·simp [h2]
  ·simp only [dneg h, dneg h2, cond_false, Bool.or_self]
   cases decide (i.1 = 23) <;> rfl
theorem implImm (k : Nat) (i : tInstD) {funcs : Int} (h0 : 0 ≤ funcs) (h1 : funcs ≤ 9223372036854775807) : U63.f k i funcs = some (one (immB i funcs)) := by
 unfold U63.f immB
 simp only [implVal, implIn, Option.bind_some, wrap_id (show -9223372036854775808 ≤ funcs - 1 by omega) (show funcs - 1 ≤ 9223372036854775807 by omega)]
 cases decide (i.1 = 21) <;> cases decide (i.1 = 26) <;> rfl
def termB (count blocks : Int) (t : tTermD) : Bool :=
 bif decide (t.1 = 1) then inB 0 (count - 1) t.2.1 && decide (t.2.2.1 = 0) && decide (t.2.2.2.1 = 0) else
 bif decide (t.1 = 2) then decide (t.2.1 = 0) && inB 0 (blocks - 1) t.2.2.1 && decide (t.2.2.2.1 = 0) else
 bif decide (t.1 = 3) then inB 0 (count - 1) t.2.1 && inB 0 (blocks - 1) t.2.2.1 && inB 0 (blocks - 1) t.2.2.2.1 && !decide (t.2.2.1 = t.2.2.2.1) else
 decide (t.1 = 4) && decide (t.2.1 = 0) && decide (t.2.2.1 = 0) && decide (t.2.2.2.1 = 0)
theorem specTerm (k : Nat) (t : tTermD) {count blocks : Int} (h0 : 0 ≤ count) (h1 : count ≤ 9223372036854775807) (h2 : 0 ≤ blocks) (h3 : blocks ≤ 9223372036854775807) : U29.f k t count blocks = some (one (termB count blocks t)) := by
 unfold U29.f termB
 simp only [specIn, Option.bind_some, wrap_id (show -9223372036854775808 ≤ count - 1 by omega) (show count - 1 ≤ 9223372036854775807 by omega), wrap_id (show -9223372036854775808 ≤ blocks - 1 by omega) (show blocks - 1 ≤ 9223372036854775807 by omega)]
 cases decide (t.1 = 1)
 ·cases decide (t.1 = 2)
  ·cases decide (t.1 = 3)
   ·cases decide (t.1 = 4) <;> cases decide (t.2.1 = 0) <;> cases decide (t.2.2.1 = 0) <;> rfl
   ·cases inB 0 (count - 1) t.2.1 <;> cases inB 0 (blocks - 1) t.2.2.1 <;> cases inB 0 (blocks - 1) t.2.2.2.1 <;> rfl
  ·cases decide (t.2.1 = 0) <;> cases inB 0 (blocks - 1) t.2.2.1 <;> rfl
 ·cases inB 0 (count - 1) t.2.1 <;> cases decide (t.2.2.1 = 0) <;> rfl
theorem implTerm1 (k : Nat) (a : Int) {f : tFuncD} (h : f.2.2.1.length ≤ 1048576) : U68.f k a f = some (one (inB 0 ((f.2.2.1.length : Int) - 1) a)) := by
 unfold U68.f
 rw [implIn, wrap_id (by omega) (by omega)]; rfl
theorem implTerm (k : Nat) (t : tTermD) {f : tFuncD} (h : f.2.2.1.length ≤ 1048576) {count : Int} (h0 : 0 ≤ count) (h1 : count ≤ 9223372036854775807) : U69.f k f t count = some (one (termB count (f.2.2.1.length : Int) t)) := by
 unfold U69.f termB
 simp only [implIn, implTerm1 k _ h, Option.bind_some, wrap_id (show -9223372036854775808 ≤ count - 1 by omega) (show count - 1 ≤ 9223372036854775807 by omega)]
 generalize (f.2.2.1.length : Int) = blocks
 cases decide (t.1 = 1)
 ·cases decide (t.1 = 2)
  ·cases decide (t.1 = 3)
   ·cases decide (t.1 = 4) <;> cases decide (t.2.1 = 0) <;> cases decide (t.2.2.1 = 0) <;> rfl
   ·cases inB 0 (count - 1) t.2.1 <;> cases inB 0 (blocks - 1) t.2.2.1 <;> cases inB 0 (blocks - 1) t.2.2.2.1 <;> rfl
  ·cases decide (t.2.1 = 0) <;> cases inB 0 (blocks - 1) t.2.2.1 <;> rfl
 ·cases inB 0 (count - 1) t.2.1 <;> cases decide (t.2.2.1 = 0) <;> rfl
theorem any_not {α : Type} {p : α → Bool} : ∀ {l : List α}, (l.any fun x => !p x) = !l.all p
 | [] => rfl
 | x :: l => by simp only [List.any_cons, List.all_cons, any_not (l := l), Bool.not_and]
theorem implIn1 {l : List Int} (h : l.length ≤ 1048576) {count : Int} (h0 : 0 ≤ count) (h1 : count ≤ 9223372036854775807) : Ev (fun k => U56.f k l count) (one (!l.all (inB 0 (count - 1)))) := by
 rw [← any_not]
 exact index_ev (z := 0) (L := fun k b a => U55.l0 k l b a count) (q := fun k x => U54.f k x count) (by omega) (fun k b a => rfl) fun x _ => Ev.all fun k => by
  unfold U54.f
  rw [implIn, wrap_id (by omega) (by omega)]; rfl
theorem implZero {l : List Int} (h : l.length ≤ 1048576) : Ev (fun k => U59.f k l) (one (!l.all fun n => decide (n = 0))) := by
 rw [← any_not]
 exact index_ev (z := 0) (L := fun k b a => U58.l0 k l b a) (q := fun k x => U57.f k x) (by omega) (fun k b a => rfl) fun x _ => Ev.all fun k => rfl
theorem opsB_len {i : tInstD} (h : i.2.2.2.2.2.2.1.length ≤ 1048576) : (opsB i).length ≤ 1048576 := by
 unfold opsB
 cases inB 1 17 i.1 <;> cases decide (i.1 = 24) <;> cases inB 18 20 i.1 <;> cases decide (i.1 = 23) <;> cases decide (i.1 = 25) <;> cases decide (i.1 = 27) <;> cases decide (i.1 = 22) <;> cases decide (i.1 = 26) <;> simp only [cond_true, cond_false, List.length_cons, List.length_nil] <;> omega
theorem opsB_few {i : tInstD} (h : i.1 ≠ 26) : (opsB i).length ≤ 3 := by
 unfold opsB
 rw [dneg h]
 cases inB 1 17 i.1 <;> cases decide (i.1 = 24) <;> cases inB 18 20 i.1 <;> cases decide (i.1 = 23) <;> cases decide (i.1 = 25) <;> cases decide (i.1 = 27) <;> cases decide (i.1 = 22) <;> simp
theorem ev_and {g : Nat → Option BR} {b c : Bool} (h : Ev g (one c)) : Ev (fun k => bif !b then some (one false) else g k) (one (b && c)) := by
 cases b with
 | true => exact Ev.neg rfl h
 | false => exact Ev.pos rfl (Ev.cst rfl)
theorem ev_and' {g : Nat → Option BR} {b c : Bool} (h : Ev g (one c)) : Ev (fun k => bif b then some (one false) else g k) (one (!b && c)) := by
 cases b with
 | true => exact Ev.pos rfl (Ev.cst rfl)
 | false => exact Ev.neg rfl h
/-- What comes behind the operands, in the program. -/
theorem implTail {i : tInstD} {l : List Int} (hl : l.length ≤ 1048576) {funcs : Int} (h0 : 0 ≤ funcs) (h1 : funcs ≤ 9223372036854775807) : Ev (fun k => Option.bind (U59.f k l) fun r4 => bif r4.1.1.1 then some (((false, ()), ()), ()) else Option.bind (U60.f k i) fun r5 => bif r5.1.1.1 then Option.bind (U63.f k i funcs) fun r6 => some (((r6.1.1.1, ()), ()), ()) else some (((false, ()), ()), ())) (one ((l.all fun n => decide (n = 0)) && widB i && immB i funcs)) := by
 refine Ev.bind (implZero hl) ?_
 cases l.all fun n => decide (n = 0) with
 | false => exact Ev.cst rfl
 | true =>
  refine Ev.all fun k => ?_
  simp only [implWid, implImm k i h0 h1, Option.bind_some]
  cases widB i <;> cases immB i funcs <;> rfl
theorem implInst {i : tInstD} (hs : i.2.2.2.2.2.2.1.length ≤ 1048576) {count funcs : Int} (h0 : 0 ≤ count) (h1 : count ≤ 9223372036854775807) (h2 : 0 ≤ funcs) (h3 : funcs ≤ 9223372036854775807) : Ev (fun k => U64.f k i count funcs) (one (instB count funcs i)) := by
 have rest : i.1 = 26 ∨ i.1 ≠ 26 → Ev (fun k => Option.bind (U53.f k i) fun r2 => Option.bind (U56.f k r2.2.1 count) fun r3 => bif r3.1.1.1 then some (((false, ()), ()), ()) else
   bif decide (i.1 = 26) then (bif (decide ((0 : Int) ≤ 0)) && (decide ((0 : Int) ≤ ((List.length [i.2.2.1, i.2.2.2.1, i.2.2.2.2.1] : Nat) : Int))) then (Option.bind (U59.f k [i.2.2.1, i.2.2.2.1, i.2.2.2.2.1]) fun r4 => bif r4.1.1.1 then some (((false, ()), ()), ()) else Option.bind (U60.f k i) fun r5 => bif r5.1.1.1 then Option.bind (U63.f k i funcs) fun r6 => some (((r6.1.1.1, ()), ()), ()) else some (((false, ()), ()), ())) else none)
   else (bif (decide (0 ≤ ((List.length r2.2.1 : Nat) : Int))) && (decide (((List.length r2.2.1 : Nat) : Int) ≤ ((List.length [i.2.2.1, i.2.2.2.1, i.2.2.2.2.1] : Nat) : Int))) then (Option.bind (U59.f k (List.drop (Int.toNat ((List.length r2.2.1 : Nat) : Int)) [i.2.2.1, i.2.2.2.1, i.2.2.2.2.1])) fun r4 => bif r4.1.1.1 then some (((false, ()), ()), ()) else Option.bind (U60.f k i) fun r5 => bif r5.1.1.1 then Option.bind (U63.f k i funcs) fun r6 => some (((r6.1.1.1, ()), ()), ()) else some (((false, ()), ()), ())) else none))
   (one ((opsB i).all (inB 0 (count - 1)) && (zerosB i && widB i && immB i funcs))) := by
  intro hd
  refine Ev.bind (Ev.all fun k => implOps k hs) (Ev.bind (implIn1 (opsB_len hs) h0 h1) ?_)
  cases (opsB i).all (inB 0 (count - 1)) with
  | false => exact Ev.cst rfl
  | true =>
   rcases hd with hd | hd
   ·refine Ev.neg rfl (Ev.pos (dpos hd) (Ev.pos rfl ?_))
    have := implTail (i := i) (l := [i.2.2.1, i.2.2.2.1, i.2.2.2.2.1]) (by simp) h2 h3
    refine this.rw ?_
    unfold zerosB named
    rw [dpos hd]; rfl
   ·refine Ev.neg rfl (Ev.neg (dneg hd) (Ev.pos ?_ ?_))
    ·have := opsB_few hd
     show (decide (0 ≤ ((opsB i).length : Int)) && decide (((opsB i).length : Int) ≤ 3)) = true
     rw [dpos (by omega), dpos (by omega)]; rfl
    ·have := implTail (i := i) (l := List.drop (opsB i).length [i.2.2.1, i.2.2.2.1, i.2.2.2.2.1]) (by simp; omega) h2 h3
     refine this.rw ?_
     unfold zerosB named
     rw [dneg hd]; rfl
 have rest := rest (Decidable.em _)
 unfold U64.f
 refine Ev.bind (Ev.all fun k => implIn k _ _ _) ?_
 unfold instB
 generalize hz : ((opsB i).all (inB 0 (count - 1)) && (zerosB i && widB i && immB i funcs)) = zz at rest
 have hzz : ∀ b c d : Bool, (b && c && d && (opsB i).all (inB 0 (count - 1)) && zerosB i && widB i && immB i funcs) = (b && c && d && zz) := fun b c d => by rw [← hz]; simp only [Bool.and_assoc]
 rw [hzz]
 cases inB 1 27 i.1 with
 | false => exact Ev.pos rfl (Ev.cst rfl)
 | true =>
  refine Ev.neg rfl ?_
  by_cases h4 : 4 < ((i.2.2.2.2.2.2.1.length : Nat) : Int)
  ·refine Ev.pos (dpos h4) (Ev.cst ?_)
   rw [dneg (show ¬ i.2.2.2.2.2.2.1.length ≤ 4 by omega)]; rfl
  ·refine Ev.neg (dneg h4) ?_
   rw [dpos (show i.2.2.2.2.2.2.1.length ≤ 4 by omega)]
   by_cases h5 : 0 < ((i.2.2.2.2.2.2.1.length : Nat) : Int)
   ·refine Ev.pos (dpos h5) ?_
    rw [dneg (show ¬ i.2.2.2.2.2.2.1.length = 0 by omega)]
    by_cases h6 : i.1 = 26
    ·exact Ev.neg (by rw [dpos h6]; rfl) (rest.rw (by rw [dpos h6]; rfl))
    ·exact Ev.pos (by rw [dneg h6]; rfl) (Ev.cst (by rw [dneg h6]; rfl))
   ·refine Ev.neg (dneg h5) (rest.rw ?_)
    rw [dpos (show i.2.2.2.2.2.2.1.length = 0 by omega)]; rfl
theorem zeros_at {a b c : Int} : ∀ n : Nat, ([a, b, c].drop n).all (fun n => decide (n = 0)) = ((bif decide ((n : Int) < 1) then decide (a = 0) else true) && (bif decide ((n : Int) < 2) then decide (b = 0) else true) && (bif decide ((n : Int) < 3) then decide (c = 0) else true))
 | 0 => by simp [Bool.and_assoc]
 | 1 => by simp
 | 2 => by simp
 | n + 3 => by
  rw [dneg (show ¬ (((n + 3 : Nat) : Int) < 1) by omega), dneg (show ¬ (((n + 3 : Nat) : Int) < 2) by omega), dneg (show ¬ (((n + 3 : Nat) : Int) < 3) by omega)]
  simp
set_option synthInstance.maxHeartbeats 400000 in
set_option synthInstance.maxSize 100000 in
theorem specInst0 {i : tInstD} {ids : List Int} (hl : ids.length ≤ 1048576) {count funcs : Int} (h0 : 0 ≤ count) (h1 : count ≤ 9223372036854775807) (h2 : 0 ≤ funcs) (h3 : funcs ≤ 9223372036854775807) (hn : named i = bif decide (i.1 = 26) then 0 else ids.length) :
  Ev (fun k => U28.l0 k count funcs 0 i ids) (one (ids.all (inB 0 (count - 1)) && (decide (i.2.2.2.2.2.2.1.length ≤ 4) && zerosB i && widB i && immB i funcs))) := by
 refine each_ev (z := 0) (L := fun k a => U28.l0 k count funcs a i ids) (V := fun m => one (m.all (inB 0 (count - 1)) && (decide (i.2.2.2.2.2.2.1.length ≤ 4) && zerosB i && widB i && immB i funcs))) (q := fun k x g => Option.bind (U21.f k x 0 (IntKind.wrap .i64 (count - 1))) fun r1 => bif !r1.1.1.1 then some (((false, ()), ()), ()) else g k) (by omega) (fun k a => rfl) ?_ ?_
 ·refine Ev.all fun k => ?_
  have hz : zerosB i = ((bif decide (((named i : Nat) : Int) < 1) then decide (i.2.2.1 = 0) else true) && (bif decide (((named i : Nat) : Int) < 2) then decide (i.2.2.2.1 = 0) else true) && (bif decide (((named i : Nat) : Int) < 3) then decide (i.2.2.2.2.1 = 0) else true)) := zeros_at _
  rw [hz, hn]
  simp only [specVal, specIn, specW, Option.bind_some, wrap_id (show -9223372036854775808 ≤ funcs - 1 by omega) (show funcs - 1 ≤ 9223372036854775807 by omega), List.all_nil, Bool.true_and]
  have h4 : decide (i.2.2.2.2.2.2.1.length ≤ 4) = !decide (4 < ((List.length i.2.2.2.2.2.2.1 : Nat) : Int)) := by
   by_cases h : 4 < ((List.length i.2.2.2.2.2.2.1 : Nat) : Int)
   ·rw [dpos h, dneg (by omega)]; rfl
   ·rw [dneg h, dpos (by omega)]; rfl
  rw [h4]
  unfold widB immB
  have fin : ∀ (o24 o25 o26 o21 o23 w0 w8 wk : Bool), decide (i.1 = 24) = o24 → decide (i.1 = 25) = o25 → decide (i.1 = 26) = o26 → decide (i.1 = 21) = o21 → decide (i.1 = 23) = o23 → decide (i.2.1 = 0) = w0 → decide (i.2.1 = 8) = w8 → wOk i.2.1 = wk →
    (o24 = true ∧ o25 = false ∧ o26 = false ∧ o21 = false ∧ o23 = false ∨ o24 = false ∧ o25 = true ∧ o26 = false ∧ o21 = false ∧ o23 = false ∨ o24 = false ∧ o25 = false ∧ o26 = true ∧ o21 = false ∧ o23 = false ∨ o24 = false ∧ o25 = false ∧ o26 = false ∧ o21 = true ∧ o23 = false ∨ o24 = false ∧ o25 = false ∧ o26 = false ∧ o21 = false ∧ o23 = true ∨ o24 = false ∧ o25 = false ∧ o26 = false ∧ o21 = false ∧ o23 = false) ∧
    (w0 = true ∧ w8 = false ∧ wk = false ∨ w0 = false ∧ w8 = true ∧ wk = true ∨ w0 = false ∧ w8 = false) := by
   rintro _ _ _ _ _ _ _ _ rfl rfl rfl rfl rfl rfl rfl rfl
   simp only [decide_eq_true_eq, decide_eq_false_iff_not]
   refine ⟨by omega, ?_⟩
   by_cases h : i.2.1 = 0
   ·exact .inl ⟨h, by omega, by rw [h]; rfl⟩
   ·by_cases h' : i.2.1 = 8
    ·exact .inr (.inl ⟨h, h', by rw [h']; rfl⟩)
    ·exact .inr (.inr ⟨h, h'⟩)
  have fin := fin _ _ _ _ _ _ _ _ rfl rfl rfl rfl rfl rfl rfl rfl
  clear hz h4 hn
  generalize decide (i.1 = 24) = o24 at fin ⊢
  generalize decide (i.1 = 25) = o25 at fin ⊢
  generalize decide (i.1 = 26) = o26 at fin ⊢
  generalize decide (i.1 = 21) = o21 at fin ⊢
  generalize decide (i.1 = 23) = o23 at fin ⊢
  generalize decide (i.2.1 = 0) = w0 at fin ⊢
  generalize decide (i.2.1 = 8) = w8 at fin ⊢
  generalize wOk i.2.1 = wk at fin ⊢
  have z1 : decide (((0 : Nat) : Int) < 1) = true := rfl
  have z2 : decide (((0 : Nat) : Int) < 2) = true := rfl
  have z3 : decide (((0 : Nat) : Int) < 3) = true := rfl
  have y1 : decide ((0 : Int) < 1) = true := rfl
  have y2 : decide ((0 : Int) < 2) = true := rfl
  have y3 : decide ((0 : Int) < 3) = true := rfl
  obtain ⟨f1, f2⟩ := fin
  rcases f1 with ⟨rfl, rfl, rfl, rfl, rfl⟩ | ⟨rfl, rfl, rfl, rfl, rfl⟩ | ⟨rfl, rfl, rfl, rfl, rfl⟩ | ⟨rfl, rfl, rfl, rfl, rfl⟩ | ⟨rfl, rfl, rfl, rfl, rfl⟩ | ⟨rfl, rfl, rfl, rfl, rfl⟩ <;> rcases f2 with ⟨rfl, rfl, rfl⟩ | ⟨rfl, rfl, rfl⟩ | ⟨rfl, rfl⟩ <;>
   simp only [cond_true, cond_false, z1, z2, z3, y1, y2, y3, beq_self_eq_true, Bool.not_true, Bool.not_false, Bool.or_true, Bool.or_false, Bool.and_false, Bool.false_and, Bool.true_and, Bool.and_true, show (true == false) = false from rfl, show (false == true) = false from rfl, Int.reduceLT, decide_true, decide_false] <;>
   generalize decide (4 < ((List.length i.2.2.2.2.2.2.1 : Nat) : Int)) = l4 <;>
   generalize decide (((ids.length : Nat) : Int) < 1) = n1 <;> generalize decide (((ids.length : Nat) : Int) < 2) = n2 <;> generalize decide (((ids.length : Nat) : Int) < 3) = n3 <;>
   generalize decide (i.2.2.1 = 0) = a <;> generalize decide (i.2.2.2.1 = 0) = b <;> generalize decide (i.2.2.2.2.1 = 0) = c <;> generalize decide (i.2.2.2.2.2.1 = 0) = m <;>
   generalize valB i.2.1 i.2.2.2.2.2.1 = va <;> generalize inB 0 (funcs - 1) i.2.2.2.2.2.1 = vb <;> revert l4 n1 n2 n3 a b c m va vb <;> (try revert wk) <;> decide +kernel
 ·intro x m g hx hg
  refine Ev.bind (Ev.all fun k => specIn k _ _ _) ?_
  rw [wrap_id (by omega) (by omega), List.all_cons, Bool.and_assoc]
  exact ev_and hg
theorem specInst {i : tInstD} (hs : i.2.2.2.2.2.2.1.length ≤ 1048576) {count funcs : Int} (h0 : 0 ≤ count) (h1 : count ≤ 9223372036854775807) (h2 : 0 ≤ funcs) (h3 : funcs ≤ 9223372036854775807) : Ev (fun k => U28.f k i count funcs) (one (instB count funcs i)) := by
 have hn : named i = bif decide (i.1 = 26) then 0 else (opsB i).length := rfl
 have l0 := specInst0 (opsB_len hs) h0 h1 h2 h3 hn
 unfold U28.f
 refine Ev.bind (Ev.all fun k => specIn k _ _ _) ?_
 unfold instB
 generalize hz : ((opsB i).all (inB 0 (count - 1))) = za at l0 ⊢
 cases inB 1 27 i.1 with
 | false => exact Ev.pos rfl (Ev.cst rfl)
 | true =>
  refine Ev.neg rfl ?_
  have done : ∀ b : Bool, b = true → Ev (fun k => Option.bind (U25.f k i) fun r3 => U28.l0 k count funcs 0 i r3.2.1) (one (true && decide (i.2.2.2.2.2.2.1.length ≤ 4) && b && za && zerosB i && widB i && immB i funcs)) := by
   rintro _ rfl
   refine (Ev.bind (f := fun k r3 => U28.l0 k count funcs 0 i r3.2.1) (Ev.all fun k => specOps k hs) l0).rw ?_
   generalize decide (i.2.2.2.2.2.2.1.length ≤ 4) = z4
   generalize zerosB i = z5
   generalize widB i = z6
   generalize immB i funcs = z7
   clear l0 hz
   revert za z4 z5 z6 z7
   decide
  by_cases h6 : i.1 = 26
  ·exact Ev.neg (by rw [dpos h6]; rfl) (done _ (by rw [dpos h6, Bool.or_true]))
  ·refine Ev.pos (by rw [dneg h6]; rfl) ?_
   by_cases h5 : 0 < ((i.2.2.2.2.2.2.1.length : Nat) : Int)
   ·refine Ev.pos (dpos h5) (Ev.cst ?_)
    rw [dneg (show ¬ i.2.2.2.2.2.2.1.length = 0 by omega), dneg h6]
    simp
   ·exact Ev.neg (dneg h5) (done _ (by rw [dpos (show i.2.2.2.2.2.2.1.length = 0 by omega), Bool.true_or]))
def sumB {α : Type} (w : α → Int) : List α → Int
 | [] => 0
 | x :: l => w x + sumB w l
theorem sumB_le {α : Type} {w : α → Int} {m : Int} : ∀ {l : List α}, (∀ x ∈ l, 0 ≤ w x ∧ w x ≤ m) → 0 ≤ sumB w l ∧ sumB w l ≤ l.length * m
 | [], _ => by simp [sumB]
 | x :: l, h => by
  obtain ⟨a, b⟩ := sumB_le (l := l) fun y hy => h y (by simp [hy])
  obtain ⟨c, d⟩ := h x (by simp)
  simp only [sumB, List.length_cons]
  have : ((l.length + 1 : Nat) : Int) * m = l.length * m + m := by
   rw [Int.natCast_add, Int.add_mul]; simp
  omega
theorem acc_ev {α : Type} {l : List α} {w : α → Int} {L : Nat → Int → Int → Option IR} (hw : ∀ x ∈ l, 0 ≤ w x ∧ w x ≤ 2097152) (hlen : l.length ≤ 1048576)
  (h1 : ∀ k a (i : Nat) (h : i < l.length), L (k + 1) a (i : Int) = L k (IntKind.wrap .i64 (a + IntKind.wrap .i64 (w l[i]))) ((i + 1 : Nat) : Int)) (h2 : ∀ k a, L (k + 1) a (l.length : Int) = some (one a)) {a : Int} (ha : 0 ≤ a) (ha' : a ≤ 1048576) : Ev (fun k => L k a 0) (one (a + sumB w l)) := by
 have key : ∀ (d i : Nat) (a : Int), i + d = l.length → 0 ≤ a → a ≤ 1048576 + i * 2097152 → Ev (fun k => L k a (i : Int)) (one (a + sumB w (l.drop i))) := by
  intro d
  induction d with
  | zero =>
   intro i a hi h0 h3
   have hi' : i = l.length := by omega
   subst hi'
   rw [List.drop_length]
   exact Ev.step (g' := fun _ => some (one a)) (Ev.cst (by simp [sumB])) fun k => h2 k a
  | succ d ih =>
   intro i a hi h0 h3
   have hi' : i < l.length := by omega
   obtain ⟨w0, w1⟩ := hw l[i] (List.getElem_mem hi')
   have := ih (i + 1) (a + w l[i]) (by omega) (by omega) (by omega)
   refine (Ev.step this fun k => ?_).rw ?_
   ·show L (k + 1) a (i : Int) = _
    rw [h1 k a i hi', wrap_id (x := w l[i]) (by omega) (by omega), wrap_id (by omega) (by omega)]
   ·rw [List.drop_eq_getElem_cons hi']
    simp only [sumB]
    rw [Int.add_assoc]
 have := key l.length 0 a (by omega) ha (by omega)
 simpa using this
def cntB (f : tFuncD) : Int := (f.1.length : Int) + sumB (fun x : tBlockD => ((x.1.length : Nat) : Int) + ((x.2.1.length : Nat) : Int)) f.2.2.1
theorem blk_small {f : tFuncD} (h : Small tFunc f) : ∀ x ∈ f.2.2.1, x.1.length ≤ 1048576 ∧ x.2.1.length ≤ 1048576 := fun x hx => by
 have := h.2.2.1.2 x hx
 exact ⟨this.1.1, this.2.1.1⟩
theorem cntB_le {f : tFuncD} (h : Small tFunc f) : 0 ≤ cntB f ∧ cntB f ≤ 1048576 + 1048576 * 2097152 := by
 have h1 : f.1.length ≤ 1048576 := h.1.1
 have h2 : f.2.2.1.length ≤ 1048576 := h.2.2.1.1
 have := sumB_le (w := fun x : tBlockD => ((x.1.length : Nat) : Int) + ((x.2.1.length : Nat) : Int)) (m := 2097152) (l := f.2.2.1) fun x hx => by
  have := blk_small h x hx
  omega
 unfold cntB
 omega
theorem specCount {f : tFuncD} (h : Small tFunc f) : Ev (fun k => U22.f k f) (one (cntB f)) := by
 have h1 : f.1.length ≤ 1048576 := h.1.1
 exact acc_ev (L := fun k a i => U22.l0 k a i f) (l := f.2.2.1) (w := fun x : tBlockD => ((x.1.length : Nat) : Int) + ((x.2.1.length : Nat) : Int)) (fun x hx => by have := blk_small h x hx; omega) h.2.2.1.1 (fun k a i hi => by
   show U22.l0_ k (U22.l0 k) a i f = _
   unfold U22.l0_
   have hlen : f.2.2.1.length ≤ 1048576 := h.2.2.1.1
   simp only [head_in hi, head_0, Bool.and_self, cond_true, get_in hi, wrap_nat (show i < 9223372036854775807 by omega)]) (fun k a => by
   show U22.l0_ k (U22.l0 k) a _ f = _
   unfold U22.l0_
   simp only [head_end, cond_false]) (by omega) (by omega)
theorem implCount {f : tFuncD} (h : Small tFunc f) : Ev (fun k => U44.f k f) (one (cntB f)) := by
 have h1 : f.1.length ≤ 1048576 := h.1.1
 exact acc_ev (L := fun k a i => U44.l0 k a f.2.2.1 ((List.length f.2.2.1 : Nat) : Int) i) (l := f.2.2.1) (w := fun x : tBlockD => ((x.1.length : Nat) : Int) + ((x.2.1.length : Nat) : Int)) (fun x hx => by have := blk_small h x hx; omega) h.2.2.1.1 (fun k a i hi => by
   show U44.l0_ k (U44.l0 k) a f.2.2.1 _ i = _
   unfold U44.l0_
   have hlen : f.2.2.1.length ≤ 1048576 := h.2.2.1.1
   simp only [head_in hi, head_0, Bool.and_self, cond_true, get_in hi, wrap_nat (show i < 9223372036854775807 by omega)]) (fun k a => by
   show U44.l0_ k (U44.l0 k) a f.2.2.1 _ _ = _
   unfold U44.l0_
   simp only [head_end, cond_false]) (by omega) (by omega)
def phiB (count : Int) (p : tPhiD) : Bool := wOk p.1 && decide (p.2.1.length ≤ 10) && p.2.1.all (inB 0 (count - 1))
def blockB (count funcs blocks : Int) (b : tBlockD) : Bool := b.1.all (phiB count) && b.2.1.all (instB count funcs) && termB count blocks b.2.2
def funcB (funcs : Int) (f : tFuncD) : Bool :=
 decide (f.1.length ≤ 4) && wOk f.2.1 && inB 1 10 (f.2.2.1.length : Int) && decide (cntB f ≤ 60) && f.1.all wOk && f.2.2.1.all (blockB (cntB f) funcs (f.2.2.1.length : Int))
section
variable {f : tFuncD} {funcs count blocks : Int}
theorem specFunc4 {x : tBlockD} (hx : Small tBlock x) (h0 : 0 ≤ count) (h1 : count ≤ 9223372036854775807) (h2 : 0 ≤ funcs) (h3 : funcs ≤ 9223372036854775807) (h4 : 0 ≤ blocks) (h5 : blocks ≤ 9223372036854775807) {j : Nat} (hj : j < 9223372036854775807) {r : Bool}
  (hr : Ev (fun k => U30.l1 k funcs count blocks ((j + 1 : Nat) : Int) f) (one r)) : Ev (fun k => U30.l4 k funcs count blocks j 0 f x) (one (x.2.1.all (instB count funcs) && (termB count blocks x.2.2 && r))) := by
 have hs := hx.2.1
 refine each_ev (z := tInstZ) (l := x.2.1) (L := fun k a => U30.l4 k funcs count blocks j a f x) (V := fun m => one (m.all (instB count funcs) && (termB count blocks x.2.2 && r))) (q := fun k y g => Option.bind (U28.f k y count funcs) fun r1 => bif !r1.1.1.1 then some (((false, ()), ()), ()) else g k)
  (by have := hs.1; show List.length (α := tInstD) x.2.1 ≤ _; have : List.length (α := tInstD) x.2.1 ≤ 1048576 := this; omega) (fun k a => rfl) ?_ ?_
 ·refine Ev.bind (Ev.all fun k => specTerm k x.2.2 h0 h1 h4 h5) ?_
  rw [wrap_nat hj, List.all_nil, Bool.true_and]
  exact ev_and hr
 ·intro y m g hy hg
  refine Ev.bind (specInst (i := y) ((hs.2 y hy).2.2.2.2.2.2.1.1) h0 h1 h2 h3) ?_
  rw [List.all_cons, Bool.and_assoc]
  exact ev_and hg
theorem specFunc2 {x : tBlockD} (hx : Small tBlock x) (h0 : 0 ≤ count) (h1 : count ≤ 9223372036854775807) (h2 : 0 ≤ funcs) (h3 : funcs ≤ 9223372036854775807) (h4 : 0 ≤ blocks) (h5 : blocks ≤ 9223372036854775807) {j : Nat} (hj : j < 9223372036854775807) {r : Bool}
  (hr : Ev (fun k => U30.l1 k funcs count blocks ((j + 1 : Nat) : Int) f) (one r)) : Ev (fun k => U30.l2 k funcs count blocks j 0 f x) (one (blockB count funcs blocks x && r)) := by
 have hs := hx.1
 have hlen : x.1.length ≤ 1048576 := hs.1
 have tail := specFunc4 (f := f) hx h0 h1 h2 h3 h4 h5 hj hr
 have key := Ev.down (G := fun i k => U30.l2 k funcs count blocks j (i : Int) f x) (V := fun i => one ((x.1.drop i).all (phiB count) && (x.2.1.all (instB count funcs) && (termB count blocks x.2.2 && r)))) x.1.length ?_ ?_ 0 (Nat.zero_le _)
 ·refine key.rw ?_
  unfold blockB
  rw [List.drop_zero, Bool.and_assoc, Bool.and_assoc]
 ·rw [List.drop_length]
  refine tail.step fun k => ?_
  show U30.l2_ k (U30.l0 k) (U30.l1 k) (U30.l2 k) (U30.l3 k) (U30.l4 k) funcs count blocks j _ f x = _
  unfold U30.l2_
  simp only [head_end, cond_false]
 ·intro i hi ih
  have hp := hs.2 x.1[i] (List.getElem_mem hi)
  have hpl : x.1[i].2.1.length ≤ 1048576 := hp.2.1.1
  -- the inner loop
  have inner := Ev.down (G := fun q k => U30.l3 k funcs count blocks j i (q : Int) f x) (V := fun q => one ((x.1[i].2.1.drop q).all (inB 0 (count - 1)) && ((x.1.drop (i + 1)).all (phiB count) && (x.2.1.all (instB count funcs) && (termB count blocks x.2.2 && r))))) x.1[i].2.1.length ?_ ?_ 0 (Nat.zero_le _)
  ·rw [List.drop_eq_getElem_cons hi, List.all_cons]
   refine Ev.step (g' := fun k => Option.bind (U23.f k x.1[i].1) fun r1 => bif !r1.1.1.1 then some (((false, ()), ()), ()) else bif decide (10 < ((List.length x.1[i].2.1 : Nat) : Int)) then some (((false, ()), ()), ()) else U30.l3 k funcs count blocks j i 0 f x) ?_ fun k => ?_
   ·refine Ev.bind (Ev.all fun k => specW k _) ?_
    have e1 : ∀ R, (phiB count x.1[i] && R) = (wOk x.1[i].1 && (!decide (10 < ((List.length x.1[i].2.1 : Nat) : Int)) && (x.1[i].2.1.all (inB 0 (count - 1)) && R))) := fun R => by
     have e : decide (x.1[i].2.1.length ≤ 10) = !decide (10 < ((List.length x.1[i].2.1 : Nat) : Int)) := by
      by_cases h : 10 < ((List.length x.1[i].2.1 : Nat) : Int)
      ·rw [dpos h, dneg (by omega)]; rfl
      ·rw [dneg h, dpos (by omega)]; rfl
     unfold phiB
     rw [e, Bool.and_assoc, Bool.and_assoc]
    rw [Bool.and_assoc, e1]
    refine ev_and ?_
    exact ev_and' inner
   ·show U30.l2_ k (U30.l0 k) (U30.l1 k) (U30.l2 k) (U30.l3 k) (U30.l4 k) funcs count blocks j _ f x = _
    unfold U30.l2_
    simp only [head_in hi, head_0, Bool.and_self, cond_true, get_in hi]
  ·rw [List.drop_length, List.all_nil, Bool.true_and]
   refine ih.step fun k => ?_
   show U30.l3_ k (U30.l0 k) (U30.l1 k) (U30.l2 k) (U30.l3 k) (U30.l4 k) funcs count blocks j _ _ f x = _
   unfold U30.l3_
   simp only [head_in hi, head_0, Bool.and_self, cond_true, get_in hi, head_end, cond_false, wrap_nat (show i < 9223372036854775807 by omega)]
  ·intro q hq ihq
   rw [List.drop_eq_getElem_cons hq, List.all_cons, Bool.and_assoc]
   refine Ev.step (g' := fun k => Option.bind (U21.f k x.1[i].2.1[q] 0 (IntKind.wrap .i64 (count - 1))) fun r1 => bif !r1.1.1.1 then some (((false, ()), ()), ()) else U30.l3 k funcs count blocks j i ((q + 1 : Nat) : Int) f x) ?_ fun k => ?_
   ·rw [wrap_id (by omega) (by omega)]
    exact Ev.bind (Ev.all fun k => specIn k _ _ _) (ev_and ihq)
   ·show U30.l3_ k (U30.l0 k) (U30.l1 k) (U30.l2 k) (U30.l3 k) (U30.l4 k) funcs count blocks j _ _ f x = _
    unfold U30.l3_
    simp only [head_in hi, head_0, Bool.and_self, cond_true, get_in hi, head_in hq, get_in hq, wrap_nat (show q < 9223372036854775807 by omega)]
theorem specFunc1 (hf : Small tFunc f) (h0 : 0 ≤ count) (h1 : count ≤ 9223372036854775807) (h2 : 0 ≤ funcs) (h3 : funcs ≤ 9223372036854775807) (h4 : 0 ≤ blocks) (h5 : blocks ≤ 9223372036854775807) : Ev (fun k => U30.l1 k funcs count blocks 0 f) (one (f.2.2.1.all (blockB count funcs blocks))) := by
 have hs := hf.2.2.1
 have hlen : f.2.2.1.length ≤ 1048576 := hs.1
 have key := Ev.down (G := fun i k => U30.l1 k funcs count blocks (i : Int) f) (V := fun i => one ((f.2.2.1.drop i).all (blockB count funcs blocks))) f.2.2.1.length ?_ ?_ 0 (Nat.zero_le _)
 ·exact key
 ·rw [List.drop_length]
  refine Ev.step (g' := fun _ => some (one true)) (Ev.cst rfl) fun k => ?_
  show U30.l1_ k (U30.l0 k) (U30.l1 k) (U30.l2 k) (U30.l3 k) (U30.l4 k) funcs count blocks _ f = _
  unfold U30.l1_
  simp only [head_end, cond_false]
 ·intro i hi ih
  rw [List.drop_eq_getElem_cons hi, List.all_cons]
  refine (specFunc2 (f := f) (x := f.2.2.1[i]) (hs.2 _ (List.getElem_mem hi)) h0 h1 h2 h3 h4 h5 (show i < 9223372036854775807 by omega) ih).step fun k => ?_
  show U30.l1_ k (U30.l0 k) (U30.l1 k) (U30.l2 k) (U30.l3 k) (U30.l4 k) funcs count blocks _ f = _
  unfold U30.l1_
  simp only [head_in hi, head_0, Bool.and_self, cond_true, get_in hi]
theorem le_not {a b : Int} : decide (a ≤ b) = !decide (b < a) := by
 by_cases h : b < a
 ·rw [dpos h, dneg (by omega)]; rfl
 ·rw [dneg h, dpos (by omega)]; rfl
theorem len_not {n m : Nat} : decide (n ≤ m) = !decide ((m : Int) < (n : Int)) := by
 by_cases h : (m : Int) < (n : Int)
 ·rw [dpos h, dneg (by omega)]; rfl
 ·rw [dneg h, dpos (by omega)]; rfl
theorem specFunc (hf : Small tFunc f) (h2 : 0 ≤ funcs) (h3 : funcs ≤ 9223372036854775807) : Ev (fun k => U30.f k f funcs) (one (funcB funcs f)) := by
 have hs := hf.2.2.1
 have hlen : f.2.2.1.length ≤ 1048576 := hs.1
 have hpl : f.1.length ≤ 1048576 := hf.1.1
 obtain ⟨c0, c1⟩ := cntB_le hf
 unfold U30.f funcB
 simp only [Bool.and_assoc]
 refine Ev.bind (specCount hf) ?_
 rw [len_not]
 refine ev_and' (Ev.bind (Ev.all fun k => specW k _) (ev_and (Ev.bind (Ev.all fun k => specIn k _ _ _) (ev_and ?_))))
 rw [le_not]
 refine ev_and' ?_
 exact each_ev (z := 0) (l := f.1) (L := fun k a => U30.l0 k funcs (cntB f) (f.2.2.1.length : Int) a f) (V := fun m => one (m.all wOk && f.2.2.1.all (blockB (cntB f) funcs (f.2.2.1.length : Int)))) (q := fun k y g => Option.bind (U23.f k y) fun r1 => bif !r1.1.1.1 then some (((false, ()), ()), ()) else g k)
  (by omega) (fun k a => rfl) (specFunc1 hf c0 (by omega) h2 h3 (by omega) (by omega)) fun y m g hy hg => by
   refine Ev.bind (Ev.all fun k => specW k _) ?_
   rw [List.all_cons, Bool.and_assoc]
   exact ev_and hg
end
theorem Ev.sk1 {R : Type} {g : Nat → Option R} {r : R} (h : Ev (fun k => g (k + 1)) r) : Ev g r := Ev.step h fun _ => rfl
theorem st_loop {σ R : Type} {n0 : Nat} {L : Nat → Int → σ → Option R} {T : Nat → σ → Option R} (S : Nat → σ)
  (hend : ∀ r, Ev (fun k => T k (S n0)) r → Ev (fun k => L k (n0 : Int) (S n0)) r)
  (hstep : ∀ i r, i < n0 → Ev (fun k => L k ((i + 1 : Nat) : Int) (S (i + 1))) r → Ev (fun k => L k (i : Int) (S i)) r) {r : R} (h : Ev (fun k => T k (S n0)) r) : Ev (fun k => L k 0 (S 0)) r :=
 Ev.down (G := fun i k => L k (i : Int) (S i)) (V := fun _ => r) n0 (hend r h) (fun i hi e => hstep i r hi e) 0 (Nat.zero_le _)
/-- A number's text. -/
def decB (n : Int) : ByteArray := ⟨(Lib.itoa n).toArray⟩
theorem ba_ext {a b : ByteArray} (h : a.data = b.data) : a = b := by cases a; cases b; cases h; rfl
theorem digit_str : ∀ r : Nat, r < 10 → strOf [IntKind.wrap .u8 (IntKind.wrap .i64 (48 + (r : Int)))] = ⟨#[UInt8.ofNat (48 + r)]⟩ := by
 intro r h
 have h1 : r = 0 ∨ r = 1 ∨ r = 2 ∨ r = 3 ∨ r = 4 ∨ r = 5 ∨ r = 6 ∨ r = 7 ∨ r = 8 ∨ r = 9 := by omega
 rcases h1 with rfl | rfl | rfl | rfl | rfl | rfl | rfl | rfl | rfl | rfl <;> rfl
theorem nd_le {u : Nat} (h : u < 18446744073709551616) : Lib.nDigits u ≤ 20 := by
 by_cases h0 : u = 0
 ·subst h0; rw [Lib.nDigits_small (by omega)]; omega
 ·have := Lib.numDigits_eq u (by omega) h
  split at this <;> omega
theorem big_eq : big = 9223372036854775807 := rfl
theorem specDec_s {u : Nat} (h10 : u < 10) {t : ByteArray} (ht : t.size + Lib.nDigits u ≤ 1000000) : Ev (fun k => U32.l0 k (u : Int) t) (one ((⟨(Lib.decDigits u).toArray⟩ : ByteArray) ++ t)) := by
 refine Ev.sk1 ?_
 show Ev (fun k => U32.l0_ k (U32.l0 k) (u : Int) t) _
 unfold U32.l0_
 have hd := digit_str u h10
 have hn := Lib.nDigits_small h10
 refine Ev.dn (by omega) ?_
 rw [hd]
 refine Ev.dp (by rw [big_eq]; have : (⟨#[UInt8.ofNat (48 + u)]⟩ : ByteArray).size = 1 := rfl; omega) (Ev.cst ?_)
 rw [Lib.decDigits_one h10]
theorem specDec_l : ∀ (n u : Nat), u ≤ n → u < 4611686018427387904 → ∀ t : ByteArray, t.size + Lib.nDigits u ≤ 1000000 → Ev (fun k => U32.l0 k (u : Int) t) (one ((⟨(Lib.decDigits u).toArray⟩ : ByteArray) ++ t)) := by
 intro n
 induction n with
 | zero =>
  intro u hu h1 t ht
  exact specDec_s (by omega) ht
 | succ n ih =>
  intro u hu h1 t ht
  by_cases h10 : u < 10
  ·exact specDec_s h10 ht
  ·refine Ev.sk1 ?_
   show Ev (fun k => U32.l0_ k (U32.l0 k) (u : Int) t) _
   unfold U32.l0_
   have hm : Int.tmod (u : Int) 10 = ((u % 10 : Nat) : Int) := by rw [Int.tmod_eq_emod_of_nonneg (by omega)]; omega
   have hq : Int.tdiv (u : Int) 10 = ((u / 10 : Nat) : Int) := by rw [Int.tdiv_eq_ediv_of_nonneg (by omega)]; omega
   have hd := digit_str (u % 10) (by omega)
   have hn := Lib.nDigits_big h10
   have hw : IntKind.wrap .i64 ((u / 10 : Nat) : Int) = ((u / 10 : Nat) : Int) := wrap_id (by omega) (by omega)
   have hs1 : (⟨#[UInt8.ofNat (48 + u % 10)]⟩ : ByteArray).size = 1 := rfl
   rw [hm, hq, hd, hw]
   refine Ev.dp (by omega) (Ev.pos (by decide) (Ev.dp (by rw [big_eq]; omega) (Ev.pos (by decide) ?_)))
   refine (ih (u / 10) (by omega) (by omega) _ (by rw [ByteArray.size_append, hs1]; omega)).rw ?_
   have e : Lib.decDigits u = Lib.decDigits (u / 10) ++ [UInt8.ofNat (48 + u % 10)] := by rw [Lib.decDigits, dif_neg h10]
   rw [e]
   have e2 : (⟨(Lib.decDigits (u / 10) ++ [UInt8.ofNat (48 + u % 10)]).toArray⟩ : ByteArray) = (⟨(Lib.decDigits (u / 10)).toArray⟩ : ByteArray) ++ ⟨#[UInt8.ofNat (48 + u % 10)]⟩ := ba_ext (by simp [ByteArray.data_append])
   rw [e2, ByteArray.append_assoc]
theorem decB_nat (u : Nat) : decB (u : Int) = ⟨(Lib.decDigits u).toArray⟩ := by
 unfold decB Lib.itoa
 rw [if_neg (by omega), Int.toNat_natCast]
theorem decB_size {n : Int} (h0 : 0 ≤ n) (h1 : n < 4611686018427387904) : (decB n).size ≤ 20 := by
 obtain ⟨u, rfl⟩ : ∃ u : Nat, n = u := ⟨n.toNat, by omega⟩
 rw [decB_nat]
 show (Lib.decDigits u).toArray.size ≤ 20
 rw [List.size_toArray, Lib.decDigits_length]
 exact nd_le (by omega)
theorem specDec {n : Int} (h0 : 0 ≤ n) (h1 : n < 4611686018427387904) : Ev (fun k => U32.f k n) (one (decB n)) := by
 obtain ⟨u, rfl⟩ : ∃ u : Nat, n = u := ⟨n.toNat, by omega⟩
 unfold U32.f
 refine Ev.dn (by omega) ?_
 have hn := nd_le (u := u) (by omega)
 refine (specDec_l u u (Nat.le_refl _) (by omega) ByteArray.empty (by show 0 + _ ≤ _; omega)).rw ?_
 rw [decB_nat, ByteArray.append_empty]
theorem implDec (k : Nat) {n : Int} (h0 : 0 ≤ n) (h1 : n < 4611686018427387904) : strconv_FormatInt.f k n 10 = some (one (decB n)) := by
 unfold strconv_FormatInt.f fmtF
 rw [dpos rfl, dpos (show -9223372036854775808 ≤ n by omega), dpos (show n ≤ 9223372036854775807 by omega)]
 rfl
def blank : ByteArray := ByteArray.mk #[32]
def numB (n : Int) : ByteArray := blank ++ decB n
def numsB : List Int → ByteArray
 | [] => ByteArray.empty
 | n :: l => numB n ++ numsB l
theorem numsB_app : ∀ a b : List Int, numsB (a ++ b) = numsB a ++ numsB b
 | [], b => by show numsB b = ByteArray.empty ++ numsB b; rw [ByteArray.empty_append]
 | n :: a, b => by show numB n ++ numsB (a ++ b) = (numB n ++ numsB a) ++ numsB b; rw [numsB_app a b, ByteArray.append_assoc]
theorem numsB_push {l : List Int} {i : Nat} (h : i < l.length) : numsB (l.take i) ++ numB l[i] = numsB (l.take (i + 1)) := by
 rw [List.take_succ_eq_append_getElem h, numsB_app]
 show _ = _ ++ (numB l[i] ++ ByteArray.empty)
 rw [ByteArray.append_empty]
def okN (n : Int) : Prop := 0 ≤ n ∧ n < 4611686018427387904
theorem numB_size {n : Int} (h : okN n) : (numB n).size ≤ 21 := by
 unfold numB
 rw [ByteArray.size_append]
 have := decB_size h.1 h.2
 have hb : blank.size = 1 := rfl
 omega
theorem numsB_size : ∀ {l : List Int}, (∀ n ∈ l, okN n) → (numsB l).size ≤ 21 * l.length
 | [], _ => Nat.le_refl _
 | n :: l, h => by
  show (numB n ++ numsB l).size ≤ _
  rw [ByteArray.size_append, List.length_cons]
  have a := numB_size (h n (by simp))
  have b := numsB_size (l := l) fun m hm => h m (by simp [hm])
  omega
theorem take_ok {l : List Int} (h : ∀ n ∈ l, okN n) (i : Nat) : ∀ n ∈ l.take i, okN n := fun n hn => h n (List.mem_of_mem_take hn)
theorem specNums {l : List Int} (hl : l.length ≤ 100) (h : ∀ n ∈ l, okN n) : Ev (fun k => U33.f k l) (one (numsB l)) := by
 unfold U33.f
 refine st_loop (n0 := l.length) (L := fun k a s => U33.l0 k l s a) (T := fun k s => some (one s)) (fun i => numsB (l.take i)) (fun r e => Ev.sk1 ?_) (fun i r hlt e => Ev.sk1 ?_) ?_
 ·show Ev (fun k => U33.l0_ k (U33.l0 k) _ _ _) _
  simp only [U33.l0_, head_end, cond_false]
  exact e
 ·show Ev (fun k => U33.l0_ k (U33.l0 k) _ _ _) _
  have hs := numsB_size (take_ok h i)
  have hlen : (l.take i).length ≤ 100 := by rw [List.length_take]; omega
  have hn := h _ (List.getElem_mem hlt)
  have hd := decB_size hn.1 hn.2
  have hb : (ByteArray.mk #[32]).size = 1 := rfl
  simp only [U33.l0_, head_in hlt, head_0, Bool.and_self, cond_true, Int.toNat_natCast, getD_at _ _ _ hlt, wrap_nat (show i < 9223372036854775807 by omega)]
  refine Ev.dp (by rw [big_eq, hb]; omega) (Ev.bind (specDec hn.1 hn.2) (Ev.dp (by rw [big_eq, ByteArray.size_append, hb]; show _ + (decB l[i]).size ≤ _; omega) ?_))
  simp only [← numsB_push hlt, numB, ← ByteArray.append_assoc] at e
  exact e
 ·simp only [List.take_length]; exact Ev.cst rfl
theorem implLine {w : ByteArray} (hw : w.size ≤ 100000) {l : List Int} (hl : l.length ≤ 100) (h : ∀ n ∈ l, okN n) : Ev (fun k => U75.f k w l) (one (w ++ numsB l)) := by
 unfold U75.f
 have h0 : w = w ++ numsB (l.take 0) := by show w = w ++ ByteArray.empty; rw [ByteArray.append_empty]
 have key := st_loop (n0 := l.length) (L := fun k a s => U75.l0 k s l (l.length : Int) a) (T := fun k s => some (one s)) (fun i => w ++ numsB (l.take i)) (fun r e => Ev.sk1 ?_) (fun i r hlt e => Ev.sk1 ?_) (r := one (w ++ numsB l)) ?_
 ·rw [← h0] at key; exact key
 ·show Ev (fun k => U75.l0_ k (U75.l0 k) _ _ _ _) _
  simp only [U75.l0_, head_end, cond_false]
  exact e
 ·show Ev (fun k => U75.l0_ k (U75.l0 k) _ _ _ _) _
  have hs := numsB_size (take_ok h i)
  have hlen : (l.take i).length ≤ 100 := by rw [List.length_take]; omega
  have hn := h _ (List.getElem_mem hlt)
  have hd := decB_size hn.1 hn.2
  have hb : (ByteArray.mk #[32]).size = 1 := rfl
  simp only [U75.l0_, head_in hlt, head_0, Bool.and_self, cond_true, Int.toNat_natCast, getD_at _ _ _ hlt, wrap_nat (show i < 9223372036854775807 by omega)]
  refine Ev.bind (Ev.all fun k => implDec k hn.1 hn.2) (Ev.dp (by rw [big_eq, hb]; show _ + (decB l[i]).size ≤ _; omega) (Ev.dp (by rw [big_eq, ByteArray.size_append, ByteArray.size_append, hb]; show _ + (_ + (decB l[i]).size) ≤ _; omega) ?_))
  simp only [← numsB_push hlt, numB, ← ByteArray.append_assoc] at e
  simp only [← ByteArray.append_assoc]
  exact e
 ·simp only [List.take_length]; exact Ev.cst rfl
set_option maxRecDepth 100000 in
def opS : ByteArray := (ByteArray.mk #[97, 100, 100, 32, 115, 117, 98, 32, 109, 117, 108, 32, 117, 100, 105, 118, 32, 115, 100, 105, 118, 32, 117, 114, 101, 109, 32, 115, 114, 101, 109, 32, 97, 110, 100, 32, 111, 114, 32, 120, 111, 114, 32, 115, 104, 108, 32, 108, 115, 104, 114, 32, 97, 115, 104, 114, 32, 101, 113, 32, 110, 101, 32, 117, 108, 116, 32, 115, 108, 116, 32, 122, 101, 120, 116, 32, 115, 101, 120, 116, 32, 116, 114, 117, 110, 99, 32, 99, 111, 110, 115, 116, 32, 115, 101, 108, 101, 99, 116, 32, 108, 111, 97, 100, 32, 115, 116, 111, 114, 101, 32, 112, 114, 105, 110, 116, 32, 99, 97, 108, 108, 32, 99, 111, 112, 121])
def wordsL : List ByteArray := Lib.splitB (ByteArray.mk #[32]) 0 (Lib.countB opS (ByteArray.mk #[32])) opS
theorem words_len : wordsL.length = 27 := by kernel_rfl
theorem words_small : (wordsL.all fun w => Nat.ble w.size 10) = true := by kernel_rfl
theorem specWords (k : Nat) : U34.f k = some (rowR (ByteArray.empty :: wordsL)) := by kernel_rfl
theorem implWords (k : Nat) : U76.f k = some (rowR wordsL) := by kernel_rfl
def wordB (op : Int) : ByteArray := wordsL.getD (op - 1).toNat ByteArray.empty
theorem wordB_size (op : Int) : (wordB op).size ≤ 10 := by
 unfold wordB
 by_cases h : (op - 1).toNat < wordsL.length
 ·rw [getD_at _ _ _ h]
  have := List.all_eq_true.1 words_small _ (List.getElem_mem h)
  exact Nat.le_of_ble_eq_true this
 ·rw [List.getD_eq_getElem?_getD, List.getElem?_eq_none (by omega)]
  exact Nat.zero_le _
theorem word_spec {W : List ByteArray} {op : Int} (h : 1 ≤ op) : (ByteArray.empty :: W).getD op.toNat ByteArray.empty = W.getD (op - 1).toNat ByteArray.empty := by
 obtain ⟨n, hn⟩ : ∃ n, op.toNat = n + 1 := ⟨op.toNat - 1, by omega⟩
 rw [hn, show (op - 1).toNat = n by omega]
 rfl
def hasI (i : tInstD) : Bool := decide (i.1 = 21) || decide (i.1 = 26)
def textW (w : ByteArray) (i : tInstD) : ByteArray := bif hasI i then ((w ++ numB i.2.1) ++ numB i.2.2.2.2.2.1) ++ numsB (opsB i) else (w ++ numB i.2.1) ++ numsB (opsB i)
def textI (i : tInstD) : ByteArray := textW (wordB i.1) i
structure Txt (i : tInstD) : Prop where
 op1 : 1 ≤ i.1
 op2 : i.1 ≤ 27
 w : okN i.2.1
 m : okN i.2.2.2.2.2.1
 al : i.2.2.2.2.2.2.1.length ≤ 4
 ol : (opsB i).length ≤ 4
 o : ∀ n ∈ opsB i, okN n
theorem txt_ofN {c m : Int} (hc : c ≤ 60) (hm3 : m ≤ 3) {i : tInstD} (h : instB c m i = true) : Txt i := by
 simp only [instB, Bool.and_eq_true, decide_eq_true_eq, List.all_eq_true] at h
 obtain ⟨⟨⟨⟨⟨⟨h1, h2⟩, h3⟩, h4⟩, h5⟩, h6⟩, h7⟩ := h
 have ho : 1 ≤ i.1 ∧ i.1 ≤ 27 := by simpa [inB] using h1
 have hw : okN i.2.1 := by
  unfold widB at h6
  by_cases c1 : i.1 = 24
  ·rw [dpos c1] at h6
   have : i.2.1 = 0 := by simpa using h6
   exact ⟨by omega, by omega⟩
  ·by_cases c2 : i.1 = 25
   ·rw [dpos c2, Bool.or_true] at h6
    have : i.2.1 = 0 := by simpa using h6
    exact ⟨by omega, by omega⟩
   ·rw [dneg c1, dneg c2] at h6
    by_cases c3 : i.1 = 23
    ·rw [dpos c3] at h6
     have : i.2.1 = 8 := by simpa using h6
     exact ⟨by omega, by omega⟩
    ·rw [dneg c3] at h6
     rcases wOk_cases (show wOk i.2.1 = true from h6) with e | e | e | e <;> exact ⟨by omega, by omega⟩
 have hm : okN i.2.2.2.2.2.1 := by
  unfold immB at h7
  by_cases c1 : i.1 = 21
  ·rw [dpos c1] at h7
   have h8 : (wOk i.2.1 && inB 0 (topOf i.2.1) i.2.2.2.2.2.1) = true := h7
   rw [Bool.and_eq_true] at h8
   have h9 : 0 ≤ i.2.2.2.2.2.1 ∧ i.2.2.2.2.2.1 ≤ topOf i.2.1 := by simpa [inB] using h8.2
   have ht : topOf i.2.1 ≤ 4294967295 := by
    rcases wOk_cases h8.1 with e | e | e | e <;> rw [e] <;> decide
   exact ⟨h9.1, by omega⟩
  ·rw [dneg c1] at h7
   by_cases c2 : i.1 = 26
   ·rw [dpos c2] at h7
    have h9 : 0 ≤ i.2.2.2.2.2.1 ∧ i.2.2.2.2.2.1 ≤ m - 1 := by simpa [inB] using h7
    exact ⟨h9.1, by omega⟩
   ·rw [dneg c2] at h7
    have : i.2.2.2.2.2.1 = 0 := by simpa using h7
    exact ⟨by omega, by omega⟩
 have hol : (opsB i).length ≤ 4 := by
  by_cases h26 : i.1 = 26
  ·have e : opsB i = i.2.2.2.2.2.2.1 := by unfold opsB inB; rw [h26]; rfl
   rw [e]; exact h2
  ·have := opsB_few h26; omega
 refine ⟨ho.1, ho.2, hw, hm, h2, hol, fun n hn => ?_⟩
 have := h4 n hn
 have h9 : 0 ≤ n ∧ n ≤ c - 1 := by simpa [inB] using this
 exact ⟨h9.1, by omega⟩
theorem specTextW {i : tInstD} (h : Txt i) {W : List ByteArray} {w : ByteArray} (hk : ∀ k, U34.f k = some (rowR (ByteArray.empty :: W))) (hW : W.length = 27) (hg : W.getD (i.1 - 1).toNat ByteArray.empty = w) (hws : w.size ≤ 10) : Ev (fun k => U35.f k i) (one (textW w i)) := by
 have hd := decB_size h.w.1 h.w.2
 have hdm := decB_size h.m.1 h.m.2
 have hn := numsB_size h.o
 have hol := h.ol
 have hb : (ByteArray.mk #[32]).size = 1 := rfl
 have hal : i.2.2.2.2.2.2.1.length ≤ 1048576 := by have := h.al; omega
 have hlen : ((List.length (ByteArray.empty :: W) : Nat) : Int) = 28 := by rw [List.length_cons, hW]; rfl
 unfold U35.f
 refine Ev.bind (Ev.all hk) ?_
 simp only [word_spec h.op1, hg]
 refine Ev.dd (by have := h.op1; omega) (by show i.1 < ((List.length (ByteArray.empty :: W) : Nat) : Int); rw [hlen]; have := h.op2; omega) (Ev.dp (by rw [big_eq, hb]; omega) (Ev.bind (specDec h.w.1 h.w.2) (Ev.dp (by rw [big_eq, ByteArray.size_append, hb]; show _ + (decB i.2.1).size ≤ _; omega) ?_)))
 have tail : ∀ (t : ByteArray), t.size ≤ 1000 → ∀ r, t ++ numsB (opsB i) = r → Ev (fun k => Option.bind (U25.f k i) fun r9 => Option.bind (U33.f k r9.2.1) fun r10 => bif decide (ByteArray.size t + ByteArray.size r10.1.1.1 ≤ big) then (some (((t ++ r10.1.1.1, ()), ()), ())) else none) (one r) := fun t ht r hr =>
  Ev.bind (Ev.all fun k => specOps k hal) (Ev.bind (specNums (by show (opsB i).length ≤ 100; omega) h.o) (Ev.dp (by rw [big_eq]; show _ + (numsB (opsB i)).size ≤ _; omega) (Ev.cst (by rw [← hr]))))
 by_cases c1 : i.1 = 21
 ·have e : textW w i = ((w ++ numB i.2.1) ++ numB i.2.2.2.2.2.1) ++ numsB (opsB i) := by unfold textW hasI; rw [dpos c1]; rfl
  rw [e]
  refine Ev.dp c1 (Ev.dp (by rw [big_eq, ByteArray.size_append, ByteArray.size_append, hb]; show _ + (decB i.2.1).size + _ ≤ _; omega) (Ev.bind (specDec h.m.1 h.m.2) (Ev.dp (by rw [big_eq, ByteArray.size_append, ByteArray.size_append, ByteArray.size_append, hb]; show _ + (decB i.2.1).size + _ + (decB i.2.2.2.2.2.1).size ≤ _; omega) (tail _ (by rw [ByteArray.size_append, ByteArray.size_append, ByteArray.size_append, ByteArray.size_append, hb]; show _ + (decB i.2.1).size + _ + (decB i.2.2.2.2.2.1).size ≤ _; omega) _ ?_))))
  simp only [numB, blank, one, ← ByteArray.append_assoc]
 ·by_cases c2 : i.1 = 26
  ·have e : textW w i = ((w ++ numB i.2.1) ++ numB i.2.2.2.2.2.1) ++ numsB (opsB i) := by unfold textW hasI; rw [dpos c2, Bool.or_true]; rfl
   rw [e]
   refine Ev.dn c1 (Ev.dp c2 (Ev.dp (by rw [big_eq, ByteArray.size_append, ByteArray.size_append, hb]; show _ + (decB i.2.1).size + _ ≤ _; omega) (Ev.bind (specDec h.m.1 h.m.2) (Ev.dp (by rw [big_eq, ByteArray.size_append, ByteArray.size_append, ByteArray.size_append, hb]; show _ + (decB i.2.1).size + _ + (decB i.2.2.2.2.2.1).size ≤ _; omega) (tail _ (by rw [ByteArray.size_append, ByteArray.size_append, ByteArray.size_append, ByteArray.size_append, hb]; show _ + (decB i.2.1).size + _ + (decB i.2.2.2.2.2.1).size ≤ _; omega) _ ?_)))))
   simp only [numB, blank, one, ← ByteArray.append_assoc]
  ·have e : textW w i = (w ++ numB i.2.1) ++ numsB (opsB i) := by unfold textW hasI; rw [dneg c1, dneg c2]; rfl
   rw [e]
   refine Ev.dn c1 (Ev.dn c2 (tail _ (by rw [ByteArray.size_append, ByteArray.size_append, hb]; show _ + (decB i.2.1).size ≤ _; omega) _ ?_))
   simp only [numB, blank, one, ← ByteArray.append_assoc]
theorem specText {i : tInstD} (h : Txt i) : Ev (fun k => U35.f k i) (one (textI i)) := specTextW h specWords words_len (by unfold wordB; rfl) (wordB_size _)
theorem nums1 (n : Int) : numsB [n] = numB n := by show numB n ++ ByteArray.empty = _; rw [ByteArray.append_empty]
theorem implTextW {i : tInstD} (h : Txt i) {W : List ByteArray} {w : ByteArray} (hk : ∀ k, U76.f k = some (rowR W)) (hW : W.length = 27) (hg : W.getD (i.1 - 1).toNat ByteArray.empty = w) (hws : w.size ≤ 10) : Ev (fun k => U78.f k i) (one (textW w i)) := by
 have hw := numB_size h.w
 have hm := numB_size h.m
 have hal : i.2.2.2.2.2.2.1.length ≤ 1048576 := by have := h.al; omega
 have hol := h.ol
 have hwr : IntKind.wrap .i64 (i.1 - 1) = i.1 - 1 := wrap_id (by have := h.op1; omega) (by have := h.op2; omega)
 unfold U78.f
 rw [hwr]
 refine Ev.bind (Ev.all hk) (Ev.dd (by have := h.op1; omega) (by show i.1 - 1 < ((List.length W : Nat) : Int); rw [hW]; have := h.op2; omega) ?_)
 have l1 := implLine (w := w) (by omega) (l := [i.2.1]) (by simp) (fun n hn => by rw [List.mem_singleton.1 hn]; exact h.w)
 rw [nums1] at l1
 show Ev (fun k => Option.bind (U75.f k (W.getD (i.1 - 1).toNat ByteArray.empty) [i.2.1]) _) _
 rw [hg]
 refine Ev.bind l1 ?_
 unfold U77.f
 cases hi : hasI i with
 | true =>
  have e : textW w i = ((w ++ numB i.2.1) ++ numB i.2.2.2.2.2.1) ++ numsB (opsB i) := by unfold textW; rw [hi]; rfl
  rw [e]
  have l2 := implLine (w := w ++ numB i.2.1) (by rw [ByteArray.size_append]; omega) (l := [i.2.2.2.2.2.1]) (by simp) (fun n hn => by rw [List.mem_singleton.1 hn]; exact h.m)
  rw [nums1] at l2
  refine Ev.bind (a := one true) (Ev.cst (by unfold hasI at hi; cases c1 : decide (i.1 = 21) <;> simp_all)) (Ev.pos rfl (Ev.bind l2 (Ev.bind (Ev.all fun k => implOps k hal) (Ev.bind (implLine (w := (w ++ numB i.2.1) ++ numB i.2.2.2.2.2.1) (by rw [ByteArray.size_append, ByteArray.size_append]; omega) (by show (opsB i).length ≤ 100; omega) h.o) (Ev.cst rfl)))))
 | false =>
  have e : textW w i = (w ++ numB i.2.1) ++ numsB (opsB i) := by unfold textW; rw [hi]; rfl
  rw [e]
  refine Ev.bind (a := one false) (Ev.cst (by unfold hasI at hi; cases c1 : decide (i.1 = 21) <;> simp_all)) (Ev.neg rfl (Ev.bind (Ev.all fun k => implOps k hal) (Ev.bind (implLine (w := w ++ numB i.2.1) (by rw [ByteArray.size_append]; omega) (by show (opsB i).length ≤ 100; omega) h.o) (Ev.cst rfl))))
theorem implText {i : tInstD} (h : Txt i) : Ev (fun k => U78.f k i) (one (textI i)) := implTextW h implWords words_len (by unfold wordB; rfl) (wordB_size _)
theorem implWs {l : List Int} (h : l.length ≤ 1048576) : Ev (fun k => U43.f k l) (one (!l.all wOk)) := by
 rw [← any_not]
 exact index_ev (z := 0) (L := fun k b a => U42.l0 k l b a) (q := fun k x => U41.f k x) (by omega) (fun k b a => rfl) fun x _ => Ev.all fun k => by
  unfold U41.f
  rw [implW]; rfl
theorem implIds {l : List Int} (h : l.length ≤ 1048576) {count : Int} (h0 : 0 ≤ count) (h1 : count ≤ 9223372036854775807) : Ev (fun k => U47.f k l count) (one (!l.all (inB 0 (count - 1)))) := by
 rw [← any_not]
 exact index_ev (z := 0) (L := fun k b a => U46.l0 k l b a count) (q := fun k x => U45.f k x count) (by omega) (fun k b a => rfl) fun x _ => Ev.all fun k => by
  unfold U45.f
  rw [implIn, wrap_id (by omega) (by omega)]; rfl
theorem ev_nt {g : Nat → Option BR} {b c : Bool} (h : Ev g (one (!c))) : Ev (fun k => bif !b then some (one true) else g k) (one (!(b && c))) := by
 cases b with
 | true => exact Ev.neg rfl h
 | false => exact Ev.pos rfl (Ev.cst rfl)
theorem ev_nt' {g : Nat → Option BR} {b c : Bool} (h : Ev g (one (!c))) : Ev (fun k => bif b then some (one true) else g k) (one (!(!b && c))) := by
 cases b with
 | true => exact Ev.pos rfl (Ev.cst rfl)
 | false => exact Ev.neg rfl h
theorem implPhi {p : tPhiD} (hp : Small tPhi p) {count : Int} (h0 : 0 ≤ count) (h1 : count ≤ 9223372036854775807) : Ev (fun k => U48.f k p count) (one (!phiB count p)) := by
 have hl : p.2.1.length ≤ 1048576 := hp.2.1.1
 unfold U48.f phiB
 rw [Bool.and_assoc, len_not]
 exact Ev.bind (Ev.all fun k => implW k _) (ev_nt (ev_nt' (Ev.bind (implIds hl h0 h1) (Ev.cst rfl))))
theorem implPhis {l : List tPhiD} (hs : Small (.list tPhi) l) {count : Int} (h0 : 0 ≤ count) (h1 : count ≤ 9223372036854775807) : Ev (fun k => U50.f k l count) (one (!l.all (phiB count))) := by
 have hl : l.length ≤ 1048576 := hs.1
 rw [← any_not]
 exact index_ev (z := tPhiZ) (L := fun k b a => U49.l0 k l b a count) (q := fun k x => U48.f k x count) (by omega) (fun k b a => rfl) fun x hx => implPhi (hs.2 x hx) h0 h1
theorem implInsts {l : List tInstD} (hs : Small (.list tInst) l) {count funcs : Int} (h0 : 0 ≤ count) (h1 : count ≤ 9223372036854775807) (h2 : 0 ≤ funcs) (h3 : funcs ≤ 9223372036854775807) : Ev (fun k => U67.f k l count funcs) (one (!l.all (instB count funcs))) := by
 have hl : l.length ≤ 1048576 := hs.1
 rw [← any_not]
 refine index_ev (z := tInstZ) (L := fun k b a => U66.l0 k l b a count funcs) (q := fun k x => U65.f k x count funcs) (by omega) (fun k b a => rfl) fun x hx => ?_
 exact Ev.bind (implInst (i := x) ((hs.2 x hx).2.2.2.2.2.2.1.1) h0 h1 h2 h3) (Ev.cst rfl)
theorem implFunc {f : tFuncD} (hf : Small tFunc f) {funcs : Int} (h2 : 0 ≤ funcs) (h3 : funcs ≤ 9223372036854775807) : Ev (fun k => U70.f k f funcs) (one (funcB funcs f)) := by
 have hs := hf.2.2.1
 have hlen : f.2.2.1.length ≤ 1048576 := hs.1
 have hpl : f.1.length ≤ 1048576 := hf.1.1
 obtain ⟨c0, c1⟩ := cntB_le hf
 have c1 : cntB f ≤ 9223372036854775807 := by omega
 have hord : funcB funcs f = (!decide (((4 : Nat) : Int) < ((f.1.length : Nat) : Int)) && (wOk f.2.1 && (inB 1 10 (f.2.2.1.length : Int) && (f.1.all wOk && (!decide (60 < cntB f) && f.2.2.1.all (blockB (cntB f) funcs (f.2.2.1.length : Int))))))) := by
  unfold funcB
  rw [len_not, le_not]
  generalize decide (((4 : Nat) : Int) < ((f.1.length : Nat) : Int)) = a
  generalize decide (60 < cntB f) = b
  generalize f.1.all wOk = c
  cases a <;> cases b <;> cases c <;> simp [Bool.and_assoc]
 rw [hord]
 unfold U70.f
 refine ev_and' (Ev.bind (Ev.all fun k => implW k _) (ev_and (Ev.bind (Ev.all fun k => implIn k _ _ _) (ev_and (Ev.bind (implWs hpl) ?_)))))
 have inner : Ev (fun k => Option.bind (U44.f k f) fun r4 => bif decide (60 < r4.1.1.1) then some (((false, ()), ()), ()) else U70.l0 k f.2.2.1 ((List.length f.2.2.1 : Nat) : Int) 0 f funcs r4.1.1.1) (one (!decide (60 < cntB f) && f.2.2.1.all (blockB (cntB f) funcs (f.2.2.1.length : Int)))) := by
  refine Ev.bind (implCount hf) (ev_and' ?_)
  refine each_ev (z := tBlockZ) (l := f.2.2.1) (L := fun k a => U70.l0 k f.2.2.1 ((List.length f.2.2.1 : Nat) : Int) a f funcs (cntB f)) (V := fun m => one (m.all (blockB (cntB f) funcs (f.2.2.1.length : Int))))
   (q := fun k x g => Option.bind (U50.f k x.1 (cntB f)) fun r1 => bif r1.1.1.1 then some (((false, ()), ()), ()) else Option.bind (U67.f k x.2.1 (cntB f) funcs) fun r2 => bif r2.1.1.1 then some (((false, ()), ()), ()) else Option.bind (U69.f k f x.2.2 (cntB f)) fun r3 => bif !r3.1.1.1 then some (((false, ()), ()), ()) else g k)
   (by omega) (fun k a => rfl) (Ev.cst rfl) fun x m g hx hg => ?_
  have hx' := hs.2 x hx
  have hb : (blockB (cntB f) funcs (f.2.2.1.length : Int) x && m.all (blockB (cntB f) funcs (f.2.2.1.length : Int))) = (!(!x.1.all (phiB (cntB f))) && (!(!x.2.1.all (instB (cntB f) funcs)) && (termB (cntB f) (f.2.2.1.length : Int) x.2.2 && m.all (blockB (cntB f) funcs (f.2.2.1.length : Int))))) := by
   have e : blockB (cntB f) funcs (f.2.2.1.length : Int) x = (x.1.all (phiB (cntB f)) && x.2.1.all (instB (cntB f) funcs) && termB (cntB f) (f.2.2.1.length : Int) x.2.2) := rfl
   rw [e, Bool.not_not, Bool.not_not, Bool.and_assoc, Bool.and_assoc]
  rw [List.all_cons, hb]
  exact Ev.bind (implPhis hx'.1 c0 c1) (ev_and' (Ev.bind (implInsts hx'.2.1 c0 c1 h2 h3) (ev_and' (Ev.bind (Ev.all fun k => implTerm k x.2.2 hlen c0 c1) (ev_and hg)))))
 have := ev_and' (b := !f.1.all wOk) inner
 rw [Bool.not_not] at this
 exact this
def shapeB (m : tModuleD) : Bool := inB 1 3 (m.1.length : Int) && m.1.all (funcB (m.1.length : Int))
theorem specShape {m : tModuleD} (hm : Small tModule m) : Ev (fun k => U31.f k m) (one (shapeB m)) := by
 have hs := hm.1
 have hlen : m.1.length ≤ 1048576 := hs.1
 unfold U31.f shapeB
 refine Ev.bind (Ev.all fun k => specIn k _ _ _) (ev_and ?_)
 exact each_ev (z := tFuncZ) (l := m.1) (L := fun k a => U31.l0 k a m.1) (V := fun l => one (l.all (funcB (m.1.length : Int)))) (q := fun k y g => Option.bind (U30.f k y ((List.length m.1 : Nat) : Int)) fun r1 => bif !r1.1.1.1 then some (((false, ()), ()), ()) else g k)
  (by omega) (fun k a => rfl) (Ev.cst rfl) fun y l g hy hg => by
   refine Ev.bind (specFunc (hs.2 y hy) (by omega) (by omega)) ?_
   rw [List.all_cons]
   exact ev_and hg
theorem implFuncs {l : List tFuncD} (hs : Small (.list tFunc) l) {funcs : Int} (h2 : 0 ≤ funcs) (h3 : funcs ≤ 9223372036854775807) : Ev (fun k => U73.f k l funcs) (one (!l.all (funcB funcs))) := by
 have hl : l.length ≤ 1048576 := hs.1
 rw [← any_not]
 refine index_ev (z := tFuncZ) (L := fun k b a => U72.l0 k l b a funcs) (q := fun k x => U71.f k x funcs) (by omega) (fun k b a => rfl) fun x hx => ?_
 exact Ev.bind (implFunc (hs.2 x hx) h2 h3) (Ev.cst rfl)
theorem implShape {m : tModuleD} (hm : Small tModule m) : Ev (fun k => U74.f k m) (one (shapeB m)) := by
 have hlen : m.1.length ≤ 1048576 := hm.1.1
 unfold U74.f shapeB
 refine Ev.bind (Ev.all fun k => implIn k _ _ _) ?_
 cases inB 1 3 (m.1.length : Int) with
 | false => exact Ev.neg rfl (Ev.cst rfl)
 | true => exact Ev.pos rfl (Ev.bind (implFuncs hm.1 (by omega) (by omega)) (Ev.cst (by show some (one (!(!_))) = _; rw [Bool.not_not, Bool.true_and])))
structure Fm (funcs : Int) (f : tFuncD) : Prop where
 p4 : f.1.length ≤ 4
 b1 : 1 ≤ f.2.2.1.length
 b10 : f.2.2.1.length ≤ 10
 cnt : cntB f ≤ 60
 pw : ∀ w ∈ f.1, wOk w = true
 ph : ∀ x ∈ f.2.2.1, ∀ p ∈ x.1, phiB (cntB f) p = true
 ins : ∀ x ∈ f.2.2.1, ∀ i ∈ x.2.1, instB (cntB f) funcs i = true
 tm : ∀ x ∈ f.2.2.1, termB (cntB f) (f.2.2.1.length : Int) x.2.2 = true
theorem inB_iff {lo hi x : Int} : inB lo hi x = true ↔ lo ≤ x ∧ x ≤ hi := by simp [inB]
theorem Fm.of {funcs : Int} {f : tFuncD} (h : funcB funcs f = true) : Fm funcs f := by
 simp only [funcB, Bool.and_eq_true, decide_eq_true_eq, List.all_eq_true, inB_iff, blockB] at h
 obtain ⟨⟨⟨⟨⟨h1, h2⟩, h3⟩, h4⟩, h5⟩, h6⟩ := h
 exact ⟨h1, by omega, by omega, h4, h5, fun x hx => (h6 x hx).1.1, fun x hx => (h6 x hx).1.2, fun x hx => (h6 x hx).2⟩
/-- How many ids a block gives. -/
def wB (x : tBlockD) : Int := ((x.1.length : Nat) : Int) + ((x.2.1.length : Nat) : Int)
theorem wB_nonneg (x : tBlockD) : 0 ≤ wB x := by unfold wB; omega
theorem cntB_eq (f : tFuncD) : cntB f = (f.1.length : Int) + sumB wB f.2.2.1 := rfl
theorem sumB_nonneg {α : Type} {w : α → Int} : ∀ {l : List α}, (∀ x ∈ l, 0 ≤ w x) → 0 ≤ sumB w l
 | [], _ => Int.le_refl _
 | x :: l, h => by
  have := h x (by simp)
  have := sumB_nonneg (l := l) fun y hy => h y (by simp [hy])
  simp only [sumB]; omega
theorem le_sumB {α : Type} {w : α → Int} {l : List α} (h : ∀ x ∈ l, 0 ≤ w x) {x : α} (hx : x ∈ l) : w x ≤ sumB w l := by
 induction l with
 | nil => cases hx
 | cons y l ih =>
  have hn := sumB_nonneg (l := l) fun z hz => h z (by simp [hz])
  simp only [sumB]
  rcases List.mem_cons.1 hx with rfl | hx
  ·omega
  ·have := ih (fun z hz => h z (by simp [hz])) hx
   have := h y (by simp)
   omega
theorem Fm.w60 {funcs : Int} {f : tFuncD} (h : Fm funcs f) {x : tBlockD} (hx : x ∈ f.2.2.1) : wB x ≤ 60 := by
 have := le_sumB (w := wB) (fun y _ => wB_nonneg y) hx
 have := h.cnt
 rw [cntB_eq] at this
 omega
theorem Fm.phis {funcs : Int} {f : tFuncD} (h : Fm funcs f) {x : tBlockD} (hx : x ∈ f.2.2.1) : x.1.length ≤ 60 ∧ x.2.1.length ≤ 60 := by
 have := h.w60 hx
 unfold wB at this
 omega
def catT : List ByteArray → ByteArray
 | [] => ByteArray.empty
 | x :: l => x ++ catT l
theorem catT_size {c : Nat} : ∀ {l : List ByteArray}, (∀ x ∈ l, x.size ≤ c) → (catT l).size ≤ l.length * c
 | [], _ => by simp [catT]
 | x :: l, h => by
  have h1 := h x (by simp)
  have h2 := catT_size (l := l) fun y hy => h y (by simp [hy])
  simp only [catT, ByteArray.size_append, List.length_cons, Nat.add_mul, Nat.one_mul]
  omega
theorem catT_nil (s : ByteArray) : s ++ catT [] = s := ByteArray.append_empty
theorem catT_cons (s x : ByteArray) (l : List ByteArray) : s ++ catT (x :: l) = (s ++ x) ++ catT l := (ByteArray.append_assoc).symm
theorem Ev.bigT {R : Type} {a b : Nat} {f : Nat → Option R} {r : R} (h : a + b ≤ 1000000000) (e : Ev f r) : Ev (fun k => bif decide (a + b ≤ Go.Proofs.YtlledfaplcgmdaaGreatDoor.V.big) then f k else none) r := Ev.dp (by unfold Go.Proofs.YtlledfaplcgmdaaGreatDoor.V.big; omega) e
abbrev nl : ByteArray := ByteArray.mk #[10]
abbrev func5 : ByteArray := ByteArray.mk #[102, 117, 110, 99, 32]
abbrev block6 : ByteArray := ByteArray.mk #[98, 108, 111, 99, 107, 10]
abbrev phi4 : ByteArray := ByteArray.mk #[112, 104, 105, 32]
abbrev ret3 : ByteArray := ByteArray.mk #[114, 101, 116]
abbrev jump4 : ByteArray := ByteArray.mk #[106, 117, 109, 112]
abbrev br6 : ByteArray := ByteArray.mk #[98, 114, 97, 110, 99, 104]
abbrev trap4 : ByteArray := ByteArray.mk #[116, 114, 97, 112]
def phiL (p : tPhiD) : ByteArray := ((phi4 ++ decB p.1) ++ numsB p.2.1) ++ nl
def lineI (i : tInstD) : ByteArray := textI i ++ nl
def termT (t : tTermD) : ByteArray := bif decide (t.1 = 1) then ret3 ++ numsB [t.2.1] else bif decide (t.1 = 2) then jump4 ++ numsB [t.2.2.1] else bif decide (t.1 = 3) then br6 ++ numsB [t.2.1, t.2.2.1, t.2.2.2.1] else trap4
def termL (t : tTermD) : ByteArray := termT t ++ nl
def phisL (l : List tPhiD) : ByteArray := catT (l.map phiL)
def instsL (l : List tInstD) : ByteArray := catT (l.map lineI)
def blockL (x : tBlockD) : ByteArray := ((block6 ++ phisL x.1) ++ instsL x.2.1) ++ termL x.2.2
def blocksL (l : List tBlockD) : ByteArray := catT (l.map blockL)
def funcL (f : tFuncD) : ByteArray := (((func5 ++ decB f.2.1) ++ numsB f.1) ++ nl) ++ blocksL f.2.2.1
def funcsL (l : List tFuncD) : ByteArray := catT (l.map funcL)
structure PT (p : tPhiD) : Prop where
 w : okN p.1
 l : p.2.1.length ≤ 10
 n : ∀ n ∈ p.2.1, okN n
structure TT (t : tTermD) : Prop where
 a : okN t.2.1
 b : okN t.2.2.1
 c : okN t.2.2.2.1
structure BT' (x : tBlockD) : Prop where
 ph : x.1.length ≤ 60
 ins : x.2.1.length ≤ 60
 p : ∀ p ∈ x.1, PT p
 i : ∀ i ∈ x.2.1, Txt i
 t : TT x.2.2
structure FT (f : tFuncD) : Prop where
 r : okN f.2.1
 p4 : f.1.length ≤ 4
 p : ∀ n ∈ f.1, okN n
 b10 : f.2.2.1.length ≤ 10
 b : ∀ x ∈ f.2.2.1, BT' x
theorem okw {w : Int} (h : wOk w = true) : okN w := by
 rcases wOk_cases h with e | e | e | e <;> exact ⟨by omega, by omega⟩
theorem TT.of {c b : Int} (hc : c ≤ 60) (hb : b ≤ 10) {t : tTermD} (h : termB c b t = true) : TT t := by
 unfold termB at h
 by_cases c1 : t.1 = 1
 ·rw [dpos c1] at h
  simp only [cond_true, Bool.and_eq_true, decide_eq_true_eq, inB_iff] at h
  exact ⟨⟨by omega, by omega⟩, ⟨by omega, by omega⟩, ⟨by omega, by omega⟩⟩
 ·rw [dneg c1] at h
  by_cases c2 : t.1 = 2
  ·rw [dpos c2] at h
   simp only [cond_true, cond_false, Bool.and_eq_true, decide_eq_true_eq, inB_iff] at h
   exact ⟨⟨by omega, by omega⟩, ⟨by omega, by omega⟩, ⟨by omega, by omega⟩⟩
  ·rw [dneg c2] at h
   by_cases c3 : t.1 = 3
   ·rw [dpos c3] at h
    simp only [cond_true, cond_false, Bool.and_eq_true, decide_eq_true_eq, inB_iff] at h
    exact ⟨⟨by omega, by omega⟩, ⟨by omega, by omega⟩, ⟨by omega, by omega⟩⟩
   ·rw [dneg c3] at h
    simp only [cond_false, Bool.and_eq_true, decide_eq_true_eq] at h
    exact ⟨⟨by omega, by omega⟩, ⟨by omega, by omega⟩, ⟨by omega, by omega⟩⟩
theorem FT.of {m : Int} (hm : m ≤ 3) {f : tFuncD} (h : funcB m f = true) : FT f := by
 have hf := Fm.of h
 have hr : wOk f.2.1 = true := by
  simp only [funcB, Bool.and_eq_true] at h
  exact h.1.1.1.1.2
 refine ⟨okw hr, hf.p4, fun n hn => okw (hf.pw n hn), hf.b10, fun x hx => ⟨(hf.phis hx).1, (hf.phis hx).2, fun p hp => ?_, fun i hi => txt_ofN hf.cnt hm (hf.ins x hx i hi), TT.of hf.cnt (by have := hf.b10; omega) (hf.tm x hx)⟩⟩
 have h1 := hf.ph x hx p hp
 have hc := hf.cnt
 simp only [phiB, Bool.and_eq_true, decide_eq_true_eq, List.all_eq_true, inB_iff] at h1
 exact ⟨okw h1.1.1, h1.1.2, fun n hn => by have := h1.2 n hn; exact ⟨this.1, by omega⟩⟩
theorem phiL_size {p : tPhiD} (h : PT p) : (phiL p).size ≤ 240 := by
 have h1 := decB_size h.w.1 h.w.2
 have h2 := numsB_size h.n
 have h3 := h.l
 unfold phiL
 simp only [ByteArray.size_append]
 show ((4 + _) + _) + 1 ≤ 240
 omega
theorem textI_size {i : tInstD} (h : Txt i) : (textI i).size ≤ 140 := by
 have h1 := wordB_size i.1
 have h2 := numB_size h.w
 have h3 := numB_size h.m
 have h4 := numsB_size h.o
 have h5 := h.ol
 unfold textI textW
 cases hasI i <;> simp only [cond_true, cond_false, ByteArray.size_append] <;> omega
theorem lineI_size {i : tInstD} (h : Txt i) : (lineI i).size ≤ 141 := by
 have := textI_size h
 unfold lineI
 rw [ByteArray.size_append]
 show _ + 1 ≤ 141
 omega
theorem termT_size {t : tTermD} (h : TT t) : (termT t).size ≤ 80 := by
 have h1 := numB_size h.a
 have h2 := numB_size h.b
 have h3 := numB_size h.c
 have e0 : ByteArray.empty.size = 0 := rfl
 unfold termT
 cases decide (t.1 = 1) <;> cases decide (t.1 = 2) <;> cases decide (t.1 = 3) <;> simp only [cond_true, cond_false, numsB, ByteArray.size_append, e0]
 all_goals first | (show 4 ≤ 80; omega) | (show 3 + _ ≤ 80; omega) | (show 4 + _ ≤ 80; omega) | (show 6 + _ ≤ 80; omega)
theorem termL_size {t : tTermD} (h : TT t) : (termL t).size ≤ 81 := by
 have := termT_size h
 unfold termL
 rw [ByteArray.size_append]
 show _ + 1 ≤ 81
 omega
theorem phisL_size {l : List tPhiD} (h : ∀ p ∈ l, PT p) : (phisL l).size ≤ l.length * 240 := by
 have := catT_size (c := 240) (l := l.map phiL) fun y hy => by
  obtain ⟨p, hp, rfl⟩ := List.mem_map.1 hy
  exact phiL_size (h p hp)
 rwa [List.length_map] at this
theorem instsL_size {l : List tInstD} (h : ∀ i ∈ l, Txt i) : (instsL l).size ≤ l.length * 141 := by
 have := catT_size (c := 141) (l := l.map lineI) fun y hy => by
  obtain ⟨p, hp, rfl⟩ := List.mem_map.1 hy
  exact lineI_size (h p hp)
 rwa [List.length_map] at this
theorem blockL_size {x : tBlockD} (h : BT' x) : (blockL x).size ≤ 24000 := by
 have h1 := phisL_size h.p
 have h2 := instsL_size h.i
 have h3 := termL_size h.t
 have h4 := h.ph
 have h5 := h.ins
 unfold blockL
 simp only [ByteArray.size_append]
 show ((6 + _) + _) + _ ≤ 24000
 omega
theorem blocksL_size {l : List tBlockD} (h : ∀ x ∈ l, BT' x) : (blocksL l).size ≤ l.length * 24000 := by
 have := catT_size (c := 24000) (l := l.map blockL) fun y hy => by
  obtain ⟨p, hp, rfl⟩ := List.mem_map.1 hy
  exact blockL_size (h p hp)
 rwa [List.length_map] at this
theorem funcL_size {f : tFuncD} (h : FT f) : (funcL f).size ≤ 250000 := by
 have h1 := decB_size h.r.1 h.r.2
 have h2 := numsB_size h.p
 have h3 := blocksL_size h.b
 have h4 := h.p4
 have h5 := h.b10
 unfold funcL
 simp only [ByteArray.size_append]
 show (((5 + _) + _) + 1) + _ ≤ 250000
 omega
theorem nl_size : nl.size = 1 := rfl
section
variable {r : (((ByteArray × Unit) × Unit) × Unit)} {fs : List tFuncD} {f : tFuncD} {x : tBlockD}
theorem specTermT {t : tTermD} (h : TT t) : Ev (fun k => U36.f k t) (one (termT t)) := by
 have h1 := decB_size h.a.1 h.a.2
 have h2 := decB_size h.b.1 h.b.2
 have h3 := decB_size h.c.1 h.c.2
 have e1 : (ByteArray.mk #[114, 101, 116, 32]).size = 4 := rfl
 have e2 : (ByteArray.mk #[106, 117, 109, 112, 32]).size = 5 := rfl
 have e3 : (ByteArray.mk #[98, 114, 97, 110, 99, 104, 32]).size = 7 := rfl
 have e4 : (ByteArray.mk #[32]).size = 1 := rfl
 have j1 : ByteArray.mk #[114, 101, 116, 32] = ret3 ++ blank := by decide
 have j2 : ByteArray.mk #[106, 117, 109, 112, 32] = jump4 ++ blank := by decide
 have j3 : ByteArray.mk #[98, 114, 97, 110, 99, 104, 32] = br6 ++ blank := by decide
 unfold U36.f termT
 by_cases c1 : t.1 = 1
 ·rw [dpos c1]
  refine Ev.bind (specDec h.a.1 h.a.2) (Ev.bigT (by show _ + (decB t.2.1).size ≤ _; omega) (Ev.cst ?_))
  show some (one (_ ++ decB t.2.1)) = some (one (ret3 ++ numsB [t.2.1]))
  rw [nums1, j1, ByteArray.append_assoc]; rfl
 ·rw [dneg c1]
  by_cases c2 : t.1 = 2
  ·rw [dpos c2]
   refine Ev.bind (specDec h.b.1 h.b.2) (Ev.bigT (by show _ + (decB t.2.2.1).size ≤ _; omega) (Ev.cst ?_))
   show some (one (_ ++ decB t.2.2.1)) = some (one (jump4 ++ numsB [t.2.2.1]))
   rw [nums1, j2, ByteArray.append_assoc]; rfl
  ·rw [dneg c2]
   by_cases c3 : t.1 = 3
   ·rw [dpos c3]
    refine Ev.bind (specDec h.a.1 h.a.2) (Ev.bigT (by show _ + (decB t.2.1).size ≤ _; omega) (Ev.bigT (by show (_ ++ decB t.2.1).size + _ ≤ _; rw [ByteArray.size_append]; omega) (Ev.bind (specDec h.b.1 h.b.2) (Ev.bigT ?_ (Ev.bigT ?_ (Ev.bind (specDec h.c.1 h.c.2) (Ev.bigT ?_ (Ev.cst ?_))))))))
    ·show ((_ ++ decB t.2.1) ++ _).size + (decB t.2.2.1).size ≤ _
     rw [ByteArray.size_append, ByteArray.size_append]; omega
    ·show (((_ ++ decB t.2.1) ++ _) ++ decB t.2.2.1).size + _ ≤ _
     rw [ByteArray.size_append, ByteArray.size_append, ByteArray.size_append]; omega
    ·show ((((_ ++ decB t.2.1) ++ _) ++ decB t.2.2.1) ++ _).size + (decB t.2.2.2.1).size ≤ _
     rw [ByteArray.size_append, ByteArray.size_append, ByteArray.size_append, ByteArray.size_append]; omega
    ·show some (one (((((_ ++ decB t.2.1) ++ _) ++ decB t.2.2.1) ++ _) ++ decB t.2.2.2.1)) = some (one (br6 ++ numsB [t.2.1, t.2.2.1, t.2.2.2.1]))
     have : numsB [t.2.1, t.2.2.1, t.2.2.2.1] = (blank ++ decB t.2.1) ++ ((blank ++ decB t.2.2.1) ++ (blank ++ decB t.2.2.2.1)) := by
      show numB t.2.1 ++ (numB t.2.2.1 ++ numsB [t.2.2.2.1]) = _
      rw [nums1]; rfl
     rw [this, j3]
     simp only [ByteArray.append_assoc]
     rfl
   ·rw [dneg c3]
    exact Ev.cst rfl
theorem specInsts_t {a b : Int} (hx : BT' x) (hb0 : 0 ≤ b) (hb : b < 9223372036854775807) : ∀ (d i : Nat) (s : ByteArray), i + d = x.2.1.length → s.size + d * 141 ≤ 900000000 → Ev (fun k => U37.l1 k ((s ++ instsL (x.2.1.drop i)) ++ termL x.2.2) a (b + 1) fs f) r → Ev (fun k => U37.l3 k s a b (i : Int) fs f x) r := by
 intro d
 induction d with
 | zero =>
  intro i s hi hs h
  obtain rfl : i = x.2.1.length := by omega
  rw [List.drop_length] at h
  refine Ev.succ ?_
  show Ev (fun k => U37.l3_ k (U37.l0 k) (U37.l1 k) (U37.l2 k) (U37.l3 k) s a b _ fs f x) _
  unfold U37.l3_
  have ht := termT_size hx.t
  refine Ev.neg head_end (Ev.bind (specTermT hx.t) (Ev.bigT (by show s.size + (termT x.2.2).size ≤ _; omega) (Ev.bigT (by show (s ++ termT x.2.2).size + 1 ≤ _; rw [ByteArray.size_append]; omega) ?_)))
  rw [wrap_id (x := b + 1) (by omega) (by omega)]
  have e : (s ++ instsL []) ++ termL x.2.2 = (s ++ termT x.2.2) ++ nl := by
   show (s ++ catT []) ++ (termT x.2.2 ++ nl) = _
   rw [catT_nil, ByteArray.append_assoc]
  rw [e] at h
  exact h
 | succ d ih =>
  intro i s hi hs h
  have hlt : i < x.2.1.length := by omega
  have hm : x.2.1[i] ∈ x.2.1 := List.getElem_mem hlt
  have hT := hx.i _ hm
  have hsz := textI_size hT
  have hx60 := hx.ins
  refine Ev.succ ?_
  show Ev (fun k => U37.l3_ k (U37.l0 k) (U37.l1 k) (U37.l2 k) (U37.l3 k) s a b _ fs f x) _
  unfold U37.l3_
  simp only [head_in hlt, head_0, Bool.and_self, cond_true, get_in hlt, wrap_nat (show i < 9223372036854775807 by omega)]
  refine Ev.bind (specText hT) (Ev.bigT (by show s.size + (textI x.2.1[i]).size ≤ _; omega) (Ev.bigT (by show (s ++ textI x.2.1[i]).size + 1 ≤ _; rw [ByteArray.size_append]; omega) ?_))
  refine ih (i + 1) ((s ++ textI x.2.1[i]) ++ nl) (by omega) (by rw [ByteArray.size_append, ByteArray.size_append, nl_size]; omega) ?_
  rw [List.drop_eq_getElem_cons hlt] at h
  have e : s ++ instsL (x.2.1[i] :: x.2.1.drop (i + 1)) = ((s ++ textI x.2.1[i]) ++ nl) ++ instsL (x.2.1.drop (i + 1)) := by
   show s ++ catT (lineI x.2.1[i] :: _) = _
   rw [catT_cons]
   show (s ++ (textI x.2.1[i] ++ nl)) ++ _ = _
   rw [← ByteArray.append_assoc]; rfl
  rw [e] at h
  exact h
theorem specPhis_t {a b : Int} (hx : BT' x) (hb0 : 0 ≤ b) (hb : b < 9223372036854775807) : ∀ (d i : Nat) (s : ByteArray), i + d = x.1.length → s.size + d * 240 ≤ 800000000 → Ev (fun k => U37.l1 k (((s ++ phisL (x.1.drop i)) ++ instsL x.2.1) ++ termL x.2.2) a (b + 1) fs f) r → Ev (fun k => U37.l2 k s a b (i : Int) fs f x) r := by
 intro d
 induction d with
 | zero =>
  intro i s hi hs h
  obtain rfl : i = x.1.length := by omega
  rw [List.drop_length] at h
  refine Ev.succ ?_
  show Ev (fun k => U37.l2_ k (U37.l0 k) (U37.l1 k) (U37.l2 k) (U37.l3 k) s a b _ fs f x) _
  unfold U37.l2_
  have hi6 := hx.ins
  refine Ev.neg head_end ?_
  have e : s ++ phisL [] = s := catT_nil s
  rw [e] at h
  refine specInsts_t hx hb0 hb x.2.1.length 0 s (by omega) (by omega) ?_
  exact h
 | succ d ih =>
  intro i s hi hs h
  have hlt : i < x.1.length := by omega
  have hm : x.1[i] ∈ x.1 := List.getElem_mem hlt
  have hP := hx.p _ hm
  have h1 := decB_size hP.w.1 hP.w.2
  have h2 := numsB_size hP.n
  have h3 := hP.l
  have hx60 := hx.ph
  have e4 : (ByteArray.mk #[112, 104, 105, 32]).size = 4 := rfl
  refine Ev.succ ?_
  show Ev (fun k => U37.l2_ k (U37.l0 k) (U37.l1 k) (U37.l2 k) (U37.l3 k) s a b _ fs f x) _
  unfold U37.l2_
  simp only [head_in hlt, head_0, Bool.and_self, cond_true, get_in hlt, wrap_nat (show i < 9223372036854775807 by omega)]
  refine Ev.bigT (by rw [e4]; omega) (Ev.bind (specDec hP.w.1 hP.w.2) (Ev.bigT (by show (s ++ phi4).size + (decB x.1[i].1).size ≤ _; rw [ByteArray.size_append, e4]; omega) (Ev.bind (specNums (by omega) hP.n) (Ev.bigT (by show ((s ++ phi4) ++ decB x.1[i].1).size + (numsB x.1[i].2.1).size ≤ _; rw [ByteArray.size_append, ByteArray.size_append, e4]; omega) (Ev.bigT (by show (((s ++ phi4) ++ decB x.1[i].1) ++ numsB x.1[i].2.1).size + 1 ≤ _; rw [ByteArray.size_append, ByteArray.size_append, ByteArray.size_append, e4]; omega) ?_)))))
  refine ih (i + 1) ((((s ++ phi4) ++ decB x.1[i].1) ++ numsB x.1[i].2.1) ++ nl) (by omega) (by rw [ByteArray.size_append, ByteArray.size_append, ByteArray.size_append, ByteArray.size_append, e4, nl_size]; omega) ?_
  rw [List.drop_eq_getElem_cons hlt] at h
  have e : s ++ phisL (x.1[i] :: x.1.drop (i + 1)) = ((((s ++ phi4) ++ decB x.1[i].1) ++ numsB x.1[i].2.1) ++ nl) ++ phisL (x.1.drop (i + 1)) := by
   show s ++ catT (phiL x.1[i] :: _) = _
   rw [catT_cons]
   show (s ++ (((phi4 ++ decB x.1[i].1) ++ numsB x.1[i].2.1) ++ nl)) ++ phisL (x.1.drop (i + 1)) = _
   simp only [ByteArray.append_assoc]
  rw [e] at h
  exact h
theorem specBlocks_t {a : Int} (hf : FT f) (ha0 : 0 ≤ a) (ha : a < 9223372036854775807) : ∀ (d i : Nat) (s : ByteArray), i + d = f.2.2.1.length → s.size + d * 24000 ≤ 700000000 → Ev (fun k => U37.l0 k (s ++ blocksL (f.2.2.1.drop i)) (a + 1) fs) r → Ev (fun k => U37.l1 k s a (i : Int) fs f) r := by
 intro d
 induction d with
 | zero =>
  intro i s hi hs h
  obtain rfl : i = f.2.2.1.length := by omega
  rw [List.drop_length] at h
  refine Ev.succ ?_
  show Ev (fun k => U37.l1_ k (U37.l0 k) (U37.l1 k) (U37.l2 k) (U37.l3 k) s a _ fs f) _
  unfold U37.l1_
  refine Ev.neg head_end ?_
  rw [wrap_id (x := a + 1) (by omega) (by omega)]
  have e : s ++ blocksL [] = s := catT_nil s
  rw [e] at h
  exact h
 | succ d ih =>
  intro i s hi hs h
  have hlt : i < f.2.2.1.length := by omega
  have hm : f.2.2.1[i] ∈ f.2.2.1 := List.getElem_mem hlt
  have hx := hf.b _ hm
  have h2 := blockL_size hx
  have h3 := hx.ph
  have h10 := hf.b10
  have e6 : block6.size = 6 := rfl
  refine Ev.succ ?_
  show Ev (fun k => U37.l1_ k (U37.l0 k) (U37.l1 k) (U37.l2 k) (U37.l3 k) s a _ fs f) _
  unfold U37.l1_
  simp only [head_in hlt, head_0, Bool.and_self, cond_true, get_in hlt]
  refine Ev.bigT (by show s.size + block6.size ≤ _; omega) ?_
  refine specPhis_t hx (by omega) (by omega) f.2.2.1[i].1.length 0 (s ++ block6) (by omega) (by rw [ByteArray.size_append]; omega) ?_
  rw [List.drop_zero]
  have e0 : (i : Int) + 1 = ((i + 1 : Nat) : Int) := by omega
  rw [e0]
  have e1 : (((s ++ block6) ++ phisL f.2.2.1[i].1) ++ instsL f.2.2.1[i].2.1) ++ termL f.2.2.1[i].2.2 = s ++ blockL f.2.2.1[i] := by
   unfold blockL; simp only [ByteArray.append_assoc]
  rw [e1]
  refine ih (i + 1) _ (by omega) (by rw [ByteArray.size_append]; omega) ?_
  rw [List.drop_eq_getElem_cons hlt] at h
  have e : s ++ blocksL (f.2.2.1[i] :: f.2.2.1.drop (i + 1)) = (s ++ blockL f.2.2.1[i]) ++ blocksL (f.2.2.1.drop (i + 1)) := catT_cons _ _ _
  rw [e] at h
  exact h
end
theorem specFuncs_t {l : List tFuncD} (hl : l.length ≤ 3) (hf : ∀ f ∈ l, FT f) : ∀ (d i : Nat) (s : ByteArray), i + d = l.length → s.size + d * 250000 ≤ 600000000 → Ev (fun k => U37.l0 k s (i : Int) l) (one (s ++ funcsL (l.drop i))) := by
 intro d
 induction d with
 | zero =>
  intro i s hi hs
  obtain rfl : i = l.length := by omega
  refine Ev.succ ?_
  show Ev (fun k => U37.l0_ k (U37.l0 k) (U37.l1 k) (U37.l2 k) (U37.l3 k) s _ l) _
  unfold U37.l0_
  refine Ev.neg head_end (Ev.cst ?_)
  rw [List.drop_length]
  have e : s ++ funcsL [] = s := catT_nil s
  rw [e]
 | succ d ih =>
  intro i s hi hs
  have hlt : i < l.length := by omega
  have hm : l[i] ∈ l := List.getElem_mem hlt
  have hx := hf _ hm
  have h1 := decB_size hx.r.1 hx.r.2
  have h2 := numsB_size hx.p
  have h4 := funcL_size hx
  have h5 := hx.p4
  have h6 := hx.b10
  have e5 : func5.size = 5 := rfl
  refine Ev.succ ?_
  show Ev (fun k => U37.l0_ k (U37.l0 k) (U37.l1 k) (U37.l2 k) (U37.l3 k) s _ l) _
  unfold U37.l0_
  simp only [head_in hlt, head_0, Bool.and_self, cond_true, get_in hlt]
  refine Ev.bigT (by show s.size + func5.size ≤ _; omega) (Ev.bind (specDec hx.r.1 hx.r.2) (Ev.bigT (by show (s ++ func5).size + (decB l[i].2.1).size ≤ _; rw [ByteArray.size_append]; omega) (Ev.bind (specNums (by omega) hx.p) (Ev.bigT (by show ((s ++ func5) ++ decB l[i].2.1).size + (numsB l[i].1).size ≤ _; rw [ByteArray.size_append, ByteArray.size_append]; omega) (Ev.bigT (by show (((s ++ func5) ++ decB l[i].2.1) ++ numsB l[i].1).size + 1 ≤ _; rw [ByteArray.size_append, ByteArray.size_append, ByteArray.size_append]; omega) ?_)))))
  refine specBlocks_t hx (by omega) (by omega) l[i].2.2.1.length 0 ((((s ++ func5) ++ decB l[i].2.1) ++ numsB l[i].1) ++ nl) (by omega) (by rw [ByteArray.size_append, ByteArray.size_append, ByteArray.size_append, ByteArray.size_append, nl_size]; omega) ?_
  rw [List.drop_zero]
  have e0 : (i : Int) + 1 = ((i + 1 : Nat) : Int) := by omega
  rw [e0]
  have e1 : ((((s ++ func5) ++ decB l[i].2.1) ++ numsB l[i].1) ++ nl) ++ blocksL l[i].2.2.1 = s ++ funcL l[i] := by
   unfold funcL; simp only [ByteArray.append_assoc]
  rw [e1]
  refine (ih (i + 1) (s ++ funcL l[i]) (by omega) (by rw [ByteArray.size_append]; omega)).rw ?_
  rw [List.drop_eq_getElem_cons hlt]
  exact congrArg one (catT_cons _ _ _).symm
theorem empty_app (s : ByteArray) : ByteArray.empty ++ s = s := ByteArray.empty_append
theorem specTextM {m : tModuleD} (hl : m.1.length ≤ 3) (hf : ∀ f ∈ m.1, FT f) : Ev (fun k => U37.f k m) (one (funcsL m.1)) := by
 unfold U37.f
 have e0 : ByteArray.empty.size = 0 := rfl
 refine (specFuncs_t hl hf m.1.length 0 ByteArray.empty (by omega) (by rw [e0]; omega)).rw ?_
 rw [List.drop_zero, empty_app]
theorem write_ev {R : Type} {t s : ByteArray} {f : Nat → WrR → Option R} {r : R} (h : s.size + t.size ≤ 1000000000) (e : Ev (fun k => f k ((((t.size : Int), ()), ((), ()), ()), (s ++ t, ()))) r) : Ev (fun k => Option.bind (strings_Builder_WriteString.f k t s) (f k)) r := by
 refine Ev.bind (Ev.all fun k => ?_) e
 show writeF t s = _
 unfold writeF
 rw [dpos (show s.size + t.size ≤ 140737488355328 by omega)]
 rfl
theorem string_ev {R : Type} {s : ByteArray} {f : Nat → RdR → Option R} {r : R} (e : Ev (fun k => f k (((s, ()), ()), (s, ()))) r) : Ev (fun k => Option.bind (strings_Builder_String.f k s) (f k)) r := Ev.bind (Ev.all fun k => rfl) e
theorem implTermT {t : tTermD} (h : TT t) : Ev (fun k => U79.f k t) (one (termT t)) := by
 have e1 : ret3.size = 3 := rfl
 have e2 : jump4.size = 4 := rfl
 have e3 : br6.size = 6 := rfl
 unfold U79.f termT
 by_cases c1 : t.1 = 1
 ·rw [dpos c1]
  exact Ev.bind (implLine (w := ret3) (by omega) (l := [t.2.1]) (by simp) (fun n hn => by rw [List.mem_singleton.1 hn]; exact h.a)) (Ev.cst rfl)
 ·rw [dneg c1]
  by_cases c2 : t.1 = 2
  ·rw [dpos c2]
   exact Ev.bind (implLine (w := jump4) (by omega) (l := [t.2.2.1]) (by simp) (fun n hn => by rw [List.mem_singleton.1 hn]; exact h.b)) (Ev.cst rfl)
  ·rw [dneg c2]
   by_cases c3 : t.1 = 3
   ·rw [dpos c3]
    refine Ev.bind (implLine (w := br6) (by omega) (l := [t.2.1, t.2.2.1, t.2.2.2.1]) (by simp) (fun n hn => ?_)) (Ev.cst rfl)
    simp only [List.mem_cons, List.not_mem_nil, or_false] at hn
    rcases hn with rfl | rfl | rfl
    ·exact h.a
    ·exact h.b
    ·exact h.c
   ·rw [dneg c3]
    exact Ev.cst rfl
section
variable {r : (((ByteArray × Unit) × Unit) × Unit)} {fs : List tFuncD} {f : tFuncD} {x : tBlockD} {bs : List tBlockD}
theorem implInsts_t {m a n b : Int} (hx : BT' x) (hb0 : 0 ≤ b) (hb : b < 9223372036854775807) : ∀ (d i : Nat) (s : ByteArray), i + d = x.2.1.length → s.size + d * 141 ≤ 900000000 → Ev (fun k => U80.l1 k fs m a bs n (b + 1) ((s ++ instsL (x.2.1.drop i)) ++ termL x.2.2)) r → Ev (fun k => U80.l3 k fs m a bs n b x.2.1 ((x.2.1.length : Nat) : Int) (i : Int) s x) r := by
 intro d
 induction d with
 | zero =>
  intro i s hi hs h
  obtain rfl : i = x.2.1.length := by omega
  rw [List.drop_length] at h
  refine Ev.succ ?_
  show Ev (fun k => U80.l3_ k (U80.l0 k) (U80.l1 k) (U80.l2 k) (U80.l3 k) fs m a bs n b x.2.1 _ _ s x) _
  unfold U80.l3_
  have ht := termT_size hx.t
  refine Ev.neg head_end (Ev.bind (implTermT hx.t) (Ev.bigT (by show (termT x.2.2).size + 1 ≤ _; omega) (write_ev (by show s.size + (termT x.2.2 ++ nl).size ≤ _; rw [ByteArray.size_append, nl_size]; omega) ?_)))
  rw [wrap_id (x := b + 1) (by omega) (by omega)]
  have e : (s ++ instsL []) ++ termL x.2.2 = s ++ (termT x.2.2 ++ nl) := by
   show (s ++ catT []) ++ (termT x.2.2 ++ nl) = _
   rw [catT_nil]
  rw [e] at h
  exact h
 | succ d ih =>
  intro i s hi hs h
  have hlt : i < x.2.1.length := by omega
  have hm : x.2.1[i] ∈ x.2.1 := List.getElem_mem hlt
  have hT := hx.i _ hm
  have hsz := textI_size hT
  have hx60 := hx.ins
  refine Ev.succ ?_
  show Ev (fun k => U80.l3_ k (U80.l0 k) (U80.l1 k) (U80.l2 k) (U80.l3 k) fs m a bs n b x.2.1 _ _ s x) _
  unfold U80.l3_
  simp only [head_in hlt, head_0, Bool.and_self, cond_true, get_in hlt, wrap_nat (show i < 9223372036854775807 by omega)]
  refine Ev.bind (implText hT) (Ev.bigT (by show (textI x.2.1[i]).size + 1 ≤ _; omega) (write_ev (by show s.size + (textI x.2.1[i] ++ nl).size ≤ _; rw [ByteArray.size_append, nl_size]; omega) ?_))
  refine ih (i + 1) (s ++ (textI x.2.1[i] ++ nl)) (by omega) (by rw [ByteArray.size_append, ByteArray.size_append, nl_size]; omega) ?_
  rw [List.drop_eq_getElem_cons hlt] at h
  have e : s ++ instsL (x.2.1[i] :: x.2.1.drop (i + 1)) = (s ++ (textI x.2.1[i] ++ nl)) ++ instsL (x.2.1.drop (i + 1)) := catT_cons _ _ _
  rw [e] at h
  exact h
theorem implPhis_t {m a n b : Int} (hx : BT' x) (hb0 : 0 ≤ b) (hb : b < 9223372036854775807) : ∀ (d i : Nat) (s : ByteArray), i + d = x.1.length → s.size + d * 240 ≤ 800000000 → Ev (fun k => U80.l1 k fs m a bs n (b + 1) (((s ++ phisL (x.1.drop i)) ++ instsL x.2.1) ++ termL x.2.2)) r → Ev (fun k => U80.l2 k fs m a bs n b x.1 ((x.1.length : Nat) : Int) (i : Int) s x) r := by
 intro d
 induction d with
 | zero =>
  intro i s hi hs h
  obtain rfl : i = x.1.length := by omega
  rw [List.drop_length] at h
  refine Ev.succ ?_
  show Ev (fun k => U80.l2_ k (U80.l0 k) (U80.l1 k) (U80.l2 k) (U80.l3 k) fs m a bs n b x.1 _ _ s x) _
  unfold U80.l2_
  have hi6 := hx.ins
  refine Ev.neg head_end ?_
  have e : s ++ phisL [] = s := catT_nil s
  rw [e] at h
  refine implInsts_t hx hb0 hb x.2.1.length 0 s (by omega) (by omega) ?_
  exact h
 | succ d ih =>
  intro i s hi hs h
  have hlt : i < x.1.length := by omega
  have hm : x.1[i] ∈ x.1 := List.getElem_mem hlt
  have hP := hx.p _ hm
  have hL := phiL_size hP
  have h1 := numB_size hP.w
  have h3 := hP.l
  have hx60 := hx.ph
  have e3 : (ByteArray.mk #[112, 104, 105]).size = 3 := rfl
  have j : ByteArray.mk #[112, 104, 105, 32] = ByteArray.mk #[112, 104, 105] ++ blank := by decide
  have e1 : ((ByteArray.mk #[112, 104, 105] ++ numsB [x.1[i].1]) ++ numsB x.1[i].2.1) ++ nl = phiL x.1[i] := by
   unfold phiL phi4
   rw [nums1, j]
   unfold numB
   simp only [ByteArray.append_assoc]
  have hs1 : (((ByteArray.mk #[112, 104, 105] ++ numsB [x.1[i].1]) ++ numsB x.1[i].2.1) ++ nl).size ≤ 240 := by rw [e1]; exact hL
  have hs2 : ((ByteArray.mk #[112, 104, 105] ++ numsB [x.1[i].1]) ++ numsB x.1[i].2.1).size + 1 ≤ 240 := by rw [ByteArray.size_append, nl_size] at hs1; exact hs1
  refine Ev.succ ?_
  show Ev (fun k => U80.l2_ k (U80.l0 k) (U80.l1 k) (U80.l2 k) (U80.l3 k) fs m a bs n b x.1 _ _ s x) _
  unfold U80.l2_
  simp only [head_in hlt, head_0, Bool.and_self, cond_true, get_in hlt, wrap_nat (show i < 9223372036854775807 by omega)]
  refine Ev.bind (implLine (by omega) (l := [x.1[i].1]) (by simp) (fun n hn => by rw [List.mem_singleton.1 hn]; exact hP.w)) (Ev.bind (implLine (w := ByteArray.mk #[112, 104, 105] ++ numsB [x.1[i].1]) (by rw [ByteArray.size_append, nums1, e3]; omega) (by omega) hP.n) (Ev.bigT (by show ((ByteArray.mk #[112, 104, 105] ++ numsB [x.1[i].1]) ++ numsB x.1[i].2.1).size + 1 ≤ _; omega) (write_ev (by show s.size + (((ByteArray.mk #[112, 104, 105] ++ numsB [x.1[i].1]) ++ numsB x.1[i].2.1) ++ nl).size ≤ _; omega) ?_)))
  have ih1 := ih (i + 1) (s ++ phiL x.1[i]) (by omega) (by rw [ByteArray.size_append]; omega) (by
   rw [List.drop_eq_getElem_cons hlt] at h
   have e : s ++ phisL (x.1[i] :: x.1.drop (i + 1)) = (s ++ phiL x.1[i]) ++ phisL (x.1.drop (i + 1)) := catT_cons _ _ _
   rw [e] at h
   exact h)
  rw [← e1] at ih1
  exact ih1
theorem implBlocks_t {m a : Int} (hf : FT f) (ha0 : 0 ≤ a) (ha : a < 9223372036854775807) : ∀ (d i : Nat) (s : ByteArray), i + d = f.2.2.1.length → s.size + d * 24000 ≤ 700000000 → Ev (fun k => U80.l0 k fs m (a + 1) (s ++ blocksL (f.2.2.1.drop i))) r → Ev (fun k => U80.l1 k fs m a f.2.2.1 ((f.2.2.1.length : Nat) : Int) (i : Int) s) r := by
 intro d
 induction d with
 | zero =>
  intro i s hi hs h
  obtain rfl : i = f.2.2.1.length := by omega
  rw [List.drop_length] at h
  refine Ev.succ ?_
  show Ev (fun k => U80.l1_ k (U80.l0 k) (U80.l1 k) (U80.l2 k) (U80.l3 k) fs m a _ _ _ s) _
  unfold U80.l1_
  refine Ev.neg head_end ?_
  rw [wrap_id (x := a + 1) (by omega) (by omega)]
  have e : s ++ blocksL [] = s := catT_nil s
  rw [e] at h
  exact h
 | succ d ih =>
  intro i s hi hs h
  have hlt : i < f.2.2.1.length := by omega
  have hm : f.2.2.1[i] ∈ f.2.2.1 := List.getElem_mem hlt
  have hx := hf.b _ hm
  have h2 := blockL_size hx
  have h3 := hx.ph
  have h10 := hf.b10
  have e6 : block6.size = 6 := rfl
  refine Ev.succ ?_
  show Ev (fun k => U80.l1_ k (U80.l0 k) (U80.l1 k) (U80.l2 k) (U80.l3 k) fs m a _ _ _ s) _
  unfold U80.l1_
  simp only [head_in hlt, head_0, Bool.and_self, cond_true, get_in hlt]
  refine write_ev (by show s.size + block6.size ≤ _; omega) ?_
  refine implPhis_t hx (by omega) (by omega) f.2.2.1[i].1.length 0 (s ++ block6) (by omega) (by rw [ByteArray.size_append]; omega) ?_
  rw [List.drop_zero]
  have e0 : (i : Int) + 1 = ((i + 1 : Nat) : Int) := by omega
  rw [e0]
  have e1 : (((s ++ block6) ++ phisL f.2.2.1[i].1) ++ instsL f.2.2.1[i].2.1) ++ termL f.2.2.1[i].2.2 = s ++ blockL f.2.2.1[i] := by
   unfold blockL; simp only [ByteArray.append_assoc]
  rw [e1]
  refine ih (i + 1) _ (by omega) (by rw [ByteArray.size_append]; omega) ?_
  rw [List.drop_eq_getElem_cons hlt] at h
  have e : s ++ blocksL (f.2.2.1[i] :: f.2.2.1.drop (i + 1)) = (s ++ blockL f.2.2.1[i]) ++ blocksL (f.2.2.1.drop (i + 1)) := catT_cons _ _ _
  rw [e] at h
  exact h
end
theorem implFuncs_t {l : List tFuncD} (hl : l.length ≤ 3) (hf : ∀ f ∈ l, FT f) : ∀ (d i : Nat) (s : ByteArray), i + d = l.length → s.size + d * 250000 ≤ 600000000 → Ev (fun k => U80.l0 k l ((l.length : Nat) : Int) (i : Int) s) (one (s ++ funcsL (l.drop i))) := by
 intro d
 induction d with
 | zero =>
  intro i s hi hs
  obtain rfl : i = l.length := by omega
  refine Ev.succ ?_
  show Ev (fun k => U80.l0_ k (U80.l0 k) (U80.l1 k) (U80.l2 k) (U80.l3 k) l _ _ s) _
  unfold U80.l0_
  refine Ev.neg head_end (string_ev (Ev.cst ?_))
  rw [List.drop_length]
  have e : s ++ funcsL [] = s := catT_nil s
  rw [e]
 | succ d ih =>
  intro i s hi hs
  have hlt : i < l.length := by omega
  have hm : l[i] ∈ l := List.getElem_mem hlt
  have hx := hf _ hm
  have h1 := numB_size hx.r
  have h2 := numsB_size hx.p
  have h4 := funcL_size hx
  have h5 := hx.p4
  have h6 := hx.b10
  have e4 : (ByteArray.mk #[102, 117, 110, 99]).size = 4 := rfl
  have j : ByteArray.mk #[102, 117, 110, 99, 32] = ByteArray.mk #[102, 117, 110, 99] ++ blank := by decide
  have e1 : (((ByteArray.mk #[102, 117, 110, 99] ++ numsB [l[i].2.1]) ++ numsB l[i].1) ++ nl) ++ blocksL l[i].2.2.1 = funcL l[i] := by
   unfold funcL func5
   rw [nums1, j]
   unfold numB
   simp only [ByteArray.append_assoc]
  have hs2 : ((ByteArray.mk #[102, 117, 110, 99] ++ numsB [l[i].2.1]) ++ numsB l[i].1).size + 1 ≤ 400 := by
   rw [ByteArray.size_append, ByteArray.size_append, nums1, e4]; omega
  have hs1 : (((ByteArray.mk #[102, 117, 110, 99] ++ numsB [l[i].2.1]) ++ numsB l[i].1) ++ nl).size ≤ 400 := by rw [ByteArray.size_append, nl_size]; exact hs2
  refine Ev.succ ?_
  show Ev (fun k => U80.l0_ k (U80.l0 k) (U80.l1 k) (U80.l2 k) (U80.l3 k) l _ _ s) _
  unfold U80.l0_
  simp only [head_in hlt, head_0, Bool.and_self, cond_true, get_in hlt]
  refine Ev.bind (implLine (by omega) (l := [l[i].2.1]) (by simp) (fun n hn => by rw [List.mem_singleton.1 hn]; exact hx.r)) (Ev.bind (implLine (w := ByteArray.mk #[102, 117, 110, 99] ++ numsB [l[i].2.1]) (by rw [ByteArray.size_append, nums1, e4]; omega) (by omega) hx.p) (Ev.bigT (by show ((ByteArray.mk #[102, 117, 110, 99] ++ numsB [l[i].2.1]) ++ numsB l[i].1).size + 1 ≤ _; omega) (write_ev (by show s.size + (((ByteArray.mk #[102, 117, 110, 99] ++ numsB [l[i].2.1]) ++ numsB l[i].1) ++ nl).size ≤ _; omega) ?_)))
  refine implBlocks_t hx (by omega) (by omega) l[i].2.2.1.length 0 (s ++ (((ByteArray.mk #[102, 117, 110, 99] ++ numsB [l[i].2.1]) ++ numsB l[i].1) ++ nl)) (by omega) (by rw [ByteArray.size_append]; omega) ?_
  rw [List.drop_zero]
  have e0 : (i : Int) + 1 = ((i + 1 : Nat) : Int) := by omega
  rw [e0]
  have e2 : (s ++ (((ByteArray.mk #[102, 117, 110, 99] ++ numsB [l[i].2.1]) ++ numsB l[i].1) ++ nl)) ++ blocksL l[i].2.2.1 = s ++ funcL l[i] := by
   rw [← e1]; simp only [ByteArray.append_assoc]
  rw [e2]
  refine (ih (i + 1) (s ++ funcL l[i]) (by omega) (by rw [ByteArray.size_append]; omega)).rw ?_
  rw [List.drop_eq_getElem_cons hlt]
  exact congrArg one (catT_cons _ _ _).symm
theorem implTextM {m : tModuleD} (hl : m.1.length ≤ 3) (hf : ∀ f ∈ m.1, FT f) : Ev (fun k => U80.f k m) (one (funcsL m.1)) := by
 unfold U80.f
 have e0 : ByteArray.empty.size = 0 := rfl
 refine (implFuncs_t hl hf m.1.length 0 ByteArray.empty (by omega) (by rw [e0]; omega)).rw ?_
 rw [List.drop_zero, empty_app]
def modT (m : tModuleD) : ByteArray := bif shapeB m then funcsL m.1 else ByteArray.empty
theorem shape_ft {m : tModuleD} (h : shapeB m = true) : m.1.length ≤ 3 ∧ ∀ f ∈ m.1, FT f := by
 simp only [shapeB, Bool.and_eq_true, inB_iff, List.all_eq_true] at h
 exact ⟨by omega, fun f hf => FT.of (by omega) (h.2 f hf)⟩
theorem specModT {m : tModuleD} (hm : Small tModule m) : Ev (fun k => U38.f k m) (one (modT m)) := by
 unfold U38.f modT
 refine Ev.bind (specShape hm) ?_
 cases h : shapeB m with
 | false => exact Ev.pos rfl (Ev.cst rfl)
 | true =>
  obtain ⟨hl, hf⟩ := shape_ft h
  exact Ev.neg rfl (Ev.bind (specTextM hl hf) (Ev.cst rfl))
theorem implModT {m : tModuleD} (hm : Small tModule m) : Ev (fun k => U81.f k m) (one (modT m)) := by
 unfold U81.f modT
 refine Ev.bind (implShape hm) ?_
 cases h : shapeB m with
 | false => exact Ev.pos rfl (Ev.cst rfl)
 | true =>
  obtain ⟨hl, hf⟩ := shape_ft h
  exact Ev.neg rfl (Ev.bind (implTextM hl hf) (Ev.cst rfl))
theorem strEq_self (s : ByteArray) : strEq s s = true := by simp [strEq]
theorem PureFnExactModuleText : ∀ (a0 : tModuleD), Wf tModule a0 → ∃ k, laws_FnExactModuleText.f k a0 = some (((true, ()), ()), ()) := by
 intro a hw
 refine Ev.ex (g := fun k => laws_FnExactModuleText.f k a) ?_
 unfold laws_FnExactModuleText.f
 refine law_frame hw fun h => ?_
 refine Ev.bind (toModule h) (Ev.bind (specModT h) (Ev.bind (toModule h) (Ev.bind (implModT h) (Ev.neg ?_ (law_end h)))))
 show (!strEq (modT a) (modT a)) = false
 rw [strEq_self]; rfl
theorem gPow : Tryz.prog.globalNamed "internal/strconv.uint64pow10" = some 0 := by kernel_rfl
theorem gPowType : (Tryz.prog.globals[0]?).map (·.type) = some 139 := by kernel_rfl
theorem lpD {W : World} (hm : ∃ m, W.cell? ⟨3, 0, none⟩ = some (.int .i64 m)) (ht : Lib.TabIs Tryz.prog W "internal/strconv.uint64pow10" .u64 Lib.pow10Tab) : LX (gh0 W).F W := by
 obtain ⟨m, hm⟩ := hm
 have h3 : 3 < W.heap.size := World.block_lt_of_cell? W _ hm
 have ht' := ht
 unfold Lib.TabIs World.var? at ht'
 rw [gPow, Option.bind_some] at ht'
 have h2 : 0 < W.heap.size := by
  by_cases h : 0 < W.heap.size
  ·exact h
  ·rw [Array.getElem?_eq_none (by omega)] at ht'; cases ht'
 refine ⟨[(3, W.heap[3]), (0, W.heap[0])], fun w hw => ⟨⟨m, ?_⟩, ?_⟩, ?_⟩
 ·have e := hw (3, W.heap[3]) (by simp)
  have e' : w.heap[3]? = W.heap[3]? := e.trans (Array.getElem?_eq_getElem h3).symm
  rw [← hm]
  unfold World.cell?
  rw [e']
 ·have e := hw (0, W.heap[0]) (by simp)
  have e' : w.heap[0]? = W.heap[0]? := e.trans (Array.getElem?_eq_getElem h2).symm
  unfold Lib.TabIs World.var?
  rw [gPow, Option.bind_some, e']
  exact ht'
 ·intro x hx
  rcases List.mem_cons.1 hx with rfl | hx
  ·exact ⟨h3, Array.getElem?_eq_getElem h3⟩
  ·rw [List.mem_singleton.1 hx]
   exact ⟨h2, Array.getElem?_eq_getElem h2⟩
/-- The table of a row's list, wherever it stands on it. -/
theorem tabD {W : World} {d : DataW Unit} {rest : List (String × DataW Unit)} {ps : List MemPlace} (hd : d = Lib.tabData .u64 Lib.pow10Tab) (h : DataW.LaidVars Tryz.prog W (("internal/strconv.uint64pow10", d) :: rest) ps) : Lib.TabIs Tryz.prog W "internal/strconv.uint64pow10" .u64 Lib.pow10Tab := by
 obtain ⟨g', t', cs, fuel, p, q, hg', ht', hvar, hd', _, _⟩ := h
 obtain rfl := Option.some.inj (gPow.symm.trans hg')
 obtain rfl := Option.some.inj (gPowType.symm.trans ht')
 rw [hd] at hd'
 unfold Lib.TabIs
 rw [hvar, ← Lib.cells_of_tab Tryz.underlying139 (by kernel_rfl) (by kernel_rfl) (by kernel_rfl) hd']
theorem laid_next {W : World} {x : String × DataW Unit} {rest : List (String × DataW Unit)} {ps : List MemPlace} (h : DataW.LaidVars Tryz.prog W (x :: rest) ps) : ∃ q, DataW.LaidVars Tryz.prog W rest q := by
 obtain ⟨_, _, _, _, _, q, _, _, _, _, h, _⟩ := h
 exact ⟨q, h⟩
/-- The cells of a table of numbers, and of a table of rows of numbers. -/
def flat1 : DataW Unit → List Value
 | .lit (.int k z) => [.int k z]
 | _ => []
def flat2 : DataW Unit → List Value
 | .agg l => l.flatMap flat1
 | d => flat1 d
def flat3 : DataW Unit → List Value
 | .agg l => l.flatMap flat2
 | d => flat1 d
def lay1 (h : Array Go.Obj) (g : Nat) (d : DataW Unit) : Array Go.Obj := h.modify g fun
 | .cells _ t fr => .cells (flat3 d).toArray t fr
 | o => o
end
end Go.Proofs.YtlledfaplcgmdaaGreatDoor.V
