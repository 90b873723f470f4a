/- PROVED HERE: what the functions that the law FnExactKeyOf reaches do in memory, each as a plain Lean function, and what these tell: part 4 of 5 of the proof of that law; no condition beyond those written out at each theorem. -/
import Derived.Deep.Slices
import Derived.ProofKit
import Derived.Test.YtebgkcjpocfmmaaGreatDoorZFnExactKeyOf0
import Derived.Test.YtebgkcjpocfmmaaGreatDoorZFnExactKeyOf2
namespace Go.Proofs.YtebgkcjpocfmmaaGreatDoor.V
open Go
set_option linter.unusedVariables false
set_option linter.unusedSimpArgs false
noncomputable section
namespace U72
abbrev R := (((Int × Int × Int × Int × Int × Int × (List Int) × Unit) × (Bool × Unit) × Unit) × Unit)
def f (k : Nat) (a0 : tFuncD) (a1 : Int) : Option R := Option.bind (U71.f k a0 a1) fun r1 => bif decide (r1.1.1.1 < 0) then (some (((0, 0, 0, 0, 0, 0, ([] : List Int), ()), (false, ()), ()), ())) else (bif (decide (0 ≤ r1.1.1.1)) && (decide (r1.1.1.1 < ((List.length a0.2.2.1 : Nat) : Int))) then (bif decide (r1.1.2.1.1 < ((List.length ((List.getD a0.2.2.1 (Int.toNat r1.1.1.1) tBlockZ).1) : Nat) : Int)) then (some (((0, 0, 0, 0, 0, 0, ([] : List Int), ()), (false, ()), ()), ())) else (bif (decide (0 ≤ r1.1.1.1)) && (decide (r1.1.1.1 < ((List.length a0.2.2.1 : Nat) : Int))) then (bif (decide (0 ≤ r1.1.1.1)) && (decide (r1.1.1.1 < ((List.length a0.2.2.1 : Nat) : Int))) then (bif (decide (0 ≤ IntKind.wrap .i64 (r1.1.2.1.1 - ((List.length ((List.getD a0.2.2.1 (Int.toNat r1.1.1.1) tBlockZ).1) : Nat) : Int)))) && (decide (IntKind.wrap .i64 (r1.1.2.1.1 - ((List.length ((List.getD a0.2.2.1 (Int.toNat r1.1.1.1) tBlockZ).1) : Nat) : Int)) < ((List.length ((List.getD a0.2.2.1 (Int.toNat r1.1.1.1) tBlockZ).2.1) : Nat) : Int))) then (some (((List.getD ((List.getD a0.2.2.1 (Int.toNat r1.1.1.1) tBlockZ).2.1) (Int.toNat (IntKind.wrap .i64 (r1.1.2.1.1 - ((List.length ((List.getD a0.2.2.1 (Int.toNat r1.1.1.1) tBlockZ).1) : Nat) : Int)))) tInstZ), (true, ()), ()), ())) else none) else none) else none)) else none)
abbrev S : ShapeParts := ⟨[⟨true, [.lst (.int .i64), .int .i64, .lst tBlock]⟩, ⟨false, [.int .i64]⟩], [], true, [⟨true, [.int .i64, .int .i64, .int .i64, .int .i64, .int .i64, .int .i64, .lst (.int .i64)]⟩, ⟨false, [.bool]⟩], [], []⟩
def s (k : Nat) : FS := S.fs fun x => f k x.1.1 x.1.2.1.1
def E (k : Nat) : Ents := [(⟨115, []⟩, U71.s k)]
def L : List (LS R) := []
def c : Code := Tryz.f67.body.getD .skip
theorem eq (k : Nat) (x) : (s k).pf x = execF tab (E k) Tryz.f67 c (s k) L x := by kernel_rfl
theorem sound : ∀ k, Sound Tryz.prog 67 (s k) := snd S (fun k => (s k).pf) E (fun k => (EntsOK.cons (U71.sound k) EntsOK.nil)) (fun k => L) (fun k => trivial) eq
end U72
namespace U73
abbrev R := (((Int × Unit) × Unit) × Unit)
abbrev T0 : Type := (List Int) → Int → Int → Int → Option R
def l0_ (k : Nat) (l0 : T0) (a0 : List Int) (a1 : Int) (a2 : Int) (a3 : Int) : Option R := bif decide (a3 < a2) then (bif (decide (0 ≤ a3)) && (decide (a3 < ((List.length a0 : Nat) : Int))) then (bif decide (a1 = List.getD a0 (Int.toNat a3) 0) then (some (((a3, ()), ()), ())) else (l0 a0 a1 a2 (IntKind.wrap .i64 (a3 + 1)))) else none) else (some (((-1, ()), ()), ()))
def all : Nat → (T0) × Unit
 | 0 => (fun _ _ _ _ => none, ())
 | k + 1 => (l0_ k (all k).1, ())
def l0 (k : Nat) : T0 := (all k).1
def f (k : Nat) (a0 : List Int) (a1 : Int) : Option R := l0 k a0 a1 ((List.length a0 : Nat) : Int) 0
abbrev S : ShapeParts := ⟨[⟨false, [.lst (.int .i64)]⟩, ⟨false, [.int .i64]⟩], [], false, [⟨false, [.int .i64]⟩], [], []⟩
def s (k : Nat) : FS := S.fs fun x => f k x.1.1.1 x.1.2.1.1
def E (k : Nat) : Ents := []
def L0 (l : T0) : LS R := ⟨[], [(0, ⟨false, [.lst (.int .i64)]⟩), (1, ⟨false, [.int .i64]⟩), (7, ⟨false, [.int .i64]⟩), (8, ⟨false, [.int .i64]⟩)], [], fun x => l x.1.1.1 x.1.2.1.1 x.1.2.2.1.1 x.1.2.2.2.1.1⟩
def L (l0 : T0) : List (LS R) := [L0 l0]
def c : Code := Tryz.f145.body.getD .skip
theorem eq (k : Nat) (x) : (s k).pf x = execF tab (E k) Tryz.f145 c (s k) (L (l0 k)) x := by kernel_rfl
theorem r0 (l0 : T0) (k : Nat) (x) : (L0 (l0_ k l0)).l x = roundOf tab (E k) (L l0) c (fin tab Tryz.f145 (s k)) 0 (L0 l0) x := by kernel_rfl
theorem sound : ∀ k, Sound Tryz.prog 145 (s k) := snd S (fun k => (s k).pf) E (fun k => EntsOK.nil) (fun k => L (l0 k)) (fun k => ⟨⟨(L0 (l0 (k + 1))).l, rfl, fun x => r0 (l0 k) k x⟩, trivial⟩) eq
end U73
namespace U74
abbrev R := (((Bool × Unit) × Unit) × Unit)
def f (k : Nat) (a0 : List Int) (a1 : Int) : Option R := Option.bind (U73.f k a0 a1) fun r1 => some (((decide (0 ≤ r1.1.1.1), ()), ()), ())
abbrev S : ShapeParts := ⟨[⟨false, [.lst (.int .i64)]⟩, ⟨false, [.int .i64]⟩], [], false, [⟨false, [.bool]⟩], [], []⟩
def s (k : Nat) : FS := S.fs fun x => f k x.1.1.1 x.1.2.1.1
def E (k : Nat) : Ents := [(⟨145, []⟩, U73.s k)]
def L : List (LS R) := []
def c : Code := Tryz.f116.body.getD .skip
theorem eq (k : Nat) (x) : (s k).pf x = execF tab (E k) Tryz.f116 c (s k) L x := by kernel_rfl
theorem sound : ∀ k, Sound Tryz.prog 116 (s k) := snd S (fun k => (s k).pf) E (fun k => (EntsOK.cons (U73.sound k) EntsOK.nil)) (fun k => L) (fun k => trivial) eq
end U74
namespace U75
abbrev R := (((Bool × Unit) × Unit) × Unit)
def f (k : Nat) (a0 : Int) (a1 : List Int) : Option R := Option.bind (U74.f k a1 a0) fun r1 => some (((r1.1.1.1, ()), ()), ())
abbrev S : ShapeParts := ⟨[⟨false, [.int .i64]⟩, ⟨false, [.lst (.int .i64)]⟩], [], false, [⟨false, [.bool]⟩], [], []⟩
def s (k : Nat) : FS := S.fs fun x => f k x.1.1.1 x.1.2.1.1
def E (k : Nat) : Ents := [(⟨116, []⟩, U74.s k)]
def L : List (LS R) := []
def c : Code := Tryz.f68.body.getD .skip
theorem eq (k : Nat) (x) : (s k).pf x = execF tab (E k) Tryz.f68 c (s k) L x := by kernel_rfl
theorem sound : ∀ k, Sound Tryz.prog 68 (s k) := snd S (fun k => (s k).pf) E (fun k => (EntsOK.cons (U74.sound k) EntsOK.nil)) (fun k => L) (fun k => trivial) eq
end U75
namespace U76
abbrev R := (((Unit × Unit) × Unit) × ((List ByteArray) × Unit))
set_option maxRecDepth 100000 in
def f (k : Nat) : Option R := Option.bind (strings_Split.f k (ByteArray.mk #[97, 100, 100, 32, 115, 117, 98, 32, 109, 117, 108, 32, 117, 100, 105, 118, 32, 115, 100, 105, 118, 32, 117, 114, 101, 109, 32, 115, 114, 101, 109, 32, 97, 110, 100, 32, 111, 114, 32, 120, 111, 114, 32, 115, 104, 108, 32, 108, 115, 104, 114, 32, 97, 115, 104, 114, 32, 101, 113, 32, 110, 101, 32, 117, 108, 116, 32, 115, 108, 116, 32, 122, 101, 120, 116, 32, 115, 101, 120, 116, 32, 116, 114, 117, 110, 99, 32, 99, 111, 110, 115, 116, 32, 115, 101, 108, 101, 99, 116, 32, 108, 111, 97, 100, 32, 115, 116, 111, 114, 101, 32, 112, 114, 105, 110, 116, 32, 99, 97, 108, 108, 32, 99, 111, 112, 121]) (ByteArray.mk #[32])) fun r1 => some ((((), ()), ()), (r1.2.1, ()))
abbrev S : ShapeParts := ⟨[], [], false, [⟨false, [.own 100]⟩], [(100, .row true .str)], []⟩
def s (k : Nat) : FS := S.fs fun x => f k
def E (k : Nat) : Ents := [(⟨147, []⟩, strings_Split.s k)]
def L : List (LS R) := []
def c : Code := Tryz.f118.body.getD .skip
set_option maxRecDepth 100000 in
theorem eq (k : Nat) (x) : (s k).pf x = execF tab (E k) Tryz.f118 c (s k) L x := by kernel_rfl
set_option maxRecDepth 100000 in
theorem sound : ∀ k, Sound Tryz.prog 118 (s k) := snd S (fun k => (s k).pf) E (fun k => (EntsOK.cons (strings_Split.sound k) EntsOK.nil)) (fun k => L) (fun k => trivial) eq
end U76
namespace U77
abbrev R := (((ByteArray × Unit) × Unit) × Unit)
abbrev T0 : Type := ByteArray → (List Int) → Int → Int → Option R
def l0_ (k : Nat) (l0 : T0) (a0 : ByteArray) (a1 : List Int) (a2 : Int) (a3 : Int) : Option R := bif decide (a3 < a2) then (bif (decide (0 ≤ a3)) && (decide (a3 < ((List.length a1 : Nat) : Int))) then (Option.bind (strconv_FormatInt.f k (List.getD a1 (Int.toNat a3) 0) 10) fun r1 => bif decide (ByteArray.size (ByteArray.mk #[32]) + ByteArray.size r1.1.1.1 ≤ big) then (bif decide (ByteArray.size a0 + ByteArray.size ((ByteArray.mk #[32]) ++ r1.1.1.1) ≤ big) then (l0 (a0 ++ ((ByteArray.mk #[32]) ++ r1.1.1.1)) a1 a2 (IntKind.wrap .i64 (a3 + 1))) else none) else none) else none) else (some (((a0, ()), ()), ()))
def all : Nat → (T0) × Unit
 | 0 => (fun _ _ _ _ => none, ())
 | k + 1 => (l0_ k (all k).1, ())
def l0 (k : Nat) : T0 := (all k).1
def f (k : Nat) (a0 : ByteArray) (a1 : List Int) : Option R := l0 k a0 a1 ((List.length a1 : Nat) : Int) 0
abbrev S : ShapeParts := ⟨[⟨false, [.str]⟩, ⟨false, [.lst (.int .i64)]⟩], [], false, [⟨false, [.str]⟩], [], []⟩
def s (k : Nat) : FS := S.fs fun x => f k x.1.1.1 x.1.2.1.1
def E (k : Nat) : Ents := [(⟨146, []⟩, strconv_FormatInt.s k)]
def L0 (l : T0) : LS R := ⟨[], [(0, ⟨false, [.str]⟩), (7, ⟨false, [.lst (.int .i64)]⟩), (8, ⟨false, [.int .i64]⟩), (9, ⟨false, [.int .i64]⟩)], [], fun x => l x.1.1.1 x.1.2.1.1 x.1.2.2.1.1 x.1.2.2.2.1.1⟩
def L (l0 : T0) : List (LS R) := [L0 l0]
def c : Code := Tryz.f117.body.getD .skip
theorem eq (k : Nat) (x) : (s k).pf x = execF tab (E k) Tryz.f117 c (s k) (L (l0 k)) x := by kernel_rfl
theorem r0 (l0 : T0) (k : Nat) (x) : (L0 (l0_ k l0)).l x = roundOf tab (E k) (L l0) c (fin tab Tryz.f117 (s k)) 0 (L0 l0) x := by kernel_rfl
theorem sound : ∀ k, Sound Tryz.prog 117 (s k) := snd S (fun k => (s k).pf) E (fun k => (EntsOK.cons (strconv_FormatInt.sound k) EntsOK.nil)) (fun k => L (l0 k)) (fun k => ⟨⟨(L0 (l0 (k + 1))).l, rfl, fun x => r0 (l0 k) k x⟩, trivial⟩) eq
end U77
namespace U78
abbrev R := (((Bool × Unit) × Unit) × Unit)
def f (k : Nat) (a0 : Int) : Option R := bif decide (a0 = 21) then (some (((true, ()), ()), ())) else (some (((decide (a0 = 26), ()), ()), ()))
abbrev S : ShapeParts := ⟨[⟨false, [.int .i64]⟩], [], false, [⟨false, [.bool]⟩], [], []⟩
def s (k : Nat) : FS := S.fs fun x => f k x.1.1.1
def E (k : Nat) : Ents := []
def L : List (LS R) := []
def c : Code := Tryz.f119.body.getD .skip
theorem eq (k : Nat) (x) : (s k).pf x = execF tab (E k) Tryz.f119 c (s k) L x := by kernel_rfl
theorem sound : ∀ k, Sound Tryz.prog 119 (s k) := snd S (fun k => (s k).pf) E (fun k => EntsOK.nil) (fun k => L) (fun k => trivial) eq
end U78
namespace U79
abbrev R := (((ByteArray × Unit) × Unit) × Unit)
set_option maxRecDepth 100000 in
def f (k : Nat) (a0 : tInstD) : Option R := Option.bind (U76.f k) fun r1 => bif (decide (0 ≤ IntKind.wrap .i64 (a0.1 - 1))) && (decide (IntKind.wrap .i64 (a0.1 - 1) < ((List.length r1.2.1 : Nat) : Int))) then (Option.bind (U77.f k (List.getD r1.2.1 (Int.toNat (IntKind.wrap .i64 (a0.1 - 1))) ByteArray.empty) [a0.2.1]) fun r2 => Option.bind (U78.f k a0.1) fun r3 => bif r3.1.1.1 then (Option.bind (U77.f k r2.1.1.1 [a0.2.2.2.2.2.1]) fun r4 => Option.bind (U51.f k a0) fun r5 => Option.bind (U77.f k r4.1.1.1 r5.2.1) fun r6 => some (((r6.1.1.1, ()), ()), ())) else (Option.bind (U51.f k a0) fun r7 => Option.bind (U77.f k r2.1.1.1 r7.2.1) fun r8 => some (((r8.1.1.1, ()), ()), ()))) else none
abbrev S : ShapeParts := ⟨[⟨true, [.int .i64, .int .i64, .int .i64, .int .i64, .int .i64, .int .i64, .lst (.int .i64)]⟩], [], false, [⟨false, [.str]⟩], [], []⟩
def s (k : Nat) : FS := S.fs fun x => f k x.1.1
def E (k : Nat) : Ents := [(⟨118, []⟩, U76.s k), (⟨117, []⟩, U77.s k), (⟨119, []⟩, U78.s k), (⟨120, []⟩, U51.s k)]
def L : List (LS R) := []
def c : Code := Tryz.f69.body.getD .skip
set_option maxRecDepth 100000 in
theorem eq (k : Nat) (x) : (s k).pf x = execF tab (E k) Tryz.f69 c (s k) L x := by kernel_rfl
set_option maxRecDepth 100000 in
theorem sound : ∀ k, Sound Tryz.prog 69 (s k) := snd S (fun k => (s k).pf) E (fun k => (EntsOK.cons (U76.sound k) (EntsOK.cons (U77.sound k) (EntsOK.cons (U78.sound k) (EntsOK.cons (U51.sound k) EntsOK.nil))))) (fun k => L) (fun k => trivial) eq
end U79
namespace U80
abbrev R := (((ByteArray × Unit) × (Bool × Unit) × Unit) × Unit)
set_option maxRecDepth 100000 in
def f (k : Nat) (a0 : tFuncD) (a1 : Int) : Option R := Option.bind (U72.f k a0 a1) fun r1 => bif !r1.1.2.1.1 then (some (((ByteArray.empty, ()), (false, ()), ()), ())) else (bif decide (23 ≤ r1.1.1.1) then (some (((ByteArray.empty, ()), (false, ()), ()), ())) else (Option.bind (U75.f k r1.1.1.1 [1, 3, 8, 9, 10, 14, 15]) fun r2 => bif r2.1.1.1 then (bif decide (r1.1.1.2.2.2.1 < r1.1.1.2.2.1) then (Option.bind (U79.f k (r1.1.1.1, r1.1.1.2.1, r1.1.1.2.2.2.1, r1.1.1.2.2.1, r1.1.1.2.2.2.2.1, r1.1.1.2.2.2.2.2.1, r1.1.1.2.2.2.2.2.2.1, ())) fun r3 => some (((r3.1.1.1, ()), (true, ()), ()), ())) else (Option.bind (U79.f k r1.1.1) fun r4 => some (((r4.1.1.1, ()), (true, ()), ()), ()))) else (Option.bind (U79.f k r1.1.1) fun r5 => some (((r5.1.1.1, ()), (true, ()), ()), ()))))
abbrev S : ShapeParts := ⟨[⟨true, [.lst (.int .i64), .int .i64, .lst tBlock]⟩, ⟨false, [.int .i64]⟩], [], true, [⟨false, [.str]⟩, ⟨false, [.bool]⟩], [], []⟩
def s (k : Nat) : FS := S.fs fun x => f k x.1.1 x.1.2.1.1
def E (k : Nat) : Ents := [(⟨67, []⟩, U72.s k), (⟨68, []⟩, U75.s k), (⟨69, []⟩, U79.s k)]
def L : List (LS R) := []
def c : Code := Tryz.f33.body.getD .skip
set_option maxRecDepth 100000 in
theorem eq (k : Nat) (x) : (s k).pf x = execF tab (E k) Tryz.f33 c (s k) L x := by kernel_rfl
set_option maxRecDepth 100000 in
theorem sound : ∀ k, Sound Tryz.prog 33 (s k) := snd S (fun k => (s k).pf) E (fun k => (EntsOK.cons (U72.sound k) (EntsOK.cons (U75.sound k) (EntsOK.cons (U79.sound k) EntsOK.nil)))) (fun k => L) (fun k => trivial) eq
end U80
namespace U81
abbrev R := (((ByteArray × Unit) × (Bool × Unit) × Unit) × Unit)
set_option maxRecDepth 100000 in
def f (k : Nat) (a0 : tFuncD) (a1 : Int) : Option R := Option.bind (U69.f k a0) fun r1 => bif !r1.1.1.1 then (some (((ByteArray.empty, ()), (false, ()), ()), ())) else (Option.bind (U80.f k a0 a1) fun r2 => some (((r2.1.1.1, ()), (r2.1.2.1.1, ()), ()), ()))
abbrev S : ShapeParts := ⟨[⟨true, [.lst (.int .i64), .int .i64, .lst tBlock]⟩, ⟨false, [.int .i64]⟩], [], true, [⟨false, [.str]⟩, ⟨false, [.bool]⟩], [], []⟩
def s (k : Nat) : FS := S.fs fun x => f k x.1.1 x.1.2.1.1
def E (k : Nat) : Ents := [(⟨32, []⟩, U69.s k), (⟨33, []⟩, U80.s k)]
def L : List (LS R) := []
def c : Code := Tryz.f15.body.getD .skip
set_option maxRecDepth 100000 in
theorem eq (k : Nat) (x) : (s k).pf x = execF tab (E k) Tryz.f15 c (s k) L x := by kernel_rfl
set_option maxRecDepth 100000 in
theorem sound : ∀ k, Sound Tryz.prog 15 (s k) := snd S (fun k => (s k).pf) E (fun k => (EntsOK.cons (U69.sound k) (EntsOK.cons (U80.sound k) EntsOK.nil))) (fun k => L) (fun k => trivial) eq
end U81
namespace U82
abbrev R := (((Bool × Unit) × Unit) × Unit)
abbrev T0 : Type := (List Int) → (List Int) → Int → Option R
def l0_ (k : Nat) (l0 : T0) (a0 : List Int) (a1 : List Int) (a2 : Int) : Option R := bif decide (a2 < ((List.length a0 : Nat) : Int)) then (bif (decide (0 ≤ a2)) && (decide (a2 < ((List.length a0 : Nat) : Int))) then (bif (decide (0 ≤ a2)) && (decide (a2 < ((List.length a1 : Nat) : Int))) then (bif !decide (List.getD a0 (Int.toNat a2) 0 = List.getD a1 (Int.toNat a2) 0) then (some (((false, ()), ()), ())) else (l0 a0 a1 (IntKind.wrap .i64 (a2 + 1)))) else none) else none) else (some (((true, ()), ()), ()))
def all : Nat → (T0) × Unit
 | 0 => (fun _ _ _ => none, ())
 | k + 1 => (l0_ k (all k).1, ())
def l0 (k : Nat) : T0 := (all k).1
def f (k : Nat) (a0 : List Int) (a1 : List Int) : Option R := bif !decide (((List.length a0 : Nat) : Int) = ((List.length a1 : Nat) : Int)) then (some (((false, ()), ()), ())) else (l0 k a0 a1 0)
abbrev S : ShapeParts := ⟨[⟨false, [.lst (.int .i64)]⟩, ⟨false, [.lst (.int .i64)]⟩], [], false, [⟨false, [.bool]⟩], [], []⟩
def s (k : Nat) : FS := S.fs fun x => f k x.1.1.1 x.1.2.1.1
def E (k : Nat) : Ents := []
def L0 (l : T0) : LS R := ⟨[], [(0, ⟨false, [.lst (.int .i64)]⟩), (1, ⟨false, [.lst (.int .i64)]⟩), (5, ⟨false, [.int .i64]⟩)], [], fun x => l x.1.1.1 x.1.2.1.1 x.1.2.2.1.1⟩
def L (l0 : T0) : List (LS R) := [L0 l0]
def c : Code := Tryz.f34.body.getD .skip
theorem eq (k : Nat) (x) : (s k).pf x = execF tab (E k) Tryz.f34 c (s k) (L (l0 k)) x := by kernel_rfl
theorem r0 (l0 : T0) (k : Nat) (x) : (L0 (l0_ k l0)).l x = roundOf tab (E k) (L l0) c (fin tab Tryz.f34 (s k)) 0 (L0 l0) x := by kernel_rfl
theorem sound : ∀ k, Sound Tryz.prog 34 (s k) := snd S (fun k => (s k).pf) E (fun k => EntsOK.nil) (fun k => L (l0 k)) (fun k => ⟨⟨(L0 (l0 (k + 1))).l, rfl, fun x => r0 (l0 k) k x⟩, trivial⟩) eq
end U82
namespace U83
abbrev R := (((Bool × Unit) × Unit) × Unit)
def f (k : Nat) (a0 : tPhiD) (a1 : tPhiD) : Option R := bif !decide (a0.1 = a1.1) then (some (((false, ()), ()), ())) else (Option.bind (U82.f k a0.2.1 a1.2.1) fun r1 => bif !r1.1.1.1 then (some (((false, ()), ()), ())) else (some (((true, ()), ()), ())))
abbrev S : ShapeParts := ⟨[⟨true, [.int .i64, .lst (.int .i64)]⟩, ⟨true, [.int .i64, .lst (.int .i64)]⟩], [], false, [⟨false, [.bool]⟩], [], []⟩
def s (k : Nat) : FS := S.fs fun x => f k x.1.1 x.1.2.1
def E (k : Nat) : Ents := [(⟨34, []⟩, U82.s k)]
def L : List (LS R) := []
def c : Code := Tryz.f149.body.getD .skip
theorem eq (k : Nat) (x) : (s k).pf x = execF tab (E k) Tryz.f149 c (s k) L x := by kernel_rfl
theorem sound : ∀ k, Sound Tryz.prog 149 (s k) := snd S (fun k => (s k).pf) E (fun k => (EntsOK.cons (U82.sound k) EntsOK.nil)) (fun k => L) (fun k => trivial) eq
end U83
namespace U84
abbrev R := (((Bool × Unit) × Unit) × Unit)
abbrev T0 : Type := (List tPhiD) → (List tPhiD) → Int → Option R
def l0_ (k : Nat) (l0 : T0) (a0 : List tPhiD) (a1 : List tPhiD) (a2 : Int) : Option R := bif decide (a2 < ((List.length a0 : Nat) : Int)) then (bif (decide (0 ≤ a2)) && (decide (a2 < ((List.length a0 : Nat) : Int))) then (bif (decide (0 ≤ a2)) && (decide (a2 < ((List.length a1 : Nat) : Int))) then (Option.bind (U83.f k (List.getD a0 (Int.toNat a2) tPhiZ) (List.getD a1 (Int.toNat a2) tPhiZ)) fun r1 => bif !r1.1.1.1 then (some (((false, ()), ()), ())) else (l0 a0 a1 (IntKind.wrap .i64 (a2 + 1)))) else none) else none) else (some (((true, ()), ()), ()))
def all : Nat → (T0) × Unit
 | 0 => (fun _ _ _ => none, ())
 | k + 1 => (l0_ k (all k).1, ())
def l0 (k : Nat) : T0 := (all k).1
def f (k : Nat) (a0 : List tPhiD) (a1 : List tPhiD) : Option R := bif !decide (((List.length a0 : Nat) : Int) = ((List.length a1 : Nat) : Int)) then (some (((false, ()), ()), ())) else (l0 k a0 a1 0)
abbrev S : ShapeParts := ⟨[⟨false, [.lst tPhi]⟩, ⟨false, [.lst tPhi]⟩], [], false, [⟨false, [.bool]⟩], [], []⟩
def s (k : Nat) : FS := S.fs fun x => f k x.1.1.1 x.1.2.1.1
def E (k : Nat) : Ents := [(⟨149, []⟩, U83.s k)]
def L0 (l : T0) : LS R := ⟨[], [(0, ⟨false, [.lst tPhi]⟩), (1, ⟨false, [.lst tPhi]⟩), (5, ⟨false, [.int .i64]⟩)], [], fun x => l x.1.1.1 x.1.2.1.1 x.1.2.2.1.1⟩
def L (l0 : T0) : List (LS R) := [L0 l0]
def c : Code := Tryz.f121.body.getD .skip
theorem eq (k : Nat) (x) : (s k).pf x = execF tab (E k) Tryz.f121 c (s k) (L (l0 k)) x := by kernel_rfl
theorem r0 (l0 : T0) (k : Nat) (x) : (L0 (l0_ k l0)).l x = roundOf tab (E k) (L l0) c (fin tab Tryz.f121 (s k)) 0 (L0 l0) x := by kernel_rfl
theorem sound : ∀ k, Sound Tryz.prog 121 (s k) := snd S (fun k => (s k).pf) E (fun k => (EntsOK.cons (U83.sound k) EntsOK.nil)) (fun k => L (l0 k)) (fun k => ⟨⟨(L0 (l0 (k + 1))).l, rfl, fun x => r0 (l0 k) k x⟩, trivial⟩) eq
end U84
namespace U85
abbrev R := (((Bool × Unit) × Unit) × Unit)
def f (k : Nat) (a0 : tInstD) (a1 : tInstD) : Option R := bif !decide (a0.1 = a1.1) then (some (((false, ()), ()), ())) else (bif !decide (a0.2.1 = a1.2.1) then (some (((false, ()), ()), ())) else (bif !decide (a0.2.2.1 = a1.2.2.1) then (some (((false, ()), ()), ())) else (bif !decide (a0.2.2.2.1 = a1.2.2.2.1) then (some (((false, ()), ()), ())) else (bif !decide (a0.2.2.2.2.1 = a1.2.2.2.2.1) then (some (((false, ()), ()), ())) else (bif !decide (a0.2.2.2.2.2.1 = a1.2.2.2.2.2.1) then (some (((false, ()), ()), ())) else (Option.bind (U82.f k a0.2.2.2.2.2.2.1 a1.2.2.2.2.2.2.1) fun r1 => bif !r1.1.1.1 then (some (((false, ()), ()), ())) else (some (((true, ()), ()), ()))))))))
abbrev S : ShapeParts := ⟨[⟨true, [.int .i64, .int .i64, .int .i64, .int .i64, .int .i64, .int .i64, .lst (.int .i64)]⟩, ⟨true, [.int .i64, .int .i64, .int .i64, .int .i64, .int .i64, .int .i64, .lst (.int .i64)]⟩], [], false, [⟨false, [.bool]⟩], [], []⟩
def s (k : Nat) : FS := S.fs fun x => f k x.1.1 x.1.2.1
def E (k : Nat) : Ents := [(⟨34, []⟩, U82.s k)]
def L : List (LS R) := []
def c : Code := Tryz.f150.body.getD .skip
theorem eq (k : Nat) (x) : (s k).pf x = execF tab (E k) Tryz.f150 c (s k) L x := by kernel_rfl
theorem sound : ∀ k, Sound Tryz.prog 150 (s k) := snd S (fun k => (s k).pf) E (fun k => (EntsOK.cons (U82.sound k) EntsOK.nil)) (fun k => L) (fun k => trivial) eq
end U85
namespace U86
abbrev R := (((Bool × Unit) × Unit) × Unit)
abbrev T0 : Type := (List tInstD) → (List tInstD) → Int → Option R
def l0_ (k : Nat) (l0 : T0) (a0 : List tInstD) (a1 : List tInstD) (a2 : Int) : Option R := bif decide (a2 < ((List.length a0 : Nat) : Int)) then (bif (decide (0 ≤ a2)) && (decide (a2 < ((List.length a0 : Nat) : Int))) then (bif (decide (0 ≤ a2)) && (decide (a2 < ((List.length a1 : Nat) : Int))) then (Option.bind (U85.f k (List.getD a0 (Int.toNat a2) tInstZ) (List.getD a1 (Int.toNat a2) tInstZ)) fun r1 => bif !r1.1.1.1 then (some (((false, ()), ()), ())) else (l0 a0 a1 (IntKind.wrap .i64 (a2 + 1)))) else none) else none) else (some (((true, ()), ()), ()))
def all : Nat → (T0) × Unit
 | 0 => (fun _ _ _ => none, ())
 | k + 1 => (l0_ k (all k).1, ())
def l0 (k : Nat) : T0 := (all k).1
def f (k : Nat) (a0 : List tInstD) (a1 : List tInstD) : Option R := bif !decide (((List.length a0 : Nat) : Int) = ((List.length a1 : Nat) : Int)) then (some (((false, ()), ()), ())) else (l0 k a0 a1 0)
abbrev S : ShapeParts := ⟨[⟨false, [.lst tInst]⟩, ⟨false, [.lst tInst]⟩], [], false, [⟨false, [.bool]⟩], [], []⟩
def s (k : Nat) : FS := S.fs fun x => f k x.1.1.1 x.1.2.1.1
def E (k : Nat) : Ents := [(⟨150, []⟩, U85.s k)]
def L0 (l : T0) : LS R := ⟨[], [(0, ⟨false, [.lst tInst]⟩), (1, ⟨false, [.lst tInst]⟩), (5, ⟨false, [.int .i64]⟩)], [], fun x => l x.1.1.1 x.1.2.1.1 x.1.2.2.1.1⟩
def L (l0 : T0) : List (LS R) := [L0 l0]
def c : Code := Tryz.f122.body.getD .skip
theorem eq (k : Nat) (x) : (s k).pf x = execF tab (E k) Tryz.f122 c (s k) (L (l0 k)) x := by kernel_rfl
theorem r0 (l0 : T0) (k : Nat) (x) : (L0 (l0_ k l0)).l x = roundOf tab (E k) (L l0) c (fin tab Tryz.f122 (s k)) 0 (L0 l0) x := by kernel_rfl
theorem sound : ∀ k, Sound Tryz.prog 122 (s k) := snd S (fun k => (s k).pf) E (fun k => (EntsOK.cons (U85.sound k) EntsOK.nil)) (fun k => L (l0 k)) (fun k => ⟨⟨(L0 (l0 (k + 1))).l, rfl, fun x => r0 (l0 k) k x⟩, trivial⟩) eq
end U86
namespace U87
abbrev R := (((Bool × Unit) × Unit) × Unit)
def f (k : Nat) (a0 : tTermD) (a1 : tTermD) : Option R := bif !decide (a0.1 = a1.1) then (some (((false, ()), ()), ())) else (bif !decide (a0.2.1 = a1.2.1) then (some (((false, ()), ()), ())) else (bif !decide (a0.2.2.1 = a1.2.2.1) then (some (((false, ()), ()), ())) else (bif !decide (a0.2.2.2.1 = a1.2.2.2.1) then (some (((false, ()), ()), ())) else (some (((true, ()), ()), ())))))
abbrev S : ShapeParts := ⟨[⟨true, [.int .i64, .int .i64, .int .i64, .int .i64]⟩, ⟨true, [.int .i64, .int .i64, .int .i64, .int .i64]⟩], [], false, [⟨false, [.bool]⟩], [], []⟩
def s (k : Nat) : FS := S.fs fun x => f k x.1.1 x.1.2.1
def E (k : Nat) : Ents := []
def L : List (LS R) := []
def c : Code := Tryz.f123.body.getD .skip
theorem eq (k : Nat) (x) : (s k).pf x = execF tab (E k) Tryz.f123 c (s k) L x := by kernel_rfl
theorem sound : ∀ k, Sound Tryz.prog 123 (s k) := snd S (fun k => (s k).pf) E (fun k => EntsOK.nil) (fun k => L) (fun k => trivial) eq
end U87
namespace U88
abbrev R := (((Bool × Unit) × Unit) × Unit)
def f (k : Nat) (a0 : tBlockD) (a1 : tBlockD) : Option R := Option.bind (U84.f k a0.1 a1.1) fun r1 => bif !r1.1.1.1 then (some (((false, ()), ()), ())) else (Option.bind (U86.f k a0.2.1 a1.2.1) fun r2 => bif !r2.1.1.1 then (some (((false, ()), ()), ())) else (Option.bind (U87.f k a0.2.2 a1.2.2) fun r3 => bif !r3.1.1.1 then (some (((false, ()), ()), ())) else (some (((true, ()), ()), ()))))
abbrev S : ShapeParts := ⟨[⟨true, [.lst tPhi, .lst tInst, .int .i64, .int .i64, .int .i64, .int .i64]⟩, ⟨true, [.lst tPhi, .lst tInst, .int .i64, .int .i64, .int .i64, .int .i64]⟩], [], false, [⟨false, [.bool]⟩], [], []⟩
def s (k : Nat) : FS := S.fs fun x => f k x.1.1 x.1.2.1
def E (k : Nat) : Ents := [(⟨121, []⟩, U84.s k), (⟨122, []⟩, U86.s k), (⟨123, []⟩, U87.s k)]
def L : List (LS R) := []
def c : Code := Tryz.f70.body.getD .skip
theorem eq (k : Nat) (x) : (s k).pf x = execF tab (E k) Tryz.f70 c (s k) L x := by kernel_rfl
theorem sound : ∀ k, Sound Tryz.prog 70 (s k) := snd S (fun k => (s k).pf) E (fun k => (EntsOK.cons (U84.sound k) (EntsOK.cons (U86.sound k) (EntsOK.cons (U87.sound k) EntsOK.nil)))) (fun k => L) (fun k => trivial) eq
end U88
namespace U89
abbrev R := (((Bool × Unit) × Unit) × Unit)
abbrev T0 : Type := (List tBlockD) → (List tBlockD) → Int → Option R
def l0_ (k : Nat) (l0 : T0) (a0 : List tBlockD) (a1 : List tBlockD) (a2 : Int) : Option R := bif decide (a2 < ((List.length a0 : Nat) : Int)) then (bif (decide (0 ≤ a2)) && (decide (a2 < ((List.length a0 : Nat) : Int))) then (bif (decide (0 ≤ a2)) && (decide (a2 < ((List.length a1 : Nat) : Int))) then (Option.bind (U88.f k (List.getD a0 (Int.toNat a2) tBlockZ) (List.getD a1 (Int.toNat a2) tBlockZ)) fun r1 => bif !r1.1.1.1 then (some (((false, ()), ()), ())) else (l0 a0 a1 (IntKind.wrap .i64 (a2 + 1)))) else none) else none) else (some (((true, ()), ()), ()))
def all : Nat → (T0) × Unit
 | 0 => (fun _ _ _ => none, ())
 | k + 1 => (l0_ k (all k).1, ())
def l0 (k : Nat) : T0 := (all k).1
def f (k : Nat) (a0 : List tBlockD) (a1 : List tBlockD) : Option R := bif !decide (((List.length a0 : Nat) : Int) = ((List.length a1 : Nat) : Int)) then (some (((false, ()), ()), ())) else (l0 k a0 a1 0)
abbrev S : ShapeParts := ⟨[⟨false, [.lst tBlock]⟩, ⟨false, [.lst tBlock]⟩], [], false, [⟨false, [.bool]⟩], [], []⟩
def s (k : Nat) : FS := S.fs fun x => f k x.1.1.1 x.1.2.1.1
def E (k : Nat) : Ents := [(⟨70, []⟩, U88.s k)]
def L0 (l : T0) : LS R := ⟨[], [(0, ⟨false, [.lst tBlock]⟩), (1, ⟨false, [.lst tBlock]⟩), (5, ⟨false, [.int .i64]⟩)], [], fun x => l x.1.1.1 x.1.2.1.1 x.1.2.2.1.1⟩
def L (l0 : T0) : List (LS R) := [L0 l0]
def c : Code := Tryz.f35.body.getD .skip
theorem eq (k : Nat) (x) : (s k).pf x = execF tab (E k) Tryz.f35 c (s k) (L (l0 k)) x := by kernel_rfl
theorem r0 (l0 : T0) (k : Nat) (x) : (L0 (l0_ k l0)).l x = roundOf tab (E k) (L l0) c (fin tab Tryz.f35 (s k)) 0 (L0 l0) x := by kernel_rfl
theorem sound : ∀ k, Sound Tryz.prog 35 (s k) := snd S (fun k => (s k).pf) E (fun k => (EntsOK.cons (U88.sound k) EntsOK.nil)) (fun k => L (l0 k)) (fun k => ⟨⟨(L0 (l0 (k + 1))).l, rfl, fun x => r0 (l0 k) k x⟩, trivial⟩) eq
end U89
namespace U90
abbrev R := (((Bool × Unit) × Unit) × Unit)
def f (k : Nat) (a0 : tFuncD) (a1 : tFuncD) : Option R := Option.bind (U82.f k a0.1 a1.1) fun r1 => bif !r1.1.1.1 then (some (((false, ()), ()), ())) else (bif !decide (a0.2.1 = a1.2.1) then (some (((false, ()), ()), ())) else (Option.bind (U89.f k a0.2.2.1 a1.2.2.1) fun r2 => bif !r2.1.1.1 then (some (((false, ()), ()), ())) else (some (((true, ()), ()), ()))))
abbrev S : ShapeParts := ⟨[⟨true, [.lst (.int .i64), .int .i64, .lst tBlock]⟩, ⟨true, [.lst (.int .i64), .int .i64, .lst tBlock]⟩], [], false, [⟨false, [.bool]⟩], [], []⟩
def s (k : Nat) : FS := S.fs fun x => f k x.1.1 x.1.2.1
def E (k : Nat) : Ents := [(⟨34, []⟩, U82.s k), (⟨35, []⟩, U89.s k)]
def L : List (LS R) := []
def c : Code := Tryz.f16.body.getD .skip
theorem eq (k : Nat) (x) : (s k).pf x = execF tab (E k) Tryz.f16 c (s k) L x := by kernel_rfl
theorem sound : ∀ k, Sound Tryz.prog 16 (s k) := snd S (fun k => (s k).pf) E (fun k => (EntsOK.cons (U82.sound k) (EntsOK.cons (U89.sound k) EntsOK.nil))) (fun k => L) (fun k => trivial) eq
end U90
namespace laws_FnExactKeyOf
abbrev R := (((Bool × Unit) × Unit) × Unit)
set_option maxRecDepth 100000 in
def f (k : Nat) (a0 : tFuncD) (a1 : Int) : Option R := Option.bind (U7.f k a0 1048576) fun r1 => bif decide (r1.1.1.1 < 0) then (some (((true, ()), ()), ())) else (Option.bind (U16.f k a0) fun r2 => Option.bind (U36.f k (r2.2.1, r2.1.1.2.1, r2.2.2.1, ()) a1) fun r3 => Option.bind (U16.f k a0) fun r4 => Option.bind (U81.f k (r4.2.1, r4.1.1.2.1, r4.2.2.1, ()) a1) fun r5 => bif !strEq r5.1.1.1 r3.1.1.1 then (some (((false, ()), ()), ())) else (bif !(r5.1.2.1.1 == r3.1.2.1.1) then (some (((false, ()), ()), ())) else (Option.bind (U16.f k a0) fun r6 => Option.bind (U90.f k (r4.2.1, r4.1.1.2.1, r4.2.2.1, ()) (r6.2.1, r6.1.1.2.1, r6.2.2.1, ())) fun r7 => bif !r7.1.1.1 then (some (((false, ()), ()), ())) else (some (((true, ()), ()), ())))))
abbrev S : ShapeParts := ⟨[⟨true, [.lst (.int .i64), .int .i64, .lst tBlock]⟩, ⟨false, [.int .i64]⟩], [], false, [⟨false, [.bool]⟩], [], []⟩
def s (k : Nat) : FS := S.fs fun x => f k x.1.1 x.1.2.1.1
def E (k : Nat) : Ents := [(⟨12, []⟩, U7.s k), (⟨14, []⟩, U16.s k), (⟨13, []⟩, U36.s k), (⟨15, []⟩, U81.s k), (⟨16, []⟩, U90.s k)]
def L : List (LS R) := []
def c : Code := Tryz.f4.body.getD .skip
set_option maxRecDepth 100000 in
theorem eq (k : Nat) (x) : (s k).pf x = execF tab (E k) Tryz.f4 c (s k) L x := by kernel_rfl
set_option maxRecDepth 100000 in
theorem sound : ∀ k, Sound Tryz.prog 4 (s k) := snd S (fun k => (s k).pf) E (fun k => (EntsOK.cons (U7.sound k) (EntsOK.cons (U16.sound k) (EntsOK.cons (U36.sound k) (EntsOK.cons (U81.sound k) (EntsOK.cons (U90.sound k) EntsOK.nil)))))) (fun k => L) (fun k => trivial) eq
end laws_FnExactKeyOf
section
open Go Go.Deep Go.RowKit
/-- What is known of a datum that was read. -/
def Wf : (t : T) → t.Den → Prop
 | .int k, n => (Lit.int k n).wf = true
 | .bool, _ => True
 | .str, s => ByteArray.size s ≤ 9223372036854775807
 | .list t, xs => List.length (α := t.Den) xs ≤ 9223372036854775807 ∧ ∀ x : t.Den, List.Mem (α := t.Den) x xs → Wf t x
 | .pair a b, x => Wf a (Prod.fst (α := a.Den) (β := b.Den) x) ∧ Wf b (Prod.snd (α := a.Den) (β := b.Den) x)
 | .unit, _ => True
def OpensC (P : Program) (ty : TypeId) (t r : T) : Prop :=
 ∀ (H : Type) (enc : TypeId × Value → H) (w : World) (base : Nat) (spare : Nat → Bool) (held : Bool) (fuel : Nat) (cs : List Value) (x : DataW H × List MemPlace), DataW.trod enc P w base spare held fuel ty cs = some x →
  ∀ (y : r.Den) (us : List Value), Rd (fun b => b < w.heap.size) w r y us → Wf r y → ∃ a : t.Den, Rd (fun b => b < w.heap.size) w t a (cs ++ us) ∧ Wf t a
def Opens (P : Program) (ty : TypeId) (t : T) : Prop :=
 ∀ (H : Type) (enc : TypeId × Value → H) (w : World) (base : Nat) (spare : Nat → Bool) (held : Bool) (fuel : Nat) (cs : List Value) (x : DataW H × List MemPlace), DataW.trod enc P w base spare held fuel ty cs = some x →
  ∃ a : t.Den, Rd (fun b => b < w.heap.size) w t a cs ∧ Wf t a
theorem OpensC.whole {P : Program} {ty : TypeId} {t : T} (h : OpensC P ty t .unit) : Opens P ty t := by
 intro H enc w base spare held fuel cs x hx
 obtain ⟨a, h1, h2⟩ := h H enc w base spare held fuel cs x hx () [] rfl trivial
 rw [List.append_nil] at h1
 exact ⟨a, h1, h2⟩
theorem OpensC.one {P : Program} {ty : TypeId} {e : T} (h : OpensC P ty (.pair e .unit) .unit) : Opens P ty e := by
 intro H enc w base spare held fuel cs x hx
 obtain ⟨a, ⟨us, ws, h0, h1, h2⟩, h3⟩ := h H enc w base spare held fuel cs x hx () [] rfl trivial
 simp only [Rd] at h2
 subst h2
 simp only [List.append_nil] at h0
 subst h0
 exact ⟨_, h1, h3.1⟩
theorem OpensC.leaf {P : Program} {ty : TypeId} {e r : T} (h : Opens P ty e) : OpensC P ty (.pair e r) r := by
 intro H enc w base spare held fuel cs x hx y us hy hw
 obtain ⟨a, h1, h2⟩ := h H enc w base spare held fuel cs x hx
 exact ⟨(a, y), ⟨cs, us, rfl, h1, hy⟩, h2, hw⟩
theorem opens_list {P : Program} {ty el : TypeId} {e : T} (hu : P.underlying ty = some (.slice el)) (hc : P.cellsOf el = e.sz) (h1 : 1 ≤ e.sz) (h : Opens P el e) : Opens P ty (.list e) := by
 intro H enc w base spare held fuel cs x hx
 rcases open_slice hu hx with ⟨rfl, -⟩ | ⟨a, len, cap, m, n, D, Pl, rfl, hb, hl, hm, hmm, -, hel⟩
 ·exact ⟨([] : List e.Den), ⟨none, 0, rfl, Nat.le_refl _, fun h => absurd rfl h⟩, Nat.zero_le _, fun _ h => (List.not_mem_nil h).elim⟩
 ·have hlm : len ≤ m := by rw [hmm]; split <;> omega
  have hspot : len ≠ 0 → a.spot = none ∧ a.block < w.heap.size := by
   intro hn
   obtain ⟨cs', c1, c2⟩ := hel 0 (by omega)
   obtain ⟨-, l1, l2⟩ := World.cells?_some c1
   rw [hc] at l1 l2
   have h0 := l2 0 (by omega)
   simp only [Nat.zero_mul, Addr.add, if_true] at h0
   rw [List.getElem?_eq_getElem (by omega)] at h0
   unfold World.cell? at h0
   split at h0
   ·rename_i hh
    refine ⟨?_, (Array.getElem?_eq_some_iff.1 hh).1⟩
    split at h0
    ·cases h0
    ·rename_i hs
     simpa using hs
   ·cases h0
  have hadd : len ≠ 0 → ∀ n, a.add n = ⟨a.block, a.off + n, none⟩ := by
   intro hn n
   have hs := (hspot hn).1
   unfold Addr.add
   split
   ·rename_i h0
    subst h0
    cases a
    simp only at hs
    subst hs
    rfl
   ·rfl
  have each : ∀ n, n ≤ len → ∃ (xs : List e.Den) (us : List Value), xs.length = n ∧ (∀ x ∈ xs, Wf e x) ∧ At w a.block a.off us ∧ ELs (Rd (fun b => b < w.heap.size) w e) e.sz xs us := by
   intro n
   induction n with
   | zero => exact fun _ => ⟨[], [], rfl, fun _ h => (List.not_mem_nil h).elim, fun j v hj => by simp at hj, rfl⟩
   | succ n ih =>
    intro hn
    obtain ⟨xs, us, i1, i2, i4, i5⟩ := ih (by omega)
    obtain ⟨cs', c1, c2⟩ := hel n (by omega)
    obtain ⟨y, y1, y2⟩ := h H enc w base spare held _ cs' _ c2
    obtain ⟨-, l1, l2⟩ := World.cells?_some c1
    rw [hc] at l1 l2
    have hcell : ∀ j, j < e.sz → w.cell? ⟨a.block, a.off + (n * e.sz + j), none⟩ = cs'[j]? := by
     intro j hj
     have := l2 j hj
     rw [Deep.add_add, hadd (by omega)] at this
     exact this
    refine ⟨xs ++ [y], us ++ cs', by simp [i1], fun x hx => ?_, fun j v hj => ?_, ?_⟩
    ·rcases List.mem_append.1 hx with hx | hx
     ·exact i2 x hx
     ·simp only [List.mem_singleton] at hx; subst hx; exact y2
    ·have hul : us.length = n * e.sz := by have := i5.length; rw [i1] at this; exact this
     rcases Nat.lt_or_ge j us.length with hlt | hge
     ·rw [List.getElem?_append_left hlt] at hj
      exact i4 j v hj
     ·rw [List.getElem?_append_right hge] at hj
      have hlt := (List.getElem?_eq_some_iff.1 hj).1
      have := hcell (j - us.length) (by omega)
      rw [hj, show a.off + (n * e.sz + (j - us.length)) = a.off + j by omega] at this
      exact this
    ·refine i5.app ⟨cs', [], by simp, l1, y1, rfl⟩
  obtain ⟨xs, us, i1, i2, i4, i5⟩ := each len (Nat.le_refl _)
  refine ⟨xs, ⟨some a, cap, by rw [i1], by omega, fun hne => ?_⟩, ?_, i2⟩
  ·have hn : len ≠ 0 := fun h0 => hne (List.length_eq_zero_iff.1 (by omega))
   obtain ⟨s1, s2⟩ := hspot hn
   refine ⟨a.block, a.off, us, ?_, s2, i4, i5⟩
   cases a
   simp only at s1
   subst s1
   rfl
  ·have : cap ≤ maxLen := hm
   unfold maxLen at this
   show xs.length ≤ _
   omega
theorem opens_int {P : Program} {t : TypeId} {k : IntKind} (hu : P.underlying t = some (.int k)) : Opens P t (.int k) := by
 intro H enc w base spare held fuel cs x h
 obtain ⟨n, rfl, -, hw⟩ := DataW.trod_int hu h
 exact ⟨n, rfl, hw⟩
/-- Fields from place o on, of m cells. -/
def OpensF (P : Program) (o m : Nat) (fs : List Field) (t r : T) : Prop :=
 ∀ (H : Type) (enc : TypeId × Value → H) (w : World) (base : Nat) (spare : Nat → Bool) (held : Bool) (fuel : Nat) (cs : List Value),
  (∀ f ∈ fs, ∃ x, DataW.trod enc P w base spare held fuel f.type ((cs.drop f.offset).take (P.cellsOf f.type)) = some x) → cs.length = o + m →
  ∀ (y : r.Den) (us : List Value), Rd (fun b => b < w.heap.size) w r y us → Wf r y → ∃ a : t.Den, Rd (fun b => b < w.heap.size) w t a (cs.drop o ++ us) ∧ Wf t a
theorem opensF_nil {P : Program} {o : Nat} {t : T} : OpensF P o 0 [] t t := by
 intro H enc w base spare held fuel cs h hl y us hy hw
 refine ⟨y, ?_, hw⟩
 rw [List.drop_eq_nil_of_le (by omega), List.nil_append]
 exact hy
theorem opensF_cons {P : Program} {o m n : Nat} {f : Field} {fs : List Field} {t t1 r : T} (ho : f.offset = o) (hc : P.cellsOf f.type = m) (hd : OpensC P f.type t t1) (hs : OpensF P (o + m) n fs t1 r) : OpensF P o (m + n) (f :: fs) t r := by
 intro H enc w base spare held fuel cs h hl y us hy hw
 obtain ⟨x, hx⟩ := h f (by simp)
 obtain ⟨a1, q1, q2⟩ := hs H enc w base spare held fuel cs (fun f hf => h f (by simp [hf])) (by omega) y us hy hw
 rw [ho, hc] at hx
 obtain ⟨a, q3, q4⟩ := hd H enc w base spare held fuel _ _ hx a1 _ q1 q2
 refine ⟨a, ?_, q4⟩
 rw [← List.append_assoc, ← List.drop_drop, List.take_append_drop] at q3
 exact q3
theorem opensC_struct {P : Program} {ty : TypeId} {fs : Array Field} {m : Nat} {t r : T} (hu : P.underlying ty = some (.struct fs)) (hc : P.cellsOf ty = m) (hd : OpensF P 0 m fs.toList t r) : OpensC P ty t r := by
 intro H enc w base spare held fuel cs x h y us hy hw
 obtain ⟨xs, n, -, -, hl, hxs, hf⟩ := DataW.trod_struct hu h
 have := hd H enc w base spare held n cs (fun f hm => by
  obtain ⟨i, hi, rfl⟩ := List.getElem_of_mem hm
  have hi' : i < fs.size := by simpa using hi
  have := hf i fs[i] (by simp [hi'])
  rw [List.getElem?_eq_getElem (by omega)] at this
  exact ⟨_, by simpa using this⟩) (by rw [hl, hc, Nat.zero_add]) y us hy hw
 simpa using this
def gh0 (W : World) : Gh := ⟨fun _ => none, fun _ => none, fun b => b < W.heap.size⟩
theorem rval_struct {W : World} {t : T} {a : t.Den} {cs : Array Value} (h : Rd (fun b => b < W.heap.size) W t a cs.toList) : RVal (gh0 W) [] W true (cellsOf t a) (.agg cs) :=
 ⟨cs, rfl, rcs_cells (g := gh0 W) h⟩
theorem rval_int {W : World} {k : IntKind} {n : Int} : RVal (gh0 W) [] W false [.int k n] (.int k n) :=
 rcs_cells (g := gh0 W) (t := .int k) (x := n) rfl
theorem law_calls {P : Program} {f : FuncId} {ins : List VS} {pf : DenV ins × DenO [] → Option (DenV [⟨false, [.bool]⟩] × DenO [])} (hs : Sound P f ⟨ins, [], false, [⟨false, [.bool]⟩], [], [], pf⟩) {x : DenV ins} (hx : pf (x, ()) = some (((true, ()), ()), ())) {W : World} {args : Array Value}
  (hlx : LX (gh0 W).F W) (h : RVals (gh0 W) [] W (instV ins x) args.toList) : Calls P f args W fun e W' => e = .returned (.bool true) ∧ Below W.heap.size W W' := by
 have hG : RelG (gh0 W) [] W := ⟨fun o ob h => (by cases h), fun b o h => (by cases h), fun b h => h, hlx⟩
 refine (hs.2 (x, ()) (((true, ()), ()), ()) hx (gh0 W) W args hG h).mono fun e W' he => ?_
 cases e with
 | returned v =>
  obtain ⟨g', O⟩ := he
  have hv : RVal g' [] W' false [.bool true] v := O.val
  obtain ⟨u, us, e, h1, h2⟩ := hv
  obtain ⟨rfl, rfl⟩ : u = v ∧ us = [] := by simpa using e.symm
  have h3 : u = .bool true := h1.2
  refine ⟨by rw [h3], O.ext.os, O.ext.tape, O.ext.output, O.ext.size, fun k hk => O.ext.block k hk (by simp [gh0])⟩
 | panicked c => exact he.elim
 | outgrown => exact he.elim
end
theorem opensC140 (r : T) : OpensC Tryz.prog 140 (.pair (.int .i64) (.pair (.list (.int .i64)) r)) r := opensC_struct Tryz.underlying140 (by kernel_rfl) (opensF_cons (o := 0) (m := 1) (n := 1) rfl (by kernel_rfl) (OpensC.leaf (opens_int Tryz.underlying2)) (opensF_cons (o := 1) (m := 1) (n := 0) rfl (by kernel_rfl) (OpensC.leaf (opens_list Tryz.underlying35 (by kernel_rfl) (by decide) (opens_int Tryz.underlying2))) opensF_nil))
theorem opensC142 (r : T) : OpensC Tryz.prog 142 (.pair (.int .i64) (.pair (.int .i64) (.pair (.int .i64) (.pair (.int .i64) (.pair (.int .i64) (.pair (.int .i64) (.pair (.list (.int .i64)) r))))))) r := opensC_struct Tryz.underlying142 (by kernel_rfl) (opensF_cons (o := 0) (m := 1) (n := 6) rfl (by kernel_rfl) (OpensC.leaf (opens_int Tryz.underlying2)) (opensF_cons (o := 1) (m := 1) (n := 5) rfl (by kernel_rfl) (OpensC.leaf (opens_int Tryz.underlying2)) (opensF_cons (o := 2) (m := 1) (n := 4) rfl (by kernel_rfl) (OpensC.leaf (opens_int Tryz.underlying2)) (opensF_cons (o := 3) (m := 1) (n := 3) rfl (by kernel_rfl) (OpensC.leaf (opens_int Tryz.underlying2)) (opensF_cons (o := 4) (m := 1) (n := 2) rfl (by kernel_rfl) (OpensC.leaf (opens_int Tryz.underlying2)) (opensF_cons (o := 5) (m := 1) (n := 1) rfl (by kernel_rfl) (OpensC.leaf (opens_int Tryz.underlying2)) (opensF_cons (o := 6) (m := 1) (n := 0) rfl (by kernel_rfl) (OpensC.leaf (opens_list Tryz.underlying35 (by kernel_rfl) (by decide) (opens_int Tryz.underlying2))) opensF_nil)))))))
theorem opensC90 (r : T) : OpensC Tryz.prog 90 (.pair (.int .i64) (.pair (.int .i64) (.pair (.int .i64) (.pair (.int .i64) r)))) r := opensC_struct Tryz.underlying90 (by kernel_rfl) (opensF_cons (o := 0) (m := 1) (n := 3) rfl (by kernel_rfl) (OpensC.leaf (opens_int Tryz.underlying2)) (opensF_cons (o := 1) (m := 1) (n := 2) rfl (by kernel_rfl) (OpensC.leaf (opens_int Tryz.underlying2)) (opensF_cons (o := 2) (m := 1) (n := 1) rfl (by kernel_rfl) (OpensC.leaf (opens_int Tryz.underlying2)) (opensF_cons (o := 3) (m := 1) (n := 0) rfl (by kernel_rfl) (OpensC.leaf (opens_int Tryz.underlying2)) opensF_nil))))
theorem opensC92 (r : T) : OpensC Tryz.prog 92 (.pair (.list tPhi) (.pair (.list tInst) (.pair (.int .i64) (.pair (.int .i64) (.pair (.int .i64) (.pair (.int .i64) r)))))) r := opensC_struct Tryz.underlying92 (by kernel_rfl) (opensF_cons (o := 0) (m := 1) (n := 5) rfl (by kernel_rfl) (OpensC.leaf (opens_list Tryz.underlying88 (by kernel_rfl) (by decide) (OpensC.whole (opensC140 _)))) (opensF_cons (o := 1) (m := 1) (n := 4) rfl (by kernel_rfl) (OpensC.leaf (opens_list Tryz.underlying89 (by kernel_rfl) (by decide) (OpensC.whole (opensC142 _)))) (opensF_cons (o := 2) (m := 4) (n := 0) rfl (by kernel_rfl) (opensC90 _) opensF_nil)))
theorem opensC38 (r : T) : OpensC Tryz.prog 38 (.pair (.list (.int .i64)) (.pair (.int .i64) (.pair (.list tBlock) r))) r := opensC_struct Tryz.underlying38 (by kernel_rfl) (opensF_cons (o := 0) (m := 1) (n := 2) rfl (by kernel_rfl) (OpensC.leaf (opens_list Tryz.underlying35 (by kernel_rfl) (by decide) (opens_int Tryz.underlying2))) (opensF_cons (o := 1) (m := 1) (n := 1) rfl (by kernel_rfl) (OpensC.leaf (opens_int Tryz.underlying2)) (opensF_cons (o := 2) (m := 1) (n := 0) rfl (by kernel_rfl) (OpensC.leaf (opens_list Tryz.underlying36 (by kernel_rfl) (by decide) (OpensC.whole (opensC92 _)))) opensF_nil)))
def Ev {R : Type} (g : Nat → Option R) (r : R) : Prop := ∃ n, ∀ k, n ≤ k → g k = some r
abbrev one {α : Type} (x : α) : ((α × Unit) × Unit) × Unit := (((x, ()), ()), ())
abbrev rowR {α : Type} (xs : α) : ((Unit × Unit) × Unit) × (α × Unit) := ((((), ()), ()), (xs, ()))
section
variable {R S : Type}
theorem Ev.cst {o : Option R} {r : R} (h : o = some r) : Ev (fun _ => o) r := ⟨0, fun _ _ => h⟩
theorem Ev.all {g : Nat → Option R} {r : R} (h : ∀ k, g k = some r) : Ev g r := ⟨0, fun k _ => h k⟩
theorem Ev.congr {g g' : Nat → Option R} {r : R} (h : Ev g' r) (e : ∀ k, g k = g' k) : Ev g r := by
 obtain ⟨n, h⟩ := h
 exact ⟨n, fun k hk => by rw [e, h k hk]⟩
theorem Ev.step {g g' : Nat → Option R} {r : R} (h : Ev g' r) (e : ∀ k, g (k + 1) = g' k) : Ev g r := by
 obtain ⟨n, h⟩ := h
 refine ⟨n + 1, fun k hk => ?_⟩
 obtain ⟨k, rfl⟩ : ∃ j, k = j + 1 := ⟨k - 1, by omega⟩
 rw [e, h k (by omega)]
theorem Ev.bind {g : Nat → Option S} {f : Nat → S → Option R} {a : S} {r : R} (h : Ev g a) (k : Ev (fun n => f n a) r) : Ev (fun n => Option.bind (g n) (f n)) r := by
 obtain ⟨n, h⟩ := h
 obtain ⟨m, k⟩ := k
 exact ⟨max n m, fun j hj => by show Option.bind (g j) (f j) = some r; rw [h j (by omega), Option.bind_some]; exact k j (by omega)⟩
theorem Ev.rw {g : Nat → Option R} {r s : R} (h : Ev g r) (e : r = s) : Ev g s := e ▸ h
theorem Ev.pos {c : Bool} {f g : Nat → Option R} {r : R} (hc : c = true) (h : Ev f r) : Ev (fun k => bif c then f k else g k) r := h.congr fun k => by rw [hc]; rfl
theorem Ev.neg {c : Bool} {f g : Nat → Option R} {r : R} (hc : c = false) (h : Ev g r) : Ev (fun k => bif c then f k else g k) r := h.congr fun k => by rw [hc]; rfl
theorem Ev.ex {g : Nat → Option R} {r : R} (h : Ev g r) : ∃ k, g k = some r := by
 obtain ⟨n, h⟩ := h
 exact ⟨n, h n (Nat.le_refl _)⟩
end
def W (x : Int) : Int := IntKind.wrap .i64 x
theorem wrap_id {x : Int} (h0 : -9223372036854775808 ≤ x) (h1 : x ≤ 9223372036854775807) : IntKind.wrap .i64 x = x := by
 have e : IntKind.wrap .i64 x = if (true && decide (x % 18446744073709551616 ≥ 9223372036854775808)) = true then x % 18446744073709551616 - 18446744073709551616 else x % 18446744073709551616 := rfl
 rw [e]
 simp only [Bool.true_and, decide_eq_true_eq]
 split <;> omega
theorem wrap_nat {i : Nat} (h : i < 9223372036854775807) : IntKind.wrap .i64 ((i : Int) + 1) = ((i + 1 : Nat) : Int) := by
 rw [wrap_id (by omega) (by omega)]; omega
theorem getD_at {α : Type} (l : List α) (z : α) (j : Nat) (h : j < l.length) : l.getD j z = l[j] := by simp [List.getD, List.getElem?_eq_getElem h]
theorem dpos {c : Prop} [Decidable c] (h : c) : decide c = true := by simp [h]
theorem dneg {c : Prop} [Decidable c] (h : ¬ c) : decide c = false := by simp [h]
theorem Ev.dp {R : Type} {p : Prop} [Decidable p] {f g : Nat → Option R} {r : R} (h : p) (e : Ev f r) : Ev (fun k => bif decide p then f k else g k) r := Ev.pos (dpos h) e
theorem Ev.dn {R : Type} {p : Prop} [Decidable p] {f g : Nat → Option R} {r : R} (h : ¬ p) (e : Ev g r) : Ev (fun k => bif decide p then f k else g k) r := Ev.neg (dneg h) e
theorem Ev.dd {R : Type} {p q : Prop} [Decidable p] [Decidable q] {f g : Nat → Option R} {r : R} (h : p) (h' : q) (e : Ev f r) : Ev (fun k => bif decide p && decide q then f k else g k) r := Ev.pos (by rw [dpos h, dpos h']; rfl) e
theorem Ev.succ {R : Type} {g : Nat → Option R} {r : R} (h : Ev (fun k => g (k + 1)) r) : Ev g r := Ev.step h fun _ => rfl
/-- A loop over places 0 .. n, backwards. -/
theorem Ev.down {R : Type} {G : Nat → Nat → Option R} {V : Nat → R} (n : Nat) (hend : Ev (G n) (V n)) (hstep : ∀ i, i < n → Ev (G (i + 1)) (V (i + 1)) → Ev (G i) (V i)) : ∀ i, i ≤ n → Ev (G i) (V i) := by
 intro i hi
 obtain ⟨d, rfl⟩ : ∃ d, i = n - d := ⟨n - i, by omega⟩
 clear hi
 induction d with
 | zero => exact hend
 | succ d ih =>
  by_cases h : d < n
  ·have e : n - (d + 1) + 1 = n - d := by omega
   exact hstep (n - (d + 1)) (by omega) (by rw [e]; exact ih)
  ·have e : n - (d + 1) = n - d := by omega
   rw [e]; exact ih
section
variable {α R : Type} {z : α} {l : List α}
/-- What a loop's head asks: is the place one of the list? -/
theorem head_in {i : Nat} (h : i < l.length) : (decide ((i : Int) < (l.length : Int))) = true := dpos (by omega)
theorem head_0 {i : Nat} : (decide (0 ≤ (i : Int))) = true := dpos (by omega)
theorem head_end : (decide ((l.length : Int) < (l.length : Int))) = false := dneg (by omega)
theorem get_in {i : Nat} (h : i < l.length) : l.getD (Int.toNat (i : Int)) z = l[i] := by rw [Int.toNat_natCast]; exact getD_at l z i h
/-- The loops that ask something of each element. -/
theorem each_ev {L : Nat → Int → Option R} {q : Nat → α → (Nat → Option R) → Option R} {tail : Nat → Option R} {V : List α → R} (hlen : l.length ≤ 9223372036854775807)
  (hL : ∀ k a, L (k + 1) a = bif decide (a < (l.length : Int)) then (bif decide (0 ≤ a) && decide (a < (l.length : Int)) then q k (l.getD a.toNat z) (fun j => L j (IntKind.wrap .i64 (a + 1))) else none) else tail k)
  (hend : Ev tail (V [])) (hstep : ∀ x m (g : Nat → Option R), x ∈ l → Ev g (V m) → Ev (fun k => q k x g) (V (x :: m))) : Ev (fun k => L k 0) (V l) := by
 have := Ev.down (G := fun i k => L k (i : Int)) (V := fun i => V (l.drop i)) l.length ?_ ?_ 0 (Nat.zero_le _)
 ·exact this
 ·rw [List.drop_length]
  refine hend.step fun k => ?_
  rw [hL, head_end]; rfl
 ·intro i hi ih
  rw [List.drop_eq_getElem_cons hi]
  refine (hstep l[i] (l.drop (i + 1)) (fun j => L j (((i + 1 : Nat)) : Int)) (List.getElem_mem hi) ih).step fun k => ?_
  show L (k + 1) (i : Int) = _
  rw [hL]
  simp only [head_in hi, head_0, Bool.and_self, cond_true, get_in hi, wrap_nat (show i < 9223372036854775807 by omega)]
/-- slices.IndexFunc. -/
def ixF (p : α → Bool) : List α → Nat → Int
 | [], _ => -1
 | x :: l, i => bif p x then (i : Int) else ixF p l (i + 1)
theorem ixF_any (p : α → Bool) : ∀ (l : List α) (i : Nat), decide (0 ≤ ixF p l i) = l.any p
 | [], i => by simp [ixF]
 | x :: l, i => by
  have ih := ixF_any p l (i + 1)
  rw [List.any_cons]
  unfold ixF
  rcases Bool.eq_false_or_eq_true (p x) with h | h
  ·simp only [h, cond_true, Bool.true_or]; exact dpos (by omega)
  ·simp only [h, cond_false, Bool.false_or]; exact ih
theorem index_ev {p : α → Bool} {q : Nat → α → Option (((Bool × Unit) × Unit) × Unit)} {L : Nat → Int → Int → Option (((Int × Unit) × Unit) × Unit)} (hlen : l.length ≤ 9223372036854775807)
  (hL : ∀ k b a, L (k + 1) b a = bif decide (a < b) then (bif decide (0 ≤ a) && decide (a < (l.length : Int)) then (Option.bind (q k (l.getD a.toNat z)) fun r1 => bif r1.1.1.1 then some (((a, ()), ()), ()) else L k b (IntKind.wrap .i64 (a + 1))) else none) else some (((-1, ()), ()), ()))
  (hq : ∀ x ∈ l, Ev (fun k => q k x) (one (p x))) : Ev (fun k => Option.bind (L k (l.length : Int) 0) fun r1 => some (((decide (0 ≤ r1.1.1.1), ()), ()), ())) (one (l.any p)) := by
 have := Ev.down (G := fun i k => L k (l.length : Int) (i : Int)) (V := fun i => one (ixF p (l.drop i) i)) l.length ?_ ?_ 0 (Nat.zero_le _)
 ·refine (Ev.bind (f := fun _ r1 => some (((decide (0 ≤ r1.1.1.1), ()), ()), ())) this (Ev.cst rfl)).rw ?_
  show one (decide (0 ≤ ixF p l 0)) = _
  rw [ixF_any]
 ·rw [List.drop_length]
  refine Ev.step (g' := fun _ => some (((-1, ()), ()), ())) (Ev.cst rfl) fun k => ?_
  show L (k + 1) _ _ = _
  rw [hL, head_end]; rfl
 ·intro i hi ih
  rw [List.drop_eq_getElem_cons hi]
  have h1 := hq l[i] (List.getElem_mem hi)
  refine Ev.step (g' := fun k => Option.bind (q k l[i]) fun r1 => bif r1.1.1.1 then some ((((i : Int), ()), ()), ()) else L k (l.length : Int) ((i + 1 : Nat) : Int)) ?_ fun k => ?_
  ·refine Ev.bind h1 ?_
   simp only [ixF]
   cases p l[i] with
   | true => exact Ev.cst rfl
   | false => exact ih
  ·show L (k + 1) _ _ = _
   rw [hL]
   simp only [head_in hi, head_0, Bool.and_self, cond_true, get_in hi, wrap_nat (show i < 9223372036854775807 by omega)]
end
/-- All lists are short. -/
def Small : (t : T) → t.Den → Prop
 | .list t, xs => List.length (α := t.Den) xs ≤ 1048576 ∧ ∀ x : t.Den, List.Mem (α := t.Den) x xs → Small t x
 | .pair a b, x => Small a (Prod.fst (α := a.Den) (β := b.Den) x) ∧ Small b (Prod.snd (α := a.Den) (β := b.Den) x)
 | _, _ => True
abbrev IR := (((Int × Unit) × Unit) × Unit)
abbrev BR := (((Bool × Unit) × Unit) × Unit)
def SzP {α : Type} (wf small : α → Prop) (f : Nat → α → Int → Option IR) : Prop := ∀ (x : α), wf x → ∀ n : Int, 0 ≤ n → n ≤ 1048576 → ∃ s, Ev (fun k => f k x n) (one s) ∧ -1 ≤ s ∧ s ≤ n ∧ (0 ≤ s → small x)
abbrev SzOK (t : T) (f : Nat → t.Den → Int → Option IR) : Prop := SzP (Wf t) (Small t) f
theorem sz_list {α : Type} {wf small : α → Prop} {z : α} {f : Nat → α → Int → Option IR} (hf : SzP wf small f) {L : Nat → List α → Int → Int → Option IR} {F : Nat → List α → Int → Option IR}
  (hL : ∀ k l a1 a2, L (k + 1) l a1 a2 = bif decide (a2 < (l.length : Int)) then (bif decide (0 ≤ a2) && decide (a2 < (l.length : Int)) then (Option.bind (f k (l.getD a2.toNat z) a1) fun r1 => bif decide (r1.1.1.1 < 0) then some (((-1, ()), ()), ()) else L k l r1.1.1.1 (IntKind.wrap .i64 (a2 + 1))) else none) else some (((a1, ()), ()), ()))
  (hF : ∀ k l a, F k l a = bif decide (IntKind.wrap .i64 (a - (l.length : Int)) < 0) then some (((-1, ()), ()), ()) else L k l (IntKind.wrap .i64 (a - (l.length : Int))) 0) : SzP (fun l : List α => l.length ≤ 9223372036854775807 ∧ ∀ x ∈ l, wf x) (fun l : List α => l.length ≤ 1048576 ∧ ∀ x ∈ l, small x) F := by
 intro l hw n h0 h1
 obtain ⟨hlen, hel⟩ := hw
 have key : ∀ (d i : Nat) (n : Int), i + d = l.length → 0 ≤ n → n ≤ 1048576 → ∃ s, Ev (fun k => L k l n (i : Int)) (one s) ∧ -1 ≤ s ∧ s ≤ n ∧ (0 ≤ s → ∀ x ∈ l.drop i, small x) := by
  intro d
  induction d with
  | zero =>
   intro i n hi h0 h1
   have hi' : i = l.length := by omega
   subst hi'
   refine ⟨n, Ev.step (g' := fun _ => some (one n)) (Ev.cst rfl) fun k => ?_, by omega, Int.le_refl _, fun _ x hx => by rw [List.drop_length] at hx; cases hx⟩
   rw [hL, head_end]; rfl
  | succ d ih =>
   intro i n hi h0 h1
   have hi' : i < l.length := by omega
   have hmem : l[i] ∈ l := List.getElem_mem hi'
   obtain ⟨s, e1, e2, e3, e4⟩ := hf (l[i]) (hel _ hmem) n h0 h1
   have hstep : ∀ k, L (k + 1) l n (i : Int) = Option.bind (f k (l[i]) n) fun r1 => bif decide (r1.1.1.1 < 0) then some (((-1, ()), ()), ()) else L k l r1.1.1.1 ((i + 1 : Nat) : Int) := fun k => by
    rw [hL]
    simp only [head_in hi', head_0, Bool.and_self, cond_true, get_in hi', wrap_nat (show i < 9223372036854775807 by omega)]
   rcases Int.lt_or_le s 0 with hs | hs
   ·refine ⟨-1, Ev.step (Ev.bind (f := fun k r1 => bif decide (r1.1.1.1 < 0) then some (((-1, ()), ()), ()) else L k l r1.1.1.1 ((i + 1 : Nat) : Int)) e1 ?_) hstep, by omega, by omega, fun h => by omega⟩
    exact Ev.pos (dpos hs) (Ev.cst rfl)
   ·obtain ⟨s', q1, q2, q3, q4⟩ := ih (i + 1) s (by omega) hs (by omega)
    refine ⟨s', Ev.step (Ev.bind (f := fun k r1 => bif decide (r1.1.1.1 < 0) then some (((-1, ()), ()), ()) else L k l r1.1.1.1 ((i + 1 : Nat) : Int)) e1 (Ev.neg (dneg (show ¬ s < 0 by omega)) q1)) hstep, q2, by omega, fun h x hx => ?_⟩
    rw [List.drop_eq_getElem_cons hi'] at hx
    rcases List.mem_cons.1 hx with rfl | hx
    ·exact e4 hs
    ·exact q4 h x hx
 have hw : IntKind.wrap .i64 (n - (l.length : Int)) = n - (l.length : Int) := wrap_id (by omega) (by omega)
 rcases Int.lt_or_le (n - (l.length : Int)) 0 with hs | hs
 ·refine ⟨-1, (Ev.cst rfl : Ev (fun _ => some (one (-1 : Int))) _).congr fun k => ?_, by omega, by omega, fun h => by omega⟩
  rw [hF, hw, dpos hs]; rfl
 ·obtain ⟨s, q1, q2, q3, q4⟩ := key (l.length) 0 _ (by omega) hs (by omega)
  refine ⟨s, q1.congr fun k => ?_, q2, by omega, fun h => ⟨by omega, fun x hx => q4 h x (by simpa using hx)⟩⟩
  rw [hF, hw, dneg (by omega)]; rfl
/-- A copy, element by element. -/
theorem to_list {α R : Type} {z : α} {L : Nat → List α → Int → List α → Option (((Unit × Unit) × Unit) × (List α × Unit))} {q : Nat → α → (α → Option (((Unit × Unit) × Unit) × (List α × Unit))) → Option (((Unit × Unit) × Unit) × (List α × Unit))} {F : Nat → List α → Option (((Unit × Unit) × Unit) × (List α × Unit))} {b : Int}
  (hL : ∀ k l a1 a2, L (k + 1) l a1 a2 = bif decide (a1 < (l.length : Int)) then (bif decide (0 ≤ a1) && decide (a1 < (l.length : Int)) then q k (l.getD a1.toNat z) (fun y => bif decide (0 ≤ a1) && decide (a1 < (a2.length : Int)) then L k l (IntKind.wrap .i64 (a1 + 1)) (a2.set a1.toNat y) else none) else none) else some ((((), ()), ()), (a2, ())))
  (hF : ∀ k l, F k l = bif decide ((l.length : Int) = (l.length : Int)) && decide (0 ≤ (l.length : Int)) && decide ((l.length : Int) * b ≤ 281474976710656) then L k l 0 (List.replicate (Int.toNat (l.length : Int)) z) else none)
  {l : List α} (hlen : l.length ≤ 1048576) (hb0 : 0 ≤ b) (hb : b ≤ 1000) (hq : ∀ x ∈ l, ∀ (h : Nat → α → Option (((Unit × Unit) × Unit) × (List α × Unit))) r, Ev (fun k => h k x) r → Ev (fun k => q k x (h k)) r) : Ev (fun k => F k l) (rowR l) := by
 have h1 := Ev.down (G := fun i k => L k l (i : Int) (l.take i ++ List.replicate (l.length - i) z)) (V := fun _ => rowR l) l.length ?_ ?_ 0 (Nat.zero_le _)
 ·refine h1.congr fun k => ?_
  have hsz : (l.length : Int) * b ≤ 281474976710656 := by
   have : (l.length : Int) * b ≤ 1048576 * 1000 := Int.mul_le_mul (by omega) hb hb0 (by omega)
   omega
  rw [hF, dpos rfl, dpos (show 0 ≤ (l.length : Int) by omega), dpos hsz]
  simp
 ·refine Ev.step (g' := fun _ => some (rowR l)) (Ev.cst rfl) fun k => ?_
  show L (k + 1) l _ _ = _
  rw [hL, head_end]
  simp
 ·intro i hi ih
  refine Ev.step (g' := fun k => q k l[i] (fun y => bif decide (0 ≤ (i : Int)) && decide ((i : Int) < (((l.take i ++ List.replicate (l.length - i) z).length : Nat) : Int)) then L k l ((i + 1 : Nat) : Int) ((l.take i ++ List.replicate (l.length - i) z).set i y) else none)) (hq _ (List.getElem_mem hi) (fun k y => bif decide (0 ≤ (i : Int)) && decide ((i : Int) < (((l.take i ++ List.replicate (l.length - i) z).length : Nat) : Int)) then L k l ((i + 1 : Nat) : Int) ((l.take i ++ List.replicate (l.length - i) z).set i y) else none) _ ?_) fun k => ?_
  ·refine Ev.pos ?_ (ih.congr fun k => ?_)
   ·rw [dpos (by omega), dpos (by simp; omega)]; rfl
   ·congr 1
    rw [List.set_append_right _ _ (by simp; omega)]
    have e1 : i - (l.take i).length = 0 := by simp; omega
    have e2 : l.length - i = (l.length - (i + 1)) + 1 := by omega
    rw [e1, e2, List.replicate_succ, List.set_cons_zero, List.take_succ_eq_append_getElem hi, List.append_assoc]
    rfl
  ·show L (k + 1) l _ _ = _
   rw [hL]
   simp only [head_in hi, head_0, Bool.and_self, cond_true, get_in hi, wrap_nat (show i < 9223372036854775807 by omega), Int.toNat_natCast]
   rw [getD_at l z i hi]
/-- A list compared with itself. -/
theorem eq_list {α : Type} {z : α} {L : Nat → List α → List α → Int → Option BR} {q : Nat → α → α → Option BR → Option BR} {F : Nat → List α → List α → Option BR}
  (hL : ∀ k l m a, L (k + 1) l m a = bif decide (a < (l.length : Int)) then (bif decide (0 ≤ a) && decide (a < (l.length : Int)) then (bif decide (0 ≤ a) && decide (a < (m.length : Int)) then q k (l.getD a.toNat z) (m.getD a.toNat z) (L k l m (IntKind.wrap .i64 (a + 1))) else none) else none) else some (((true, ()), ()), ()))
  (hF : ∀ k l m, F k l m = bif !decide ((l.length : Int) = (m.length : Int)) then some (((false, ()), ()), ()) else L k l m 0)
  {l : List α} (hlen : l.length ≤ 1048576) (hq : ∀ x ∈ l, ∀ (g : Nat → Option BR) r, Ev g r → Ev (fun k => q k x x (g k)) r) : Ev (fun k => F k l l) (one true) := by
 have h1 := Ev.down (G := fun i k => L k l l (i : Int)) (V := fun _ => one true) l.length ?_ ?_ 0 (Nat.zero_le _)
 ·refine h1.congr fun k => ?_
  rw [hF, dpos rfl]; rfl
 ·refine Ev.step (g' := fun _ => some (one true)) (Ev.cst rfl) fun k => ?_
  show L (k + 1) l l _ = _
  rw [hL, head_end]; rfl
 ·intro i hi ih
  refine Ev.step (hq _ (List.getElem_mem hi) (fun k => L k l l ((i + 1 : Nat) : Int)) _ ih) fun k => ?_
  show L (k + 1) l l _ = _
  rw [hL]
  simp only [head_in hi, head_0, Bool.and_self, cond_true, get_in hi, wrap_nat (show i < 9223372036854775807 by omega)]
theorem sz_then {n s : Int} {g : Nat → Option IR} (h : Ev g (one s)) : Ev (fun k => Option.bind (g k) fun r1 => bif decide (r1.1.1.1 < 0) then some (((-1, ()), ()), ()) else some (((r1.1.1.1, ()), ()), ())) (one (if s < 0 then -1 else s)) := by
 refine Ev.bind h ?_
 by_cases hs : s < 0
 ·rw [if_pos hs]; exact Ev.pos (dpos hs) (Ev.cst rfl)
 ·rw [if_neg hs]; exact Ev.neg (dneg hs) (Ev.cst rfl)
theorem szInts : SzOK (.list (.int .i64)) U0.f := by
 intro l hw n h0 h1
 have hlen : List.length (α := Int) l ≤ 9223372036854775807 := hw.1
 have hwr : IntKind.wrap .i64 (n - (List.length (α := Int) l : Int)) = n - (List.length (α := Int) l : Int) := wrap_id (by omega) (by omega)
 have he : ∀ k, U0.f k l n = bif decide (n - (List.length (α := Int) l : Int) < 0) then some (one (-1)) else some (one (n - (List.length (α := Int) l : Int))) := fun k => by
  show (bif decide (IntKind.wrap .i64 (n - (List.length (α := Int) l : Int)) < 0) then _ else _) = _
  rw [hwr]
 by_cases hs : n - (List.length (α := Int) l : Int) < 0
 ·exact ⟨-1, Ev.all fun k => by rw [he, dpos hs]; rfl, by omega, by omega, fun h => by omega⟩
 ·exact ⟨_, Ev.all fun k => by rw [he, dneg hs]; rfl, by omega, by omega, fun h => ⟨by show List.length (α := Int) l ≤ _; omega, fun _ _ => trivial⟩⟩
theorem szPhi : SzOK tPhi U1.f := by
 intro x hw n h0 h1
 obtain ⟨s, e, a, b, c⟩ := szInts _ hw.2.1 n h0 h1
 exact ⟨_, sz_then (n := n) e, by split <;> omega, by split <;> omega, fun h => ⟨trivial, c (by split at h <;> omega), trivial⟩⟩
theorem szPhiS : SzOK (.list tPhi) U2.f := sz_list (z := tPhiZ) szPhi (L := U2.l0) (fun k l a b => rfl) fun k l a => rfl
theorem szInst : SzOK tInst U3.f := by
 intro x hw n h0 h1
 obtain ⟨s, e, a, b, c⟩ := szInts _ hw.2.2.2.2.2.2.1 n h0 h1
 exact ⟨_, sz_then (n := n) e, by split <;> omega, by split <;> omega, fun h => ⟨trivial, trivial, trivial, trivial, trivial, trivial, c (by split at h <;> omega), trivial⟩⟩
theorem szInstS : SzOK (.list tInst) U4.f := sz_list (z := tInstZ) szInst (L := U4.l0) (fun k l a b => rfl) fun k l a => rfl
theorem sz_two {n s : Int} {g : Nat → Option IR} {f : Nat → Int → Option IR} {r : Int} (h : Ev g (one s)) (h' : 0 ≤ s → Ev (fun k => f k s) (one r)) (hr : s < 0 → r = -1) : Ev (fun k => Option.bind (g k) fun r1 => bif decide (r1.1.1.1 < 0) then some (((-1, ()), ()), ()) else f k r1.1.1.1) (one r) := by
 refine Ev.bind h ?_
 by_cases hs : s < 0
 ·rw [hr hs]; exact Ev.pos (dpos hs) (Ev.cst rfl)
 ·exact Ev.neg (dneg hs) (h' (by omega))
theorem szBlock : SzOK tBlock U5.f := by
 intro x hw n h0 h1
 obtain ⟨s, e, a, b, c⟩ := szPhiS _ hw.1 n h0 h1
 by_cases hs : s < 0
 ·exact ⟨-1, sz_two (n := n) (f := fun k s => Option.bind (U4.f k x.2.1 s) fun r1 => bif decide (r1.1.1.1 < 0) then some (((-1, ()), ()), ()) else some (((r1.1.1.1, ()), ()), ())) e (fun h => by omega) (fun _ => rfl), by omega, by omega, fun h => by omega⟩
 ·obtain ⟨s', e', a', b', c'⟩ := szInstS _ hw.2.1 s (by omega) (by omega)
  exact ⟨_, sz_two (n := n) (f := fun k s => Option.bind (U4.f k x.2.1 s) fun r1 => bif decide (r1.1.1.1 < 0) then some (((-1, ()), ()), ()) else some (((r1.1.1.1, ()), ()), ())) e (fun _ => sz_then (n := n) e') (fun h => by omega), by split <;> omega, by split <;> omega, fun h => ⟨c (by omega), c' (by split at h <;> omega), trivial, trivial, trivial, trivial, trivial⟩⟩
theorem szBlockS : SzOK (.list tBlock) U6.f := sz_list (z := tBlockZ) szBlock (L := U6.l0) (fun k l a b => rfl) fun k l a => rfl
theorem szFunc : SzOK tFunc U7.f := by
 intro x hw n h0 h1
 obtain ⟨s, e, a, b, c⟩ := szInts _ hw.1 n h0 h1
 by_cases hs : s < 0
 ·exact ⟨-1, sz_two (n := n) (f := fun k s => Option.bind (U6.f k x.2.2.1 s) fun r1 => bif decide (r1.1.1.1 < 0) then some (((-1, ()), ()), ()) else some (((r1.1.1.1, ()), ()), ())) e (fun h => by omega) (fun _ => rfl), by omega, by omega, fun h => by omega⟩
 ·obtain ⟨s', e', a', b', c'⟩ := szBlockS _ hw.2.2.1 s (by omega) (by omega)
  exact ⟨_, sz_two (n := n) (f := fun k s => Option.bind (U6.f k x.2.2.1 s) fun r1 => bif decide (r1.1.1.1 < 0) then some (((-1, ()), ()), ()) else some (((r1.1.1.1, ()), ()), ())) e (fun _ => sz_then (n := n) e') (fun h => by omega), by split <;> omega, by split <;> omega, fun h => ⟨c (by omega), trivial, c' (by split at h <;> omega), trivial⟩⟩
theorem toInts {l : List Int} (h : Small (.list (.int .i64)) l) : Ev (fun k => U8.f k l) (rowR l) :=
 to_list (z := 0) (L := U8.l0) (q := fun k x h => h x) (b := 8) (R := Unit) (fun k l a b => rfl) (fun k l => rfl) h.1 (by omega) (by omega) fun x _ h r hh => hh
theorem toPhi {x : tPhiD} (h : Small tPhi x) : Ev (fun k => U9.f k x) (((x.1, (), ()), ()), (x.2.1, ())) := Ev.bind (toInts h.2.1) (Ev.cst rfl)
theorem toPhiS {l : List tPhiD} (h : Small (.list tPhi) l) : Ev (fun k => U10.f k l) (rowR l) :=
 to_list (z := tPhiZ) (L := U10.l0) (q := fun k x h => Option.bind (U9.f k x) fun r1 => h (r1.1.1.1, r1.2.1, ())) (b := 32) (R := Unit) (fun k l a b => rfl) (fun k l => rfl) h.1 (by omega) (by omega) fun x hx g r hh => Ev.bind (toPhi (h.2 x hx)) hh
theorem toInst {x : tInstD} (h : Small tInst x) : Ev (fun k => U11.f k x) (((x.1, x.2.1, x.2.2.1, x.2.2.2.1, x.2.2.2.2.1, x.2.2.2.2.2.1, (), ()), ()), (x.2.2.2.2.2.2.1, ())) := Ev.bind (toInts h.2.2.2.2.2.2.1) (Ev.cst rfl)
theorem toInstS {l : List tInstD} (h : Small (.list tInst) l) : Ev (fun k => U12.f k l) (rowR l) :=
 to_list (z := tInstZ) (L := U12.l0) (q := fun k x h => Option.bind (U11.f k x) fun r1 => h (r1.1.1.1, r1.1.1.2.1, r1.1.1.2.2.1, r1.1.1.2.2.2.1, r1.1.1.2.2.2.2.1, r1.1.1.2.2.2.2.2.1, r1.2.1, ())) (b := 72) (R := Unit) (fun k l a b => rfl) (fun k l => rfl) h.1 (by omega) (by omega) fun x hx g r hh => Ev.bind (toInst (h.2 x hx)) hh
theorem toBlock {x : tBlockD} (h : Small tBlock x) : Ev (fun k => U14.f k x) ((((), (), x.2.2.1, x.2.2.2.1, x.2.2.2.2.1, x.2.2.2.2.2.1, ()), ()), (x.1, x.2.1, ())) := Ev.bind (toPhiS h.1) (Ev.bind (toInstS h.2.1) (Ev.cst rfl))
theorem toBlockS {l : List tBlockD} (h : Small (.list tBlock) l) : Ev (fun k => U15.f k l) (rowR l) :=
 to_list (z := tBlockZ) (L := U15.l0) (q := fun k x h => Option.bind (U14.f k x) fun r1 => h (r1.2.1, r1.2.2.1, r1.1.1.2.2.1, r1.1.1.2.2.2.1, r1.1.1.2.2.2.2.1, r1.1.1.2.2.2.2.2.1, ())) (b := 80) (R := Unit) (fun k l a b => rfl) (fun k l => rfl) h.1 (by omega) (by omega) fun x hx g r hh => Ev.bind (toBlock (h.2 x hx)) hh
theorem toFunc {x : tFuncD} (h : Small tFunc x) : Ev (fun k => U16.f k x) ((((), x.2.1, (), ()), ()), (x.1, x.2.2.1, ())) := Ev.bind (toInts h.1) (Ev.bind (toBlockS h.2.2.1) (Ev.cst rfl))
theorem eqInts {l : List Int} (h : Small (.list (.int .i64)) l) : Ev (fun k => U82.f k l l) (one true) :=
 eq_list (z := 0) (L := U82.l0) (q := fun k x y g => bif !decide (x = y) then some (((false, ()), ()), ()) else g) (fun k l m a => rfl) (fun k l m => rfl) h.1 fun x _ g r hh => Ev.neg (by rw [dpos rfl]; rfl) hh
theorem Ev.skip {R : Type} {n : Int} {o : Option R} {g : Nat → Option R} {r : R} (h : Ev g r) : Ev (fun k => bif !decide (n = n) then o else g k) r := Ev.neg (by rw [dpos rfl]; rfl) h
theorem Ev.yes {g : Nat → Option BR} {f : Nat → Option BR} {o : Option BR} {r : BR} (h : Ev g (one true)) (hf : Ev f r) : Ev (fun k => Option.bind (g k) fun r1 => bif !r1.1.1.1 then o else f k) r := Ev.bind h (Ev.neg rfl hf)
theorem eqPhi {x : tPhiD} (h : Small tPhi x) : Ev (fun k => U83.f k x x) (one true) := Ev.skip (Ev.yes (eqInts h.2.1) (Ev.cst rfl))
theorem eqPhiS {l : List tPhiD} (h : Small (.list tPhi) l) : Ev (fun k => U84.f k l l) (one true) :=
 eq_list (z := tPhiZ) (L := U84.l0) (q := fun k x y g => Option.bind (U83.f k x y) fun r1 => bif !r1.1.1.1 then some (((false, ()), ()), ()) else g) (fun k l m a => rfl) (fun k l m => rfl) h.1 fun x hx g r hh => Ev.yes (eqPhi (h.2 x hx)) hh
theorem eqInst {x : tInstD} (h : Small tInst x) : Ev (fun k => U85.f k x x) (one true) := Ev.skip (Ev.skip (Ev.skip (Ev.skip (Ev.skip (Ev.skip (Ev.yes (eqInts h.2.2.2.2.2.2.1) (Ev.cst rfl)))))))
theorem eqInstS {l : List tInstD} (h : Small (.list tInst) l) : Ev (fun k => U86.f k l l) (one true) :=
 eq_list (z := tInstZ) (L := U86.l0) (q := fun k x y g => Option.bind (U85.f k x y) fun r1 => bif !r1.1.1.1 then some (((false, ()), ()), ()) else g) (fun k l m a => rfl) (fun k l m => rfl) h.1 fun x hx g r hh => Ev.yes (eqInst (h.2 x hx)) hh
theorem eqTerm {x : tTermD} : Ev (fun k => U87.f k x x) (one true) := Ev.skip (Ev.skip (Ev.skip (Ev.skip (Ev.cst rfl))))
theorem eqBlock {x : tBlockD} (h : Small tBlock x) : Ev (fun k => U88.f k x x) (one true) := Ev.yes (eqPhiS h.1) (Ev.yes (eqInstS h.2.1) (Ev.yes eqTerm (Ev.cst rfl)))
theorem eqBlockS {l : List tBlockD} (h : Small (.list tBlock) l) : Ev (fun k => U89.f k l l) (one true) :=
 eq_list (z := tBlockZ) (L := U89.l0) (q := fun k x y g => Option.bind (U88.f k x y) fun r1 => bif !r1.1.1.1 then some (((false, ()), ()), ()) else g) (fun k l m a => rfl) (fun k l m => rfl) h.1 fun x hx g r hh => Ev.yes (eqBlock (h.2 x hx)) hh
theorem eqFunc {x : tFuncD} (h : Small tFunc x) : Ev (fun k => U90.f k x x) (one true) := Ev.yes (eqInts h.1) (Ev.skip (Ev.yes (eqBlockS h.2.2.1) (Ev.cst rfl)))
def inB (lo hi x : Int) : Bool := decide (lo ≤ x) && decide (x ≤ hi)
def wOk (w : Int) : Bool := decide (w = 1) || decide (w = 8) || decide (w = 16) || decide (w = 32)
def opsB (i : tInstD) : List Int :=
 bif inB 1 17 i.1 then [i.2.2.1, i.2.2.2.1] else bif decide (i.1 = 24) then [i.2.2.1, i.2.2.2.1] else bif inB 18 20 i.1 then [i.2.2.1] else bif decide (i.1 = 23) then [i.2.2.1] else bif decide (i.1 = 25) then [i.2.2.1] else bif decide (i.1 = 27) then [i.2.2.1] else
 bif decide (i.1 = 22) then [i.2.2.1, i.2.2.2.1, i.2.2.2.2.1] else bif decide (i.1 = 26) then i.2.2.2.2.2.2.1 else []
theorem specIn (k : Nat) (a lo hi : Int) : U19.f k a lo hi = some (one (inB lo hi a)) := by
 unfold U19.f inB
 cases decide (lo ≤ a) <;> rfl
theorem implIn (k : Nat) (a lo hi : Int) : U38.f k a lo hi = some (one (inB lo hi a)) := by
 unfold U38.f inB
 cases decide (lo ≤ a) <;> rfl
theorem specW (k : Nat) (a : Int) : U18.f k a = some (one (wOk a)) := by
 unfold U18.f wOk
 cases decide (a = 1) <;> cases decide (a = 8) <;> cases decide (a = 16) <;> rfl
theorem implW (k : Nat) (a : Int) : U37.f k a = some (one (wOk a)) := by
 unfold U37.f wOk
 cases decide (a = 1) <;> cases decide (a = 8) <;> cases decide (a = 16) <;> rfl
theorem specCopy (k : Nat) {l : List Int} (h : l.length ≤ 1048576) : U20.f k l = some (rowR l) := by
 unfold U20.f
 rw [dpos (by simp; omega)]; rfl
theorem implClone (k : Nat) {l : List Int} (h : l.length ≤ 1048576) : slices_Clone_int64_int64.f k l = some (rowR l) := by
 unfold slices_Clone_int64_int64.f cloneF
 rw [dpos (by omega)]; rfl
theorem specOps (k : Nat) {i : tInstD} (h : i.2.2.2.2.2.2.1.length ≤ 1048576) : U21.f k i = some (rowR (opsB i)) := by
 unfold U21.f opsB
 simp only [specIn, specCopy k h, Option.bind_some]
 cases inB 1 17 i.1
 ·cases decide (i.1 = 24)
  ·cases inB 18 20 i.1
   ·cases decide (i.1 = 23)
    ·cases decide (i.1 = 25)
     ·cases decide (i.1 = 27)
      ·cases decide (i.1 = 22)
       ·cases decide (i.1 = 26) <;> rfl
       ·rfl
      ·rfl
     ·rfl
    ·rfl
   ·rfl
  ·rfl
 ·rfl
theorem implBin (k : Nat) (a : Int) : U49.f k a = some (one (inB 1 17 a)) := by
 unfold U49.f
 rw [implIn]; rfl
theorem implCast (k : Nat) (a : Int) : U50.f k a = some (one (inB 18 20 a)) := by
 unfold U50.f
 rw [implIn]; rfl
theorem implOps (k : Nat) {i : tInstD} (h : i.2.2.2.2.2.2.1.length ≤ 1048576) : U51.f k i = some (rowR (opsB i)) := by
 unfold U51.f opsB
 simp only [implBin, implCast, implClone k h, Option.bind_some]
 cases inB 1 17 i.1
 ·cases decide (i.1 = 24)
  ·cases inB 18 20 i.1
   ·cases decide (i.1 = 23)
    ·cases decide (i.1 = 25)
     ·cases decide (i.1 = 27)
      ·cases decide (i.1 = 22)
       ·cases decide (i.1 = 26) <;> rfl
       ·rfl
      ·rfl
     ·rfl
    ·rfl
   ·rfl
  ·rfl
 ·rfl
def topOf (w : Int) : Int := bif decide (w = 1) then 1 else bif decide (w = 8) then 255 else bif decide (w = 16) then 65535 else 4294967295
def valB (w x : Int) : Bool := wOk w && inB 0 (topOf w) x
theorem wOk_cases {w : Int} (h : wOk w = true) : w = 1 ∨ w = 8 ∨ w = 16 ∨ w = 32 := by
 simp only [wOk, Bool.or_eq_true, decide_eq_true_eq] at h
 omega
theorem specVal (k : Nat) (w x : Int) : U23.f k w x = some (one (valB w x)) := by
 unfold U23.f valB
 simp only [specW, Option.bind_some]
 cases h : wOk w with
 | false => rfl
 | true => rcases wOk_cases h with rfl | rfl | rfl | rfl <;> (unfold U22.f; simp only [specIn]; rfl)
theorem implVal (k : Nat) (w x : Int) : U60.f k w x = some (one (valB w x)) := by
 unfold U60.f valB
 simp only [implW, Option.bind_some]
 cases h : wOk w with
 | false => rfl
 | true => rcases wOk_cases h with rfl | rfl | rfl | rfl <;> (unfold U59.f; simp only [implIn]; rfl)
def widB (i : tInstD) : Bool := bif decide (i.1 = 24) || decide (i.1 = 25) then decide (i.2.1 = 0) else bif decide (i.1 = 23) then decide (i.2.1 = 8) else wOk i.2.1
def immB (i : tInstD) (funcs : Int) : Bool := bif decide (i.1 = 21) then valB i.2.1 i.2.2.2.2.2.1 else bif decide (i.1 = 26) then inB 0 (funcs - 1) i.2.2.2.2.2.1 else decide (i.2.2.2.2.2.1 = 0)
def named (i : tInstD) : Nat := bif decide (i.1 = 26) then 0 else (opsB i).length
def zerosB (i : tInstD) : Bool := ([i.2.2.1, i.2.2.2.1, i.2.2.2.2.1].drop (named i)).all fun n => decide (n = 0)
def instB (count funcs : Int) (i : tInstD) : Bool :=
 inB 1 27 i.1 && decide (i.2.2.2.2.2.2.1.length ≤ 4) && (decide (i.2.2.2.2.2.2.1.length = 0) || decide (i.1 = 26)) && (opsB i).all (inB 0 (count - 1)) && zerosB i && widB i && immB i funcs
theorem implWid (k : Nat) (i : tInstD) : U58.f k i = some (one (widB i)) := by
 unfold U58.f widB
 simp only [implW, Option.bind_some]
 by_cases h : i.1 = 24
 ·simp [h]
 ·by_cases h2 : i.1 = 25
  ·simp [h2]
  ·simp only [dneg h, dneg h2, cond_false, Bool.or_self]
   cases decide (i.1 = 23) <;> rfl
theorem implImm (k : Nat) (i : tInstD) {funcs : Int} (h0 : 0 ≤ funcs) (h1 : funcs ≤ 9223372036854775807) : U61.f k i funcs = some (one (immB i funcs)) := by
 unfold U61.f immB
 simp only [implVal, implIn, Option.bind_some, wrap_id (show -9223372036854775808 ≤ funcs - 1 by omega) (show funcs - 1 ≤ 9223372036854775807 by omega)]
 cases decide (i.1 = 21) <;> cases decide (i.1 = 26) <;> rfl
def termB (count blocks : Int) (t : tTermD) : Bool :=
 bif decide (t.1 = 1) then inB 0 (count - 1) t.2.1 && decide (t.2.2.1 = 0) && decide (t.2.2.2.1 = 0) else
 bif decide (t.1 = 2) then decide (t.2.1 = 0) && inB 0 (blocks - 1) t.2.2.1 && decide (t.2.2.2.1 = 0) else
 bif decide (t.1 = 3) then inB 0 (count - 1) t.2.1 && inB 0 (blocks - 1) t.2.2.1 && inB 0 (blocks - 1) t.2.2.2.1 && !decide (t.2.2.1 = t.2.2.2.1) else
 decide (t.1 = 4) && decide (t.2.1 = 0) && decide (t.2.2.1 = 0) && decide (t.2.2.2.1 = 0)
theorem specTerm (k : Nat) (t : tTermD) {count blocks : Int} (h0 : 0 ≤ count) (h1 : count ≤ 9223372036854775807) (h2 : 0 ≤ blocks) (h3 : blocks ≤ 9223372036854775807) : U25.f k t count blocks = some (one (termB count blocks t)) := by
 unfold U25.f termB
 simp only [specIn, Option.bind_some, wrap_id (show -9223372036854775808 ≤ count - 1 by omega) (show count - 1 ≤ 9223372036854775807 by omega), wrap_id (show -9223372036854775808 ≤ blocks - 1 by omega) (show blocks - 1 ≤ 9223372036854775807 by omega)]
 cases decide (t.1 = 1)
 ·cases decide (t.1 = 2)
  ·cases decide (t.1 = 3)
   ·cases decide (t.1 = 4) <;> cases decide (t.2.1 = 0) <;> cases decide (t.2.2.1 = 0) <;> rfl
   ·cases inB 0 (count - 1) t.2.1 <;> cases inB 0 (blocks - 1) t.2.2.1 <;> cases inB 0 (blocks - 1) t.2.2.2.1 <;> rfl
  ·cases decide (t.2.1 = 0) <;> cases inB 0 (blocks - 1) t.2.2.1 <;> rfl
 ·cases inB 0 (count - 1) t.2.1 <;> cases decide (t.2.2.1 = 0) <;> rfl
theorem implTerm1 (k : Nat) (a : Int) {f : tFuncD} (h : f.2.2.1.length ≤ 1048576) : U66.f k a f = some (one (inB 0 ((f.2.2.1.length : Int) - 1) a)) := by
 unfold U66.f
 rw [implIn, wrap_id (by omega) (by omega)]; rfl
theorem implTerm (k : Nat) (t : tTermD) {f : tFuncD} (h : f.2.2.1.length ≤ 1048576) {count : Int} (h0 : 0 ≤ count) (h1 : count ≤ 9223372036854775807) : U67.f k f t count = some (one (termB count (f.2.2.1.length : Int) t)) := by
 unfold U67.f termB
 simp only [implIn, implTerm1 k _ h, Option.bind_some, wrap_id (show -9223372036854775808 ≤ count - 1 by omega) (show count - 1 ≤ 9223372036854775807 by omega)]
 generalize (f.2.2.1.length : Int) = blocks
 cases decide (t.1 = 1)
 ·cases decide (t.1 = 2)
  ·cases decide (t.1 = 3)
   ·cases decide (t.1 = 4) <;> cases decide (t.2.1 = 0) <;> cases decide (t.2.2.1 = 0) <;> rfl
   ·cases inB 0 (count - 1) t.2.1 <;> cases inB 0 (blocks - 1) t.2.2.1 <;> cases inB 0 (blocks - 1) t.2.2.2.1 <;> rfl
  ·cases decide (t.2.1 = 0) <;> cases inB 0 (blocks - 1) t.2.2.1 <;> rfl
 ·cases inB 0 (count - 1) t.2.1 <;> cases decide (t.2.2.1 = 0) <;> rfl
theorem any_not {α : Type} {p : α → Bool} : ∀ {l : List α}, (l.any fun x => !p x) = !l.all p
 | [] => rfl
 | x :: l => by simp only [List.any_cons, List.all_cons, any_not (l := l), Bool.not_and]
theorem implIn1 {l : List Int} (h : l.length ≤ 1048576) {count : Int} (h0 : 0 ≤ count) (h1 : count ≤ 9223372036854775807) : Ev (fun k => U54.f k l count) (one (!l.all (inB 0 (count - 1)))) := by
 rw [← any_not]
 exact index_ev (z := 0) (L := fun k b a => U53.l0 k l b a count) (q := fun k x => U52.f k x count) (by omega) (fun k b a => rfl) fun x _ => Ev.all fun k => by
  unfold U52.f
  rw [implIn, wrap_id (by omega) (by omega)]; rfl
theorem implZero {l : List Int} (h : l.length ≤ 1048576) : Ev (fun k => U57.f k l) (one (!l.all fun n => decide (n = 0))) := by
 rw [← any_not]
 exact index_ev (z := 0) (L := fun k b a => U56.l0 k l b a) (q := fun k x => U55.f k x) (by omega) (fun k b a => rfl) fun x _ => Ev.all fun k => rfl
theorem opsB_len {i : tInstD} (h : i.2.2.2.2.2.2.1.length ≤ 1048576) : (opsB i).length ≤ 1048576 := by
 unfold opsB
 cases inB 1 17 i.1 <;> cases decide (i.1 = 24) <;> cases inB 18 20 i.1 <;> cases decide (i.1 = 23) <;> cases decide (i.1 = 25) <;> cases decide (i.1 = 27) <;> cases decide (i.1 = 22) <;> cases decide (i.1 = 26) <;> simp only [cond_true, cond_false, List.length_cons, List.length_nil] <;> omega
theorem opsB_few {i : tInstD} (h : i.1 ≠ 26) : (opsB i).length ≤ 3 := by
 unfold opsB
 rw [dneg h]
 cases inB 1 17 i.1 <;> cases decide (i.1 = 24) <;> cases inB 18 20 i.1 <;> cases decide (i.1 = 23) <;> cases decide (i.1 = 25) <;> cases decide (i.1 = 27) <;> cases decide (i.1 = 22) <;> simp
theorem ev_and {g : Nat → Option BR} {b c : Bool} (h : Ev g (one c)) : Ev (fun k => bif !b then some (one false) else g k) (one (b && c)) := by
 cases b with
 | true => exact Ev.neg rfl h
 | false => exact Ev.pos rfl (Ev.cst rfl)
theorem ev_and' {g : Nat → Option BR} {b c : Bool} (h : Ev g (one c)) : Ev (fun k => bif b then some (one false) else g k) (one (!b && c)) := by
 cases b with
 | true => exact Ev.pos rfl (Ev.cst rfl)
 | false => exact Ev.neg rfl h
/-- What comes behind the operands, in the program. -/
theorem implTail {i : tInstD} {l : List Int} (hl : l.length ≤ 1048576) {funcs : Int} (h0 : 0 ≤ funcs) (h1 : funcs ≤ 9223372036854775807) : Ev (fun k => Option.bind (U57.f k l) fun r4 => bif r4.1.1.1 then some (((false, ()), ()), ()) else Option.bind (U58.f k i) fun r5 => bif r5.1.1.1 then Option.bind (U61.f k i funcs) fun r6 => some (((r6.1.1.1, ()), ()), ()) else some (((false, ()), ()), ())) (one ((l.all fun n => decide (n = 0)) && widB i && immB i funcs)) := by
 refine Ev.bind (implZero hl) ?_
 cases l.all fun n => decide (n = 0) with
 | false => exact Ev.cst rfl
 | true =>
  refine Ev.all fun k => ?_
  simp only [implWid, implImm k i h0 h1, Option.bind_some]
  cases widB i <;> cases immB i funcs <;> rfl
theorem implInst {i : tInstD} (hs : i.2.2.2.2.2.2.1.length ≤ 1048576) {count funcs : Int} (h0 : 0 ≤ count) (h1 : count ≤ 9223372036854775807) (h2 : 0 ≤ funcs) (h3 : funcs ≤ 9223372036854775807) : Ev (fun k => U62.f k i count funcs) (one (instB count funcs i)) := by
 have rest : i.1 = 26 ∨ i.1 ≠ 26 → Ev (fun k => Option.bind (U51.f k i) fun r2 => Option.bind (U54.f k r2.2.1 count) fun r3 => bif r3.1.1.1 then some (((false, ()), ()), ()) else
   bif decide (i.1 = 26) then (bif (decide ((0 : Int) ≤ 0)) && (decide ((0 : Int) ≤ ((List.length [i.2.2.1, i.2.2.2.1, i.2.2.2.2.1] : Nat) : Int))) then (Option.bind (U57.f k [i.2.2.1, i.2.2.2.1, i.2.2.2.2.1]) fun r4 => bif r4.1.1.1 then some (((false, ()), ()), ()) else Option.bind (U58.f k i) fun r5 => bif r5.1.1.1 then Option.bind (U61.f k i funcs) fun r6 => some (((r6.1.1.1, ()), ()), ()) else some (((false, ()), ()), ())) else none)
   else (bif (decide (0 ≤ ((List.length r2.2.1 : Nat) : Int))) && (decide (((List.length r2.2.1 : Nat) : Int) ≤ ((List.length [i.2.2.1, i.2.2.2.1, i.2.2.2.2.1] : Nat) : Int))) then (Option.bind (U57.f k (List.drop (Int.toNat ((List.length r2.2.1 : Nat) : Int)) [i.2.2.1, i.2.2.2.1, i.2.2.2.2.1])) fun r4 => bif r4.1.1.1 then some (((false, ()), ()), ()) else Option.bind (U58.f k i) fun r5 => bif r5.1.1.1 then Option.bind (U61.f k i funcs) fun r6 => some (((r6.1.1.1, ()), ()), ()) else some (((false, ()), ()), ())) else none))
   (one ((opsB i).all (inB 0 (count - 1)) && (zerosB i && widB i && immB i funcs))) := by
  intro hd
  refine Ev.bind (Ev.all fun k => implOps k hs) (Ev.bind (implIn1 (opsB_len hs) h0 h1) ?_)
  cases (opsB i).all (inB 0 (count - 1)) with
  | false => exact Ev.cst rfl
  | true =>
   rcases hd with hd | hd
   ·refine Ev.neg rfl (Ev.pos (dpos hd) (Ev.pos rfl ?_))
    have := implTail (i := i) (l := [i.2.2.1, i.2.2.2.1, i.2.2.2.2.1]) (by simp) h2 h3
    refine this.rw ?_
    unfold zerosB named
    rw [dpos hd]; rfl
   ·refine Ev.neg rfl (Ev.neg (dneg hd) (Ev.pos ?_ ?_))
    ·have := opsB_few hd
     show (decide (0 ≤ ((opsB i).length : Int)) && decide (((opsB i).length : Int) ≤ 3)) = true
     rw [dpos (by omega), dpos (by omega)]; rfl
    ·have := implTail (i := i) (l := List.drop (opsB i).length [i.2.2.1, i.2.2.2.1, i.2.2.2.2.1]) (by simp; omega) h2 h3
     refine this.rw ?_
     unfold zerosB named
     rw [dneg hd]; rfl
 have rest := rest (Decidable.em _)
 unfold U62.f
 refine Ev.bind (Ev.all fun k => implIn k _ _ _) ?_
 unfold instB
 generalize hz : ((opsB i).all (inB 0 (count - 1)) && (zerosB i && widB i && immB i funcs)) = zz at rest
 have hzz : ∀ b c d : Bool, (b && c && d && (opsB i).all (inB 0 (count - 1)) && zerosB i && widB i && immB i funcs) = (b && c && d && zz) := fun b c d => by rw [← hz]; simp only [Bool.and_assoc]
 rw [hzz]
 cases inB 1 27 i.1 with
 | false => exact Ev.pos rfl (Ev.cst rfl)
 | true =>
  refine Ev.neg rfl ?_
  by_cases h4 : 4 < ((i.2.2.2.2.2.2.1.length : Nat) : Int)
  ·refine Ev.pos (dpos h4) (Ev.cst ?_)
   rw [dneg (show ¬ i.2.2.2.2.2.2.1.length ≤ 4 by omega)]; rfl
  ·refine Ev.neg (dneg h4) ?_
   rw [dpos (show i.2.2.2.2.2.2.1.length ≤ 4 by omega)]
   by_cases h5 : 0 < ((i.2.2.2.2.2.2.1.length : Nat) : Int)
   ·refine Ev.pos (dpos h5) ?_
    rw [dneg (show ¬ i.2.2.2.2.2.2.1.length = 0 by omega)]
    by_cases h6 : i.1 = 26
    ·exact Ev.neg (by rw [dpos h6]; rfl) (rest.rw (by rw [dpos h6]; rfl))
    ·exact Ev.pos (by rw [dneg h6]; rfl) (Ev.cst (by rw [dneg h6]; rfl))
   ·refine Ev.neg (dneg h5) (rest.rw ?_)
    rw [dpos (show i.2.2.2.2.2.2.1.length = 0 by omega)]; rfl
theorem zeros_at {a b c : Int} : ∀ n : Nat, ([a, b, c].drop n).all (fun n => decide (n = 0)) = ((bif decide ((n : Int) < 1) then decide (a = 0) else true) && (bif decide ((n : Int) < 2) then decide (b = 0) else true) && (bif decide ((n : Int) < 3) then decide (c = 0) else true))
 | 0 => by simp [Bool.and_assoc]
 | 1 => by simp
 | 2 => by simp
 | n + 3 => by
  rw [dneg (show ¬ (((n + 3 : Nat) : Int) < 1) by omega), dneg (show ¬ (((n + 3 : Nat) : Int) < 2) by omega), dneg (show ¬ (((n + 3 : Nat) : Int) < 3) by omega)]
  simp
set_option synthInstance.maxHeartbeats 400000 in
set_option synthInstance.maxSize 100000 in
theorem specInst0 {i : tInstD} {ids : List Int} (hl : ids.length ≤ 1048576) {count funcs : Int} (h0 : 0 ≤ count) (h1 : count ≤ 9223372036854775807) (h2 : 0 ≤ funcs) (h3 : funcs ≤ 9223372036854775807) (hn : named i = bif decide (i.1 = 26) then 0 else ids.length) :
  Ev (fun k => U24.l0 k count funcs 0 i ids) (one (ids.all (inB 0 (count - 1)) && (decide (i.2.2.2.2.2.2.1.length ≤ 4) && zerosB i && widB i && immB i funcs))) := by
 refine each_ev (z := 0) (L := fun k a => U24.l0 k count funcs a i ids) (V := fun m => one (m.all (inB 0 (count - 1)) && (decide (i.2.2.2.2.2.2.1.length ≤ 4) && zerosB i && widB i && immB i funcs))) (q := fun k x g => Option.bind (U19.f k x 0 (IntKind.wrap .i64 (count - 1))) fun r1 => bif !r1.1.1.1 then some (((false, ()), ()), ()) else g k) (by omega) (fun k a => rfl) ?_ ?_
 ·refine Ev.all fun k => ?_
  have hz : zerosB i = ((bif decide (((named i : Nat) : Int) < 1) then decide (i.2.2.1 = 0) else true) && (bif decide (((named i : Nat) : Int) < 2) then decide (i.2.2.2.1 = 0) else true) && (bif decide (((named i : Nat) : Int) < 3) then decide (i.2.2.2.2.1 = 0) else true)) := zeros_at _
  rw [hz, hn]
  simp only [specVal, specIn, specW, Option.bind_some, wrap_id (show -9223372036854775808 ≤ funcs - 1 by omega) (show funcs - 1 ≤ 9223372036854775807 by omega), List.all_nil, Bool.true_and]
  have h4 : decide (i.2.2.2.2.2.2.1.length ≤ 4) = !decide (4 < ((List.length i.2.2.2.2.2.2.1 : Nat) : Int)) := by
   by_cases h : 4 < ((List.length i.2.2.2.2.2.2.1 : Nat) : Int)
   ·rw [dpos h, dneg (by omega)]; rfl
   ·rw [dneg h, dpos (by omega)]; rfl
  rw [h4]
  unfold widB immB
  have fin : ∀ (o24 o25 o26 o21 o23 w0 w8 wk : Bool), decide (i.1 = 24) = o24 → decide (i.1 = 25) = o25 → decide (i.1 = 26) = o26 → decide (i.1 = 21) = o21 → decide (i.1 = 23) = o23 → decide (i.2.1 = 0) = w0 → decide (i.2.1 = 8) = w8 → wOk i.2.1 = wk →
    (o24 = true ∧ o25 = false ∧ o26 = false ∧ o21 = false ∧ o23 = false ∨ o24 = false ∧ o25 = true ∧ o26 = false ∧ o21 = false ∧ o23 = false ∨ o24 = false ∧ o25 = false ∧ o26 = true ∧ o21 = false ∧ o23 = false ∨ o24 = false ∧ o25 = false ∧ o26 = false ∧ o21 = true ∧ o23 = false ∨ o24 = false ∧ o25 = false ∧ o26 = false ∧ o21 = false ∧ o23 = true ∨ o24 = false ∧ o25 = false ∧ o26 = false ∧ o21 = false ∧ o23 = false) ∧
    (w0 = true ∧ w8 = false ∧ wk = false ∨ w0 = false ∧ w8 = true ∧ wk = true ∨ w0 = false ∧ w8 = false) := by
   rintro _ _ _ _ _ _ _ _ rfl rfl rfl rfl rfl rfl rfl rfl
   simp only [decide_eq_true_eq, decide_eq_false_iff_not]
   refine ⟨by omega, ?_⟩
   by_cases h : i.2.1 = 0
   ·exact .inl ⟨h, by omega, by rw [h]; rfl⟩
   ·by_cases h' : i.2.1 = 8
    ·exact .inr (.inl ⟨h, h', by rw [h']; rfl⟩)
    ·exact .inr (.inr ⟨h, h'⟩)
  have fin := fin _ _ _ _ _ _ _ _ rfl rfl rfl rfl rfl rfl rfl rfl
  clear hz h4 hn
  generalize decide (i.1 = 24) = o24 at fin ⊢
  generalize decide (i.1 = 25) = o25 at fin ⊢
  generalize decide (i.1 = 26) = o26 at fin ⊢
  generalize decide (i.1 = 21) = o21 at fin ⊢
  generalize decide (i.1 = 23) = o23 at fin ⊢
  generalize decide (i.2.1 = 0) = w0 at fin ⊢
  generalize decide (i.2.1 = 8) = w8 at fin ⊢
  generalize wOk i.2.1 = wk at fin ⊢
  have z1 : decide (((0 : Nat) : Int) < 1) = true := rfl
  have z2 : decide (((0 : Nat) : Int) < 2) = true := rfl
  have z3 : decide (((0 : Nat) : Int) < 3) = true := rfl
  have y1 : decide ((0 : Int) < 1) = true := rfl
  have y2 : decide ((0 : Int) < 2) = true := rfl
  have y3 : decide ((0 : Int) < 3) = true := rfl
  obtain ⟨f1, f2⟩ := fin
  rcases f1 with ⟨rfl, rfl, rfl, rfl, rfl⟩ | ⟨rfl, rfl, rfl, rfl, rfl⟩ | ⟨rfl, rfl, rfl, rfl, rfl⟩ | ⟨rfl, rfl, rfl, rfl, rfl⟩ | ⟨rfl, rfl, rfl, rfl, rfl⟩ | ⟨rfl, rfl, rfl, rfl, rfl⟩ <;> rcases f2 with ⟨rfl, rfl, rfl⟩ | ⟨rfl, rfl, rfl⟩ | ⟨rfl, rfl⟩ <;>
   simp only [cond_true, cond_false, z1, z2, z3, y1, y2, y3, beq_self_eq_true, Bool.not_true, Bool.not_false, Bool.or_true, Bool.or_false, Bool.and_false, Bool.false_and, Bool.true_and, Bool.and_true, show (true == false) = false from rfl, show (false == true) = false from rfl, Int.reduceLT, decide_true, decide_false] <;>
   generalize decide (4 < ((List.length i.2.2.2.2.2.2.1 : Nat) : Int)) = l4 <;>
   generalize decide (((ids.length : Nat) : Int) < 1) = n1 <;> generalize decide (((ids.length : Nat) : Int) < 2) = n2 <;> generalize decide (((ids.length : Nat) : Int) < 3) = n3 <;>
   generalize decide (i.2.2.1 = 0) = a <;> generalize decide (i.2.2.2.1 = 0) = b <;> generalize decide (i.2.2.2.2.1 = 0) = c <;> generalize decide (i.2.2.2.2.2.1 = 0) = m <;>
   generalize valB i.2.1 i.2.2.2.2.2.1 = va <;> generalize inB 0 (funcs - 1) i.2.2.2.2.2.1 = vb <;> revert l4 n1 n2 n3 a b c m va vb <;> (try revert wk) <;> decide +kernel
 ·intro x m g hx hg
  refine Ev.bind (Ev.all fun k => specIn k _ _ _) ?_
  rw [wrap_id (by omega) (by omega), List.all_cons, Bool.and_assoc]
  exact ev_and hg
theorem specInst {i : tInstD} (hs : i.2.2.2.2.2.2.1.length ≤ 1048576) {count funcs : Int} (h0 : 0 ≤ count) (h1 : count ≤ 9223372036854775807) (h2 : 0 ≤ funcs) (h3 : funcs ≤ 9223372036854775807) : Ev (fun k => U24.f k i count funcs) (one (instB count funcs i)) := by
 have hn : named i = bif decide (i.1 = 26) then 0 else (opsB i).length := rfl
 have l0 := specInst0 (opsB_len hs) h0 h1 h2 h3 hn
 unfold U24.f
 refine Ev.bind (Ev.all fun k => specIn k _ _ _) ?_
 unfold instB
 generalize hz : ((opsB i).all (inB 0 (count - 1))) = za at l0 ⊢
 cases inB 1 27 i.1 with
 | false => exact Ev.pos rfl (Ev.cst rfl)
 | true =>
  refine Ev.neg rfl ?_
  have done : ∀ b : Bool, b = true → Ev (fun k => Option.bind (U21.f k i) fun r3 => U24.l0 k count funcs 0 i r3.2.1) (one (true && decide (i.2.2.2.2.2.2.1.length ≤ 4) && b && za && zerosB i && widB i && immB i funcs)) := by
   rintro _ rfl
   refine (Ev.bind (f := fun k r3 => U24.l0 k count funcs 0 i r3.2.1) (Ev.all fun k => specOps k hs) l0).rw ?_
   generalize decide (i.2.2.2.2.2.2.1.length ≤ 4) = z4
   generalize zerosB i = z5
   generalize widB i = z6
   generalize immB i funcs = z7
   clear l0 hz
   revert za z4 z5 z6 z7
   decide
  by_cases h6 : i.1 = 26
  ·exact Ev.neg (by rw [dpos h6]; rfl) (done _ (by rw [dpos h6, Bool.or_true]))
  ·refine Ev.pos (by rw [dneg h6]; rfl) ?_
   by_cases h5 : 0 < ((i.2.2.2.2.2.2.1.length : Nat) : Int)
   ·refine Ev.pos (dpos h5) (Ev.cst ?_)
    rw [dneg (show ¬ i.2.2.2.2.2.2.1.length = 0 by omega), dneg h6]
    simp
   ·exact Ev.neg (dneg h5) (done _ (by rw [dpos (show i.2.2.2.2.2.2.1.length = 0 by omega), Bool.true_or]))
def sumB {α : Type} (w : α → Int) : List α → Int
 | [] => 0
 | x :: l => w x + sumB w l
theorem sumB_le {α : Type} {w : α → Int} {m : Int} : ∀ {l : List α}, (∀ x ∈ l, 0 ≤ w x ∧ w x ≤ m) → 0 ≤ sumB w l ∧ sumB w l ≤ l.length * m
 | [], _ => by simp [sumB]
 | x :: l, h => by
  obtain ⟨a, b⟩ := sumB_le (l := l) fun y hy => h y (by simp [hy])
  obtain ⟨c, d⟩ := h x (by simp)
  simp only [sumB, List.length_cons]
  have : ((l.length + 1 : Nat) : Int) * m = l.length * m + m := by
   rw [Int.natCast_add, Int.add_mul]; simp
  omega
theorem acc_ev {α : Type} {l : List α} {w : α → Int} {L : Nat → Int → Int → Option IR} (hw : ∀ x ∈ l, 0 ≤ w x ∧ w x ≤ 2097152) (hlen : l.length ≤ 1048576)
  (h1 : ∀ k a (i : Nat) (h : i < l.length), L (k + 1) a (i : Int) = L k (IntKind.wrap .i64 (a + IntKind.wrap .i64 (w l[i]))) ((i + 1 : Nat) : Int)) (h2 : ∀ k a, L (k + 1) a (l.length : Int) = some (one a)) {a : Int} (ha : 0 ≤ a) (ha' : a ≤ 1048576) : Ev (fun k => L k a 0) (one (a + sumB w l)) := by
 have key : ∀ (d i : Nat) (a : Int), i + d = l.length → 0 ≤ a → a ≤ 1048576 + i * 2097152 → Ev (fun k => L k a (i : Int)) (one (a + sumB w (l.drop i))) := by
  intro d
  induction d with
  | zero =>
   intro i a hi h0 h3
   have hi' : i = l.length := by omega
   subst hi'
   rw [List.drop_length]
   exact Ev.step (g' := fun _ => some (one a)) (Ev.cst (by simp [sumB])) fun k => h2 k a
  | succ d ih =>
   intro i a hi h0 h3
   have hi' : i < l.length := by omega
   obtain ⟨w0, w1⟩ := hw l[i] (List.getElem_mem hi')
   have := ih (i + 1) (a + w l[i]) (by omega) (by omega) (by omega)
   refine (Ev.step this fun k => ?_).rw ?_
   ·show L (k + 1) a (i : Int) = _
    rw [h1 k a i hi', wrap_id (x := w l[i]) (by omega) (by omega), wrap_id (by omega) (by omega)]
   ·rw [List.drop_eq_getElem_cons hi']
    simp only [sumB]
    rw [Int.add_assoc]
 have := key l.length 0 a (by omega) ha (by omega)
 simpa using this
def cntB (f : tFuncD) : Int := (f.1.length : Int) + sumB (fun x : tBlockD => ((x.1.length : Nat) : Int) + ((x.2.1.length : Nat) : Int)) f.2.2.1
theorem blk_small {f : tFuncD} (h : Small tFunc f) : ∀ x ∈ f.2.2.1, x.1.length ≤ 1048576 ∧ x.2.1.length ≤ 1048576 := fun x hx => by
 have := h.2.2.1.2 x hx
 exact ⟨this.1.1, this.2.1.1⟩
theorem cntB_le {f : tFuncD} (h : Small tFunc f) : 0 ≤ cntB f ∧ cntB f ≤ 1048576 + 1048576 * 2097152 := by
 have h1 : f.1.length ≤ 1048576 := h.1.1
 have h2 : f.2.2.1.length ≤ 1048576 := h.2.2.1.1
 have := sumB_le (w := fun x : tBlockD => ((x.1.length : Nat) : Int) + ((x.2.1.length : Nat) : Int)) (m := 2097152) (l := f.2.2.1) fun x hx => by
  have := blk_small h x hx
  omega
 unfold cntB
 omega
theorem specCount {f : tFuncD} (h : Small tFunc f) : Ev (fun k => U17.f k f) (one (cntB f)) := by
 have h1 : f.1.length ≤ 1048576 := h.1.1
 exact acc_ev (L := fun k a i => U17.l0 k a i f) (l := f.2.2.1) (w := fun x : tBlockD => ((x.1.length : Nat) : Int) + ((x.2.1.length : Nat) : Int)) (fun x hx => by have := blk_small h x hx; omega) h.2.2.1.1 (fun k a i hi => by
   show U17.l0_ k (U17.l0 k) a i f = _
   unfold U17.l0_
   have hlen : f.2.2.1.length ≤ 1048576 := h.2.2.1.1
   simp only [head_in hi, head_0, Bool.and_self, cond_true, get_in hi, wrap_nat (show i < 9223372036854775807 by omega)]) (fun k a => by
   show U17.l0_ k (U17.l0 k) a _ f = _
   unfold U17.l0_
   simp only [head_end, cond_false]) (by omega) (by omega)
theorem implCount {f : tFuncD} (h : Small tFunc f) : Ev (fun k => U42.f k f) (one (cntB f)) := by
 have h1 : f.1.length ≤ 1048576 := h.1.1
 exact acc_ev (L := fun k a i => U42.l0 k a f.2.2.1 ((List.length f.2.2.1 : Nat) : Int) i) (l := f.2.2.1) (w := fun x : tBlockD => ((x.1.length : Nat) : Int) + ((x.2.1.length : Nat) : Int)) (fun x hx => by have := blk_small h x hx; omega) h.2.2.1.1 (fun k a i hi => by
   show U42.l0_ k (U42.l0 k) a f.2.2.1 _ i = _
   unfold U42.l0_
   have hlen : f.2.2.1.length ≤ 1048576 := h.2.2.1.1
   simp only [head_in hi, head_0, Bool.and_self, cond_true, get_in hi, wrap_nat (show i < 9223372036854775807 by omega)]) (fun k a => by
   show U42.l0_ k (U42.l0 k) a f.2.2.1 _ _ = _
   unfold U42.l0_
   simp only [head_end, cond_false]) (by omega) (by omega)
def phiB (count : Int) (p : tPhiD) : Bool := wOk p.1 && decide (p.2.1.length ≤ 10) && p.2.1.all (inB 0 (count - 1))
def blockB (count funcs blocks : Int) (b : tBlockD) : Bool := b.1.all (phiB count) && b.2.1.all (instB count funcs) && termB count blocks b.2.2
def funcB (funcs : Int) (f : tFuncD) : Bool :=
 decide (f.1.length ≤ 4) && wOk f.2.1 && inB 1 10 (f.2.2.1.length : Int) && decide (cntB f ≤ 60) && f.1.all wOk && f.2.2.1.all (blockB (cntB f) funcs (f.2.2.1.length : Int))
section
variable {f : tFuncD} {funcs count blocks : Int}
theorem specFunc4 {x : tBlockD} (hx : Small tBlock x) (h0 : 0 ≤ count) (h1 : count ≤ 9223372036854775807) (h2 : 0 ≤ funcs) (h3 : funcs ≤ 9223372036854775807) (h4 : 0 ≤ blocks) (h5 : blocks ≤ 9223372036854775807) {j : Nat} (hj : j < 9223372036854775807) {r : Bool}
  (hr : Ev (fun k => U26.l1 k funcs count blocks ((j + 1 : Nat) : Int) f) (one r)) : Ev (fun k => U26.l4 k funcs count blocks j 0 f x) (one (x.2.1.all (instB count funcs) && (termB count blocks x.2.2 && r))) := by
 have hs := hx.2.1
 refine each_ev (z := tInstZ) (l := x.2.1) (L := fun k a => U26.l4 k funcs count blocks j a f x) (V := fun m => one (m.all (instB count funcs) && (termB count blocks x.2.2 && r))) (q := fun k y g => Option.bind (U24.f k y count funcs) fun r1 => bif !r1.1.1.1 then some (((false, ()), ()), ()) else g k)
  (by have := hs.1; show List.length (α := tInstD) x.2.1 ≤ _; have : List.length (α := tInstD) x.2.1 ≤ 1048576 := this; omega) (fun k a => rfl) ?_ ?_
 ·refine Ev.bind (Ev.all fun k => specTerm k x.2.2 h0 h1 h4 h5) ?_
  rw [wrap_nat hj, List.all_nil, Bool.true_and]
  exact ev_and hr
 ·intro y m g hy hg
  refine Ev.bind (specInst (i := y) ((hs.2 y hy).2.2.2.2.2.2.1.1) h0 h1 h2 h3) ?_
  rw [List.all_cons, Bool.and_assoc]
  exact ev_and hg
theorem specFunc2 {x : tBlockD} (hx : Small tBlock x) (h0 : 0 ≤ count) (h1 : count ≤ 9223372036854775807) (h2 : 0 ≤ funcs) (h3 : funcs ≤ 9223372036854775807) (h4 : 0 ≤ blocks) (h5 : blocks ≤ 9223372036854775807) {j : Nat} (hj : j < 9223372036854775807) {r : Bool}
  (hr : Ev (fun k => U26.l1 k funcs count blocks ((j + 1 : Nat) : Int) f) (one r)) : Ev (fun k => U26.l2 k funcs count blocks j 0 f x) (one (blockB count funcs blocks x && r)) := by
 have hs := hx.1
 have hlen : x.1.length ≤ 1048576 := hs.1
 have tail := specFunc4 (f := f) hx h0 h1 h2 h3 h4 h5 hj hr
 have key := Ev.down (G := fun i k => U26.l2 k funcs count blocks j (i : Int) f x) (V := fun i => one ((x.1.drop i).all (phiB count) && (x.2.1.all (instB count funcs) && (termB count blocks x.2.2 && r)))) x.1.length ?_ ?_ 0 (Nat.zero_le _)
 ·refine key.rw ?_
  unfold blockB
  rw [List.drop_zero, Bool.and_assoc, Bool.and_assoc]
 ·rw [List.drop_length]
  refine tail.step fun k => ?_
  show U26.l2_ k (U26.l0 k) (U26.l1 k) (U26.l2 k) (U26.l3 k) (U26.l4 k) funcs count blocks j _ f x = _
  unfold U26.l2_
  simp only [head_end, cond_false]
 ·intro i hi ih
  have hp := hs.2 x.1[i] (List.getElem_mem hi)
  have hpl : x.1[i].2.1.length ≤ 1048576 := hp.2.1.1
  -- the inner loop
  have inner := Ev.down (G := fun q k => U26.l3 k funcs count blocks j i (q : Int) f x) (V := fun q => one ((x.1[i].2.1.drop q).all (inB 0 (count - 1)) && ((x.1.drop (i + 1)).all (phiB count) && (x.2.1.all (instB count funcs) && (termB count blocks x.2.2 && r))))) x.1[i].2.1.length ?_ ?_ 0 (Nat.zero_le _)
  ·rw [List.drop_eq_getElem_cons hi, List.all_cons]
   refine Ev.step (g' := fun k => Option.bind (U18.f k x.1[i].1) fun r1 => bif !r1.1.1.1 then some (((false, ()), ()), ()) else bif decide (10 < ((List.length x.1[i].2.1 : Nat) : Int)) then some (((false, ()), ()), ()) else U26.l3 k funcs count blocks j i 0 f x) ?_ fun k => ?_
   ·refine Ev.bind (Ev.all fun k => specW k _) ?_
    have e1 : ∀ R, (phiB count x.1[i] && R) = (wOk x.1[i].1 && (!decide (10 < ((List.length x.1[i].2.1 : Nat) : Int)) && (x.1[i].2.1.all (inB 0 (count - 1)) && R))) := fun R => by
     have e : decide (x.1[i].2.1.length ≤ 10) = !decide (10 < ((List.length x.1[i].2.1 : Nat) : Int)) := by
      by_cases h : 10 < ((List.length x.1[i].2.1 : Nat) : Int)
      ·rw [dpos h, dneg (by omega)]; rfl
      ·rw [dneg h, dpos (by omega)]; rfl
     unfold phiB
     rw [e, Bool.and_assoc, Bool.and_assoc]
    rw [Bool.and_assoc, e1]
    refine ev_and ?_
    exact ev_and' inner
   ·show U26.l2_ k (U26.l0 k) (U26.l1 k) (U26.l2 k) (U26.l3 k) (U26.l4 k) funcs count blocks j _ f x = _
    unfold U26.l2_
    simp only [head_in hi, head_0, Bool.and_self, cond_true, get_in hi]
  ·rw [List.drop_length, List.all_nil, Bool.true_and]
   refine ih.step fun k => ?_
   show U26.l3_ k (U26.l0 k) (U26.l1 k) (U26.l2 k) (U26.l3 k) (U26.l4 k) funcs count blocks j _ _ f x = _
   unfold U26.l3_
   simp only [head_in hi, head_0, Bool.and_self, cond_true, get_in hi, head_end, cond_false, wrap_nat (show i < 9223372036854775807 by omega)]
  ·intro q hq ihq
   rw [List.drop_eq_getElem_cons hq, List.all_cons, Bool.and_assoc]
   refine Ev.step (g' := fun k => Option.bind (U19.f k x.1[i].2.1[q] 0 (IntKind.wrap .i64 (count - 1))) fun r1 => bif !r1.1.1.1 then some (((false, ()), ()), ()) else U26.l3 k funcs count blocks j i ((q + 1 : Nat) : Int) f x) ?_ fun k => ?_
   ·rw [wrap_id (by omega) (by omega)]
    exact Ev.bind (Ev.all fun k => specIn k _ _ _) (ev_and ihq)
   ·show U26.l3_ k (U26.l0 k) (U26.l1 k) (U26.l2 k) (U26.l3 k) (U26.l4 k) funcs count blocks j _ _ f x = _
    unfold U26.l3_
    simp only [head_in hi, head_0, Bool.and_self, cond_true, get_in hi, head_in hq, get_in hq, wrap_nat (show q < 9223372036854775807 by omega)]
theorem specFunc1 (hf : Small tFunc f) (h0 : 0 ≤ count) (h1 : count ≤ 9223372036854775807) (h2 : 0 ≤ funcs) (h3 : funcs ≤ 9223372036854775807) (h4 : 0 ≤ blocks) (h5 : blocks ≤ 9223372036854775807) : Ev (fun k => U26.l1 k funcs count blocks 0 f) (one (f.2.2.1.all (blockB count funcs blocks))) := by
 have hs := hf.2.2.1
 have hlen : f.2.2.1.length ≤ 1048576 := hs.1
 have key := Ev.down (G := fun i k => U26.l1 k funcs count blocks (i : Int) f) (V := fun i => one ((f.2.2.1.drop i).all (blockB count funcs blocks))) f.2.2.1.length ?_ ?_ 0 (Nat.zero_le _)
 ·exact key
 ·rw [List.drop_length]
  refine Ev.step (g' := fun _ => some (one true)) (Ev.cst rfl) fun k => ?_
  show U26.l1_ k (U26.l0 k) (U26.l1 k) (U26.l2 k) (U26.l3 k) (U26.l4 k) funcs count blocks _ f = _
  unfold U26.l1_
  simp only [head_end, cond_false]
 ·intro i hi ih
  rw [List.drop_eq_getElem_cons hi, List.all_cons]
  refine (specFunc2 (f := f) (x := f.2.2.1[i]) (hs.2 _ (List.getElem_mem hi)) h0 h1 h2 h3 h4 h5 (show i < 9223372036854775807 by omega) ih).step fun k => ?_
  show U26.l1_ k (U26.l0 k) (U26.l1 k) (U26.l2 k) (U26.l3 k) (U26.l4 k) funcs count blocks _ f = _
  unfold U26.l1_
  simp only [head_in hi, head_0, Bool.and_self, cond_true, get_in hi]
theorem le_not {a b : Int} : decide (a ≤ b) = !decide (b < a) := by
 by_cases h : b < a
 ·rw [dpos h, dneg (by omega)]; rfl
 ·rw [dneg h, dpos (by omega)]; rfl
theorem len_not {n m : Nat} : decide (n ≤ m) = !decide ((m : Int) < (n : Int)) := by
 by_cases h : (m : Int) < (n : Int)
 ·rw [dpos h, dneg (by omega)]; rfl
 ·rw [dneg h, dpos (by omega)]; rfl
theorem specFunc (hf : Small tFunc f) (h2 : 0 ≤ funcs) (h3 : funcs ≤ 9223372036854775807) : Ev (fun k => U26.f k f funcs) (one (funcB funcs f)) := by
 have hs := hf.2.2.1
 have hlen : f.2.2.1.length ≤ 1048576 := hs.1
 have hpl : f.1.length ≤ 1048576 := hf.1.1
 obtain ⟨c0, c1⟩ := cntB_le hf
 unfold U26.f funcB
 simp only [Bool.and_assoc]
 refine Ev.bind (specCount hf) ?_
 rw [len_not]
 refine ev_and' (Ev.bind (Ev.all fun k => specW k _) (ev_and (Ev.bind (Ev.all fun k => specIn k _ _ _) (ev_and ?_))))
 rw [le_not]
 refine ev_and' ?_
 exact each_ev (z := 0) (l := f.1) (L := fun k a => U26.l0 k funcs (cntB f) (f.2.2.1.length : Int) a f) (V := fun m => one (m.all wOk && f.2.2.1.all (blockB (cntB f) funcs (f.2.2.1.length : Int)))) (q := fun k y g => Option.bind (U18.f k y) fun r1 => bif !r1.1.1.1 then some (((false, ()), ()), ()) else g k)
  (by omega) (fun k a => rfl) (specFunc1 hf c0 (by omega) h2 h3 (by omega) (by omega)) fun y m g hy hg => by
   refine Ev.bind (Ev.all fun k => specW k _) ?_
   rw [List.all_cons, Bool.and_assoc]
   exact ev_and hg
end
theorem Ev.sk1 {R : Type} {g : Nat → Option R} {r : R} (h : Ev (fun k => g (k + 1)) r) : Ev g r := Ev.step h fun _ => rfl
theorem st_loop {σ R : Type} {n0 : Nat} {L : Nat → Int → σ → Option R} {T : Nat → σ → Option R} (S : Nat → σ)
  (hend : ∀ r, Ev (fun k => T k (S n0)) r → Ev (fun k => L k (n0 : Int) (S n0)) r)
  (hstep : ∀ i r, i < n0 → Ev (fun k => L k ((i + 1 : Nat) : Int) (S (i + 1))) r → Ev (fun k => L k (i : Int) (S i)) r) {r : R} (h : Ev (fun k => T k (S n0)) r) : Ev (fun k => L k 0 (S 0)) r :=
 Ev.down (G := fun i k => L k (i : Int) (S i)) (V := fun _ => r) n0 (hend r h) (fun i hi e => hstep i r hi e) 0 (Nat.zero_le _)
/-- A number's text. -/
def decB (n : Int) : ByteArray := ⟨(Lib.itoa n).toArray⟩
theorem ba_ext {a b : ByteArray} (h : a.data = b.data) : a = b := by cases a; cases b; cases h; rfl
theorem digit_str : ∀ r : Nat, r < 10 → strOf [IntKind.wrap .u8 (IntKind.wrap .i64 (48 + (r : Int)))] = ⟨#[UInt8.ofNat (48 + r)]⟩ := by
 intro r h
 have h1 : r = 0 ∨ r = 1 ∨ r = 2 ∨ r = 3 ∨ r = 4 ∨ r = 5 ∨ r = 6 ∨ r = 7 ∨ r = 8 ∨ r = 9 := by omega
 rcases h1 with rfl | rfl | rfl | rfl | rfl | rfl | rfl | rfl | rfl | rfl <;> rfl
theorem nd_le {u : Nat} (h : u < 18446744073709551616) : Lib.nDigits u ≤ 20 := by
 by_cases h0 : u = 0
 ·subst h0; rw [Lib.nDigits_small (by omega)]; omega
 ·have := Lib.numDigits_eq u (by omega) h
  split at this <;> omega
theorem big_eq : big = 9223372036854775807 := rfl
theorem specDec_s {u : Nat} (h10 : u < 10) {t : ByteArray} (ht : t.size + Lib.nDigits u ≤ 1000000) : Ev (fun k => U32.l0 k (u : Int) t) (one ((⟨(Lib.decDigits u).toArray⟩ : ByteArray) ++ t)) := by
 refine Ev.sk1 ?_
 show Ev (fun k => U32.l0_ k (U32.l0 k) (u : Int) t) _
 unfold U32.l0_
 have hd := digit_str u h10
 have hn := Lib.nDigits_small h10
 refine Ev.dn (by omega) ?_
 rw [hd]
 refine Ev.dp (by rw [big_eq]; have : (⟨#[UInt8.ofNat (48 + u)]⟩ : ByteArray).size = 1 := rfl; omega) (Ev.cst ?_)
 rw [Lib.decDigits_one h10]
theorem specDec_l : ∀ (n u : Nat), u ≤ n → u < 4611686018427387904 → ∀ t : ByteArray, t.size + Lib.nDigits u ≤ 1000000 → Ev (fun k => U32.l0 k (u : Int) t) (one ((⟨(Lib.decDigits u).toArray⟩ : ByteArray) ++ t)) := by
 intro n
 induction n with
 | zero =>
  intro u hu h1 t ht
  exact specDec_s (by omega) ht
 | succ n ih =>
  intro u hu h1 t ht
  by_cases h10 : u < 10
  ·exact specDec_s h10 ht
  ·refine Ev.sk1 ?_
   show Ev (fun k => U32.l0_ k (U32.l0 k) (u : Int) t) _
   unfold U32.l0_
   have hm : Int.tmod (u : Int) 10 = ((u % 10 : Nat) : Int) := by rw [Int.tmod_eq_emod_of_nonneg (by omega)]; omega
   have hq : Int.tdiv (u : Int) 10 = ((u / 10 : Nat) : Int) := by rw [Int.tdiv_eq_ediv_of_nonneg (by omega)]; omega
   have hd := digit_str (u % 10) (by omega)
   have hn := Lib.nDigits_big h10
   have hw : IntKind.wrap .i64 ((u / 10 : Nat) : Int) = ((u / 10 : Nat) : Int) := wrap_id (by omega) (by omega)
   have hs1 : (⟨#[UInt8.ofNat (48 + u % 10)]⟩ : ByteArray).size = 1 := rfl
   rw [hm, hq, hd, hw]
   refine Ev.dp (by omega) (Ev.pos (by decide) (Ev.dp (by rw [big_eq]; omega) (Ev.pos (by decide) ?_)))
   refine (ih (u / 10) (by omega) (by omega) _ (by rw [ByteArray.size_append, hs1]; omega)).rw ?_
   have e : Lib.decDigits u = Lib.decDigits (u / 10) ++ [UInt8.ofNat (48 + u % 10)] := by rw [Lib.decDigits, dif_neg h10]
   rw [e]
   have e2 : (⟨(Lib.decDigits (u / 10) ++ [UInt8.ofNat (48 + u % 10)]).toArray⟩ : ByteArray) = (⟨(Lib.decDigits (u / 10)).toArray⟩ : ByteArray) ++ ⟨#[UInt8.ofNat (48 + u % 10)]⟩ := ba_ext (by simp [ByteArray.data_append])
   rw [e2, ByteArray.append_assoc]
theorem decB_nat (u : Nat) : decB (u : Int) = ⟨(Lib.decDigits u).toArray⟩ := by
 unfold decB Lib.itoa
 rw [if_neg (by omega), Int.toNat_natCast]
theorem decB_size {n : Int} (h0 : 0 ≤ n) (h1 : n < 4611686018427387904) : (decB n).size ≤ 20 := by
 obtain ⟨u, rfl⟩ : ∃ u : Nat, n = u := ⟨n.toNat, by omega⟩
 rw [decB_nat]
 show (Lib.decDigits u).toArray.size ≤ 20
 rw [List.size_toArray, Lib.decDigits_length]
 exact nd_le (by omega)
theorem specDec {n : Int} (h0 : 0 ≤ n) (h1 : n < 4611686018427387904) : Ev (fun k => U32.f k n) (one (decB n)) := by
 obtain ⟨u, rfl⟩ : ∃ u : Nat, n = u := ⟨n.toNat, by omega⟩
 unfold U32.f
 refine Ev.dn (by omega) ?_
 have hn := nd_le (u := u) (by omega)
 refine (specDec_l u u (Nat.le_refl _) (by omega) ByteArray.empty (by show 0 + _ ≤ _; omega)).rw ?_
 rw [decB_nat, ByteArray.append_empty]
theorem implDec (k : Nat) {n : Int} (h0 : 0 ≤ n) (h1 : n < 4611686018427387904) : strconv_FormatInt.f k n 10 = some (one (decB n)) := by
 unfold strconv_FormatInt.f fmtF
 rw [dpos rfl, dpos (show -9223372036854775808 ≤ n by omega), dpos (show n ≤ 9223372036854775807 by omega)]
 rfl
def blank : ByteArray := ByteArray.mk #[32]
def numB (n : Int) : ByteArray := blank ++ decB n
def numsB : List Int → ByteArray
 | [] => ByteArray.empty
 | n :: l => numB n ++ numsB l
theorem numsB_app : ∀ a b : List Int, numsB (a ++ b) = numsB a ++ numsB b
 | [], b => by show numsB b = ByteArray.empty ++ numsB b; rw [ByteArray.empty_append]
 | n :: a, b => by show numB n ++ numsB (a ++ b) = (numB n ++ numsB a) ++ numsB b; rw [numsB_app a b, ByteArray.append_assoc]
theorem numsB_push {l : List Int} {i : Nat} (h : i < l.length) : numsB (l.take i) ++ numB l[i] = numsB (l.take (i + 1)) := by
 rw [List.take_succ_eq_append_getElem h, numsB_app]
 show _ = _ ++ (numB l[i] ++ ByteArray.empty)
 rw [ByteArray.append_empty]
def okN (n : Int) : Prop := 0 ≤ n ∧ n < 4611686018427387904
theorem numB_size {n : Int} (h : okN n) : (numB n).size ≤ 21 := by
 unfold numB
 rw [ByteArray.size_append]
 have := decB_size h.1 h.2
 have hb : blank.size = 1 := rfl
 omega
theorem numsB_size : ∀ {l : List Int}, (∀ n ∈ l, okN n) → (numsB l).size ≤ 21 * l.length
 | [], _ => Nat.le_refl _
 | n :: l, h => by
  show (numB n ++ numsB l).size ≤ _
  rw [ByteArray.size_append, List.length_cons]
  have a := numB_size (h n (by simp))
  have b := numsB_size (l := l) fun m hm => h m (by simp [hm])
  omega
theorem take_ok {l : List Int} (h : ∀ n ∈ l, okN n) (i : Nat) : ∀ n ∈ l.take i, okN n := fun n hn => h n (List.mem_of_mem_take hn)
theorem specNums {l : List Int} (hl : l.length ≤ 100) (h : ∀ n ∈ l, okN n) : Ev (fun k => U33.f k l) (one (numsB l)) := by
 unfold U33.f
 refine st_loop (n0 := l.length) (L := fun k a s => U33.l0 k l s a) (T := fun k s => some (one s)) (fun i => numsB (l.take i)) (fun r e => Ev.sk1 ?_) (fun i r hlt e => Ev.sk1 ?_) ?_
 ·show Ev (fun k => U33.l0_ k (U33.l0 k) _ _ _) _
  simp only [U33.l0_, head_end, cond_false]
  exact e
 ·show Ev (fun k => U33.l0_ k (U33.l0 k) _ _ _) _
  have hs := numsB_size (take_ok h i)
  have hlen : (l.take i).length ≤ 100 := by rw [List.length_take]; omega
  have hn := h _ (List.getElem_mem hlt)
  have hd := decB_size hn.1 hn.2
  have hb : (ByteArray.mk #[32]).size = 1 := rfl
  simp only [U33.l0_, head_in hlt, head_0, Bool.and_self, cond_true, Int.toNat_natCast, getD_at _ _ _ hlt, wrap_nat (show i < 9223372036854775807 by omega)]
  refine Ev.dp (by rw [big_eq, hb]; omega) (Ev.bind (specDec hn.1 hn.2) (Ev.dp (by rw [big_eq, ByteArray.size_append, hb]; show _ + (decB l[i]).size ≤ _; omega) ?_))
  simp only [← numsB_push hlt, numB, ← ByteArray.append_assoc] at e
  exact e
 ·simp only [List.take_length]; exact Ev.cst rfl
theorem implLine {w : ByteArray} (hw : w.size ≤ 100000) {l : List Int} (hl : l.length ≤ 100) (h : ∀ n ∈ l, okN n) : Ev (fun k => U77.f k w l) (one (w ++ numsB l)) := by
 unfold U77.f
 have h0 : w = w ++ numsB (l.take 0) := by show w = w ++ ByteArray.empty; rw [ByteArray.append_empty]
 have key := st_loop (n0 := l.length) (L := fun k a s => U77.l0 k s l (l.length : Int) a) (T := fun k s => some (one s)) (fun i => w ++ numsB (l.take i)) (fun r e => Ev.sk1 ?_) (fun i r hlt e => Ev.sk1 ?_) (r := one (w ++ numsB l)) ?_
 ·rw [← h0] at key; exact key
 ·show Ev (fun k => U77.l0_ k (U77.l0 k) _ _ _ _) _
  simp only [U77.l0_, head_end, cond_false]
  exact e
 ·show Ev (fun k => U77.l0_ k (U77.l0 k) _ _ _ _) _
  have hs := numsB_size (take_ok h i)
  have hlen : (l.take i).length ≤ 100 := by rw [List.length_take]; omega
  have hn := h _ (List.getElem_mem hlt)
  have hd := decB_size hn.1 hn.2
  have hb : (ByteArray.mk #[32]).size = 1 := rfl
  simp only [U77.l0_, head_in hlt, head_0, Bool.and_self, cond_true, Int.toNat_natCast, getD_at _ _ _ hlt, wrap_nat (show i < 9223372036854775807 by omega)]
  refine Ev.bind (Ev.all fun k => implDec k hn.1 hn.2) (Ev.dp (by rw [big_eq, hb]; show _ + (decB l[i]).size ≤ _; omega) (Ev.dp (by rw [big_eq, ByteArray.size_append, ByteArray.size_append, hb]; show _ + (_ + (decB l[i]).size) ≤ _; omega) ?_))
  simp only [← numsB_push hlt, numB, ← ByteArray.append_assoc] at e
  simp only [← ByteArray.append_assoc]
  exact e
 ·simp only [List.take_length]; exact Ev.cst rfl
set_option maxRecDepth 100000 in
def opS : ByteArray := (ByteArray.mk #[97, 100, 100, 32, 115, 117, 98, 32, 109, 117, 108, 32, 117, 100, 105, 118, 32, 115, 100, 105, 118, 32, 117, 114, 101, 109, 32, 115, 114, 101, 109, 32, 97, 110, 100, 32, 111, 114, 32, 120, 111, 114, 32, 115, 104, 108, 32, 108, 115, 104, 114, 32, 97, 115, 104, 114, 32, 101, 113, 32, 110, 101, 32, 117, 108, 116, 32, 115, 108, 116, 32, 122, 101, 120, 116, 32, 115, 101, 120, 116, 32, 116, 114, 117, 110, 99, 32, 99, 111, 110, 115, 116, 32, 115, 101, 108, 101, 99, 116, 32, 108, 111, 97, 100, 32, 115, 116, 111, 114, 101, 32, 112, 114, 105, 110, 116, 32, 99, 97, 108, 108, 32, 99, 111, 112, 121])
def wordsL : List ByteArray := Lib.splitB (ByteArray.mk #[32]) 0 (Lib.countB opS (ByteArray.mk #[32])) opS
theorem words_len : wordsL.length = 27 := by kernel_rfl
theorem words_small : (wordsL.all fun w => Nat.ble w.size 10) = true := by kernel_rfl
theorem specWords (k : Nat) : U31.f k = some (rowR (ByteArray.empty :: wordsL)) := by kernel_rfl
theorem implWords (k : Nat) : U76.f k = some (rowR wordsL) := by kernel_rfl
def wordB (op : Int) : ByteArray := wordsL.getD (op - 1).toNat ByteArray.empty
theorem wordB_size (op : Int) : (wordB op).size ≤ 10 := by
 unfold wordB
 by_cases h : (op - 1).toNat < wordsL.length
 ·rw [getD_at _ _ _ h]
  have := List.all_eq_true.1 words_small _ (List.getElem_mem h)
  exact Nat.le_of_ble_eq_true this
 ·rw [List.getD_eq_getElem?_getD, List.getElem?_eq_none (by omega)]
  exact Nat.zero_le _
theorem word_spec {W : List ByteArray} {op : Int} (h : 1 ≤ op) : (ByteArray.empty :: W).getD op.toNat ByteArray.empty = W.getD (op - 1).toNat ByteArray.empty := by
 obtain ⟨n, hn⟩ : ∃ n, op.toNat = n + 1 := ⟨op.toNat - 1, by omega⟩
 rw [hn, show (op - 1).toNat = n by omega]
 rfl
def hasI (i : tInstD) : Bool := decide (i.1 = 21) || decide (i.1 = 26)
def textW (w : ByteArray) (i : tInstD) : ByteArray := bif hasI i then ((w ++ numB i.2.1) ++ numB i.2.2.2.2.2.1) ++ numsB (opsB i) else (w ++ numB i.2.1) ++ numsB (opsB i)
def textI (i : tInstD) : ByteArray := textW (wordB i.1) i
structure Txt (i : tInstD) : Prop where
 op1 : 1 ≤ i.1
 op2 : i.1 ≤ 27
 w : okN i.2.1
 m : okN i.2.2.2.2.2.1
 al : i.2.2.2.2.2.2.1.length ≤ 4
 ol : (opsB i).length ≤ 4
 o : ∀ n ∈ opsB i, okN n
theorem txt_of {c : Int} (hc : c ≤ 60) {i : tInstD} (h : instB c 3 i = true) : Txt i := by
 simp only [instB, Bool.and_eq_true, decide_eq_true_eq, List.all_eq_true] at h
 obtain ⟨⟨⟨⟨⟨⟨h1, h2⟩, h3⟩, h4⟩, h5⟩, h6⟩, h7⟩ := h
 have ho : 1 ≤ i.1 ∧ i.1 ≤ 27 := by simpa [inB] using h1
 have hw : okN i.2.1 := by
  unfold widB at h6
  by_cases c1 : i.1 = 24
  ·rw [dpos c1] at h6
   have : i.2.1 = 0 := by simpa using h6
   exact ⟨by omega, by omega⟩
  ·by_cases c2 : i.1 = 25
   ·rw [dpos c2, Bool.or_true] at h6
    have : i.2.1 = 0 := by simpa using h6
    exact ⟨by omega, by omega⟩
   ·rw [dneg c1, dneg c2] at h6
    by_cases c3 : i.1 = 23
    ·rw [dpos c3] at h6
     have : i.2.1 = 8 := by simpa using h6
     exact ⟨by omega, by omega⟩
    ·rw [dneg c3] at h6
     rcases wOk_cases (show wOk i.2.1 = true from h6) with e | e | e | e <;> exact ⟨by omega, by omega⟩
 have hm : okN i.2.2.2.2.2.1 := by
  unfold immB at h7
  by_cases c1 : i.1 = 21
  ·rw [dpos c1] at h7
   have h8 : (wOk i.2.1 && inB 0 (topOf i.2.1) i.2.2.2.2.2.1) = true := h7
   rw [Bool.and_eq_true] at h8
   have h9 : 0 ≤ i.2.2.2.2.2.1 ∧ i.2.2.2.2.2.1 ≤ topOf i.2.1 := by simpa [inB] using h8.2
   have ht : topOf i.2.1 ≤ 4294967295 := by
    rcases wOk_cases h8.1 with e | e | e | e <;> rw [e] <;> decide
   exact ⟨h9.1, by omega⟩
  ·rw [dneg c1] at h7
   by_cases c2 : i.1 = 26
   ·rw [dpos c2] at h7
    have h9 : 0 ≤ i.2.2.2.2.2.1 ∧ i.2.2.2.2.2.1 ≤ 3 - 1 := by simpa [inB] using h7
    exact ⟨h9.1, by omega⟩
   ·rw [dneg c2] at h7
    have : i.2.2.2.2.2.1 = 0 := by simpa using h7
    exact ⟨by omega, by omega⟩
 have hol : (opsB i).length ≤ 4 := by
  by_cases h26 : i.1 = 26
  ·have e : opsB i = i.2.2.2.2.2.2.1 := by unfold opsB inB; rw [h26]; rfl
   rw [e]; exact h2
  ·have := opsB_few h26; omega
 refine ⟨ho.1, ho.2, hw, hm, h2, hol, fun n hn => ?_⟩
 have := h4 n hn
 have h9 : 0 ≤ n ∧ n ≤ c - 1 := by simpa [inB] using this
 exact ⟨h9.1, by omega⟩
theorem specTextW {i : tInstD} (h : Txt i) {W : List ByteArray} {w : ByteArray} (hk : ∀ k, U31.f k = some (rowR (ByteArray.empty :: W))) (hW : W.length = 27) (hg : W.getD (i.1 - 1).toNat ByteArray.empty = w) (hws : w.size ≤ 10) : Ev (fun k => U34.f k i) (one (textW w i)) := by
 have hd := decB_size h.w.1 h.w.2
 have hdm := decB_size h.m.1 h.m.2
 have hn := numsB_size h.o
 have hol := h.ol
 have hb : (ByteArray.mk #[32]).size = 1 := rfl
 have hal : i.2.2.2.2.2.2.1.length ≤ 1048576 := by have := h.al; omega
 have hlen : ((List.length (ByteArray.empty :: W) : Nat) : Int) = 28 := by rw [List.length_cons, hW]; rfl
 unfold U34.f
 refine Ev.bind (Ev.all hk) ?_
 simp only [word_spec h.op1, hg]
 refine Ev.dd (by have := h.op1; omega) (by show i.1 < ((List.length (ByteArray.empty :: W) : Nat) : Int); rw [hlen]; have := h.op2; omega) (Ev.dp (by rw [big_eq, hb]; omega) (Ev.bind (specDec h.w.1 h.w.2) (Ev.dp (by rw [big_eq, ByteArray.size_append, hb]; show _ + (decB i.2.1).size ≤ _; omega) ?_)))
 have tail : ∀ (t : ByteArray), t.size ≤ 1000 → ∀ r, t ++ numsB (opsB i) = r → Ev (fun k => Option.bind (U21.f k i) fun r9 => Option.bind (U33.f k r9.2.1) fun r10 => bif decide (ByteArray.size t + ByteArray.size r10.1.1.1 ≤ big) then (some (((t ++ r10.1.1.1, ()), ()), ())) else none) (one r) := fun t ht r hr =>
  Ev.bind (Ev.all fun k => specOps k hal) (Ev.bind (specNums (by show (opsB i).length ≤ 100; omega) h.o) (Ev.dp (by rw [big_eq]; show _ + (numsB (opsB i)).size ≤ _; omega) (Ev.cst (by rw [← hr]))))
 by_cases c1 : i.1 = 21
 ·have e : textW w i = ((w ++ numB i.2.1) ++ numB i.2.2.2.2.2.1) ++ numsB (opsB i) := by unfold textW hasI; rw [dpos c1]; rfl
  rw [e]
  refine Ev.dp c1 (Ev.dp (by rw [big_eq, ByteArray.size_append, ByteArray.size_append, hb]; show _ + (decB i.2.1).size + _ ≤ _; omega) (Ev.bind (specDec h.m.1 h.m.2) (Ev.dp (by rw [big_eq, ByteArray.size_append, ByteArray.size_append, ByteArray.size_append, hb]; show _ + (decB i.2.1).size + _ + (decB i.2.2.2.2.2.1).size ≤ _; omega) (tail _ (by rw [ByteArray.size_append, ByteArray.size_append, ByteArray.size_append, ByteArray.size_append, hb]; show _ + (decB i.2.1).size + _ + (decB i.2.2.2.2.2.1).size ≤ _; omega) _ ?_))))
  simp only [numB, blank, one, ← ByteArray.append_assoc]
 ·by_cases c2 : i.1 = 26
  ·have e : textW w i = ((w ++ numB i.2.1) ++ numB i.2.2.2.2.2.1) ++ numsB (opsB i) := by unfold textW hasI; rw [dpos c2, Bool.or_true]; rfl
   rw [e]
   refine Ev.dn c1 (Ev.dp c2 (Ev.dp (by rw [big_eq, ByteArray.size_append, ByteArray.size_append, hb]; show _ + (decB i.2.1).size + _ ≤ _; omega) (Ev.bind (specDec h.m.1 h.m.2) (Ev.dp (by rw [big_eq, ByteArray.size_append, ByteArray.size_append, ByteArray.size_append, hb]; show _ + (decB i.2.1).size + _ + (decB i.2.2.2.2.2.1).size ≤ _; omega) (tail _ (by rw [ByteArray.size_append, ByteArray.size_append, ByteArray.size_append, ByteArray.size_append, hb]; show _ + (decB i.2.1).size + _ + (decB i.2.2.2.2.2.1).size ≤ _; omega) _ ?_)))))
   simp only [numB, blank, one, ← ByteArray.append_assoc]
  ·have e : textW w i = (w ++ numB i.2.1) ++ numsB (opsB i) := by unfold textW hasI; rw [dneg c1, dneg c2]; rfl
   rw [e]
   refine Ev.dn c1 (Ev.dn c2 (tail _ (by rw [ByteArray.size_append, ByteArray.size_append, hb]; show _ + (decB i.2.1).size ≤ _; omega) _ ?_))
   simp only [numB, blank, one, ← ByteArray.append_assoc]
theorem specText {i : tInstD} (h : Txt i) : Ev (fun k => U34.f k i) (one (textI i)) := specTextW h specWords words_len (by unfold wordB; rfl) (wordB_size _)
theorem nums1 (n : Int) : numsB [n] = numB n := by show numB n ++ ByteArray.empty = _; rw [ByteArray.append_empty]
theorem implTextW {i : tInstD} (h : Txt i) {W : List ByteArray} {w : ByteArray} (hk : ∀ k, U76.f k = some (rowR W)) (hW : W.length = 27) (hg : W.getD (i.1 - 1).toNat ByteArray.empty = w) (hws : w.size ≤ 10) : Ev (fun k => U79.f k i) (one (textW w i)) := by
 have hw := numB_size h.w
 have hm := numB_size h.m
 have hal : i.2.2.2.2.2.2.1.length ≤ 1048576 := by have := h.al; omega
 have hol := h.ol
 have hwr : IntKind.wrap .i64 (i.1 - 1) = i.1 - 1 := wrap_id (by have := h.op1; omega) (by have := h.op2; omega)
 unfold U79.f
 rw [hwr]
 refine Ev.bind (Ev.all hk) (Ev.dd (by have := h.op1; omega) (by show i.1 - 1 < ((List.length W : Nat) : Int); rw [hW]; have := h.op2; omega) ?_)
 have l1 := implLine (w := w) (by omega) (l := [i.2.1]) (by simp) (fun n hn => by rw [List.mem_singleton.1 hn]; exact h.w)
 rw [nums1] at l1
 show Ev (fun k => Option.bind (U77.f k (W.getD (i.1 - 1).toNat ByteArray.empty) [i.2.1]) _) _
 rw [hg]
 refine Ev.bind l1 ?_
 unfold U78.f
 cases hi : hasI i with
 | true =>
  have e : textW w i = ((w ++ numB i.2.1) ++ numB i.2.2.2.2.2.1) ++ numsB (opsB i) := by unfold textW; rw [hi]; rfl
  rw [e]
  have l2 := implLine (w := w ++ numB i.2.1) (by rw [ByteArray.size_append]; omega) (l := [i.2.2.2.2.2.1]) (by simp) (fun n hn => by rw [List.mem_singleton.1 hn]; exact h.m)
  rw [nums1] at l2
  refine Ev.bind (a := one true) (Ev.cst (by unfold hasI at hi; cases c1 : decide (i.1 = 21) <;> simp_all)) (Ev.pos rfl (Ev.bind l2 (Ev.bind (Ev.all fun k => implOps k hal) (Ev.bind (implLine (w := (w ++ numB i.2.1) ++ numB i.2.2.2.2.2.1) (by rw [ByteArray.size_append, ByteArray.size_append]; omega) (by show (opsB i).length ≤ 100; omega) h.o) (Ev.cst rfl)))))
 | false =>
  have e : textW w i = (w ++ numB i.2.1) ++ numsB (opsB i) := by unfold textW; rw [hi]; rfl
  rw [e]
  refine Ev.bind (a := one false) (Ev.cst (by unfold hasI at hi; cases c1 : decide (i.1 = 21) <;> simp_all)) (Ev.neg rfl (Ev.bind (Ev.all fun k => implOps k hal) (Ev.bind (implLine (w := w ++ numB i.2.1) (by rw [ByteArray.size_append]; omega) (by show (opsB i).length ≤ 100; omega) h.o) (Ev.cst rfl))))
theorem implText {i : tInstD} (h : Txt i) : Ev (fun k => U79.f k i) (one (textI i)) := implTextW h implWords words_len (by unfold wordB; rfl) (wordB_size _)
theorem implWs {l : List Int} (h : l.length ≤ 1048576) : Ev (fun k => U41.f k l) (one (!l.all wOk)) := by
 rw [← any_not]
 exact index_ev (z := 0) (L := fun k b a => U40.l0 k l b a) (q := fun k x => U39.f k x) (by omega) (fun k b a => rfl) fun x _ => Ev.all fun k => by
  unfold U39.f
  rw [implW]; rfl
theorem implIds {l : List Int} (h : l.length ≤ 1048576) {count : Int} (h0 : 0 ≤ count) (h1 : count ≤ 9223372036854775807) : Ev (fun k => U45.f k l count) (one (!l.all (inB 0 (count - 1)))) := by
 rw [← any_not]
 exact index_ev (z := 0) (L := fun k b a => U44.l0 k l b a count) (q := fun k x => U43.f k x count) (by omega) (fun k b a => rfl) fun x _ => Ev.all fun k => by
  unfold U43.f
  rw [implIn, wrap_id (by omega) (by omega)]; rfl
theorem ev_nt {g : Nat → Option BR} {b c : Bool} (h : Ev g (one (!c))) : Ev (fun k => bif !b then some (one true) else g k) (one (!(b && c))) := by
 cases b with
 | true => exact Ev.neg rfl h
 | false => exact Ev.pos rfl (Ev.cst rfl)
theorem ev_nt' {g : Nat → Option BR} {b c : Bool} (h : Ev g (one (!c))) : Ev (fun k => bif b then some (one true) else g k) (one (!(!b && c))) := by
 cases b with
 | true => exact Ev.pos rfl (Ev.cst rfl)
 | false => exact Ev.neg rfl h
theorem implPhi {p : tPhiD} (hp : Small tPhi p) {count : Int} (h0 : 0 ≤ count) (h1 : count ≤ 9223372036854775807) : Ev (fun k => U46.f k p count) (one (!phiB count p)) := by
 have hl : p.2.1.length ≤ 1048576 := hp.2.1.1
 unfold U46.f phiB
 rw [Bool.and_assoc, len_not]
 exact Ev.bind (Ev.all fun k => implW k _) (ev_nt (ev_nt' (Ev.bind (implIds hl h0 h1) (Ev.cst rfl))))
theorem implPhis {l : List tPhiD} (hs : Small (.list tPhi) l) {count : Int} (h0 : 0 ≤ count) (h1 : count ≤ 9223372036854775807) : Ev (fun k => U48.f k l count) (one (!l.all (phiB count))) := by
 have hl : l.length ≤ 1048576 := hs.1
 rw [← any_not]
 exact index_ev (z := tPhiZ) (L := fun k b a => U47.l0 k l b a count) (q := fun k x => U46.f k x count) (by omega) (fun k b a => rfl) fun x hx => implPhi (hs.2 x hx) h0 h1
theorem implInsts {l : List tInstD} (hs : Small (.list tInst) l) {count funcs : Int} (h0 : 0 ≤ count) (h1 : count ≤ 9223372036854775807) (h2 : 0 ≤ funcs) (h3 : funcs ≤ 9223372036854775807) : Ev (fun k => U65.f k l count funcs) (one (!l.all (instB count funcs))) := by
 have hl : l.length ≤ 1048576 := hs.1
 rw [← any_not]
 refine index_ev (z := tInstZ) (L := fun k b a => U64.l0 k l b a count funcs) (q := fun k x => U63.f k x count funcs) (by omega) (fun k b a => rfl) fun x hx => ?_
 exact Ev.bind (implInst (i := x) ((hs.2 x hx).2.2.2.2.2.2.1.1) h0 h1 h2 h3) (Ev.cst rfl)
theorem implFunc {f : tFuncD} (hf : Small tFunc f) {funcs : Int} (h2 : 0 ≤ funcs) (h3 : funcs ≤ 9223372036854775807) : Ev (fun k => U68.f k f funcs) (one (funcB funcs f)) := by
 have hs := hf.2.2.1
 have hlen : f.2.2.1.length ≤ 1048576 := hs.1
 have hpl : f.1.length ≤ 1048576 := hf.1.1
 obtain ⟨c0, c1⟩ := cntB_le hf
 have c1 : cntB f ≤ 9223372036854775807 := by omega
 have hord : funcB funcs f = (!decide (((4 : Nat) : Int) < ((f.1.length : Nat) : Int)) && (wOk f.2.1 && (inB 1 10 (f.2.2.1.length : Int) && (f.1.all wOk && (!decide (60 < cntB f) && f.2.2.1.all (blockB (cntB f) funcs (f.2.2.1.length : Int))))))) := by
  unfold funcB
  rw [len_not, le_not]
  generalize decide (((4 : Nat) : Int) < ((f.1.length : Nat) : Int)) = a
  generalize decide (60 < cntB f) = b
  generalize f.1.all wOk = c
  cases a <;> cases b <;> cases c <;> simp [Bool.and_assoc]
 rw [hord]
 unfold U68.f
 refine ev_and' (Ev.bind (Ev.all fun k => implW k _) (ev_and (Ev.bind (Ev.all fun k => implIn k _ _ _) (ev_and (Ev.bind (implWs hpl) ?_)))))
 have inner : Ev (fun k => Option.bind (U42.f k f) fun r4 => bif decide (60 < r4.1.1.1) then some (((false, ()), ()), ()) else U68.l0 k f.2.2.1 ((List.length f.2.2.1 : Nat) : Int) 0 f funcs r4.1.1.1) (one (!decide (60 < cntB f) && f.2.2.1.all (blockB (cntB f) funcs (f.2.2.1.length : Int)))) := by
  refine Ev.bind (implCount hf) (ev_and' ?_)
  refine each_ev (z := tBlockZ) (l := f.2.2.1) (L := fun k a => U68.l0 k f.2.2.1 ((List.length f.2.2.1 : Nat) : Int) a f funcs (cntB f)) (V := fun m => one (m.all (blockB (cntB f) funcs (f.2.2.1.length : Int))))
   (q := fun k x g => Option.bind (U48.f k x.1 (cntB f)) fun r1 => bif r1.1.1.1 then some (((false, ()), ()), ()) else Option.bind (U65.f k x.2.1 (cntB f) funcs) fun r2 => bif r2.1.1.1 then some (((false, ()), ()), ()) else Option.bind (U67.f k f x.2.2 (cntB f)) fun r3 => bif !r3.1.1.1 then some (((false, ()), ()), ()) else g k)
   (by omega) (fun k a => rfl) (Ev.cst rfl) fun x m g hx hg => ?_
  have hx' := hs.2 x hx
  have hb : (blockB (cntB f) funcs (f.2.2.1.length : Int) x && m.all (blockB (cntB f) funcs (f.2.2.1.length : Int))) = (!(!x.1.all (phiB (cntB f))) && (!(!x.2.1.all (instB (cntB f) funcs)) && (termB (cntB f) (f.2.2.1.length : Int) x.2.2 && m.all (blockB (cntB f) funcs (f.2.2.1.length : Int))))) := by
   have e : blockB (cntB f) funcs (f.2.2.1.length : Int) x = (x.1.all (phiB (cntB f)) && x.2.1.all (instB (cntB f) funcs) && termB (cntB f) (f.2.2.1.length : Int) x.2.2) := rfl
   rw [e, Bool.not_not, Bool.not_not, Bool.and_assoc, Bool.and_assoc]
  rw [List.all_cons, hb]
  exact Ev.bind (implPhis hx'.1 c0 c1) (ev_and' (Ev.bind (implInsts hx'.2.1 c0 c1 h2 h3) (ev_and' (Ev.bind (Ev.all fun k => implTerm k x.2.2 hlen c0 c1) (ev_and hg)))))
 have := ev_and' (b := !f.1.all wOk) inner
 rw [Bool.not_not] at this
 exact this
structure Fm (funcs : Int) (f : tFuncD) : Prop where
 p4 : f.1.length ≤ 4
 b1 : 1 ≤ f.2.2.1.length
 b10 : f.2.2.1.length ≤ 10
 cnt : cntB f ≤ 60
 pw : ∀ w ∈ f.1, wOk w = true
 ph : ∀ x ∈ f.2.2.1, ∀ p ∈ x.1, phiB (cntB f) p = true
 ins : ∀ x ∈ f.2.2.1, ∀ i ∈ x.2.1, instB (cntB f) funcs i = true
 tm : ∀ x ∈ f.2.2.1, termB (cntB f) (f.2.2.1.length : Int) x.2.2 = true
theorem inB_iff {lo hi x : Int} : inB lo hi x = true ↔ lo ≤ x ∧ x ≤ hi := by simp [inB]
theorem Fm.of {funcs : Int} {f : tFuncD} (h : funcB funcs f = true) : Fm funcs f := by
 simp only [funcB, Bool.and_eq_true, decide_eq_true_eq, List.all_eq_true, inB_iff, blockB] at h
 obtain ⟨⟨⟨⟨⟨h1, h2⟩, h3⟩, h4⟩, h5⟩, h6⟩ := h
 exact ⟨h1, by omega, by omega, h4, h5, fun x hx => (h6 x hx).1.1, fun x hx => (h6 x hx).1.2, fun x hx => (h6 x hx).2⟩
/-- How many ids a block gives. -/
def wB (x : tBlockD) : Int := ((x.1.length : Nat) : Int) + ((x.2.1.length : Nat) : Int)
theorem wB_nonneg (x : tBlockD) : 0 ≤ wB x := by unfold wB; omega
theorem cntB_eq (f : tFuncD) : cntB f = (f.1.length : Int) + sumB wB f.2.2.1 := rfl
theorem sumB_nonneg {α : Type} {w : α → Int} : ∀ {l : List α}, (∀ x ∈ l, 0 ≤ w x) → 0 ≤ sumB w l
 | [], _ => Int.le_refl _
 | x :: l, h => by
  have := h x (by simp)
  have := sumB_nonneg (l := l) fun y hy => h y (by simp [hy])
  simp only [sumB]; omega
theorem le_sumB {α : Type} {w : α → Int} {l : List α} (h : ∀ x ∈ l, 0 ≤ w x) {x : α} (hx : x ∈ l) : w x ≤ sumB w l := by
 induction l with
 | nil => cases hx
 | cons y l ih =>
  have hn := sumB_nonneg (l := l) fun z hz => h z (by simp [hz])
  simp only [sumB]
  rcases List.mem_cons.1 hx with rfl | hx
  ·omega
  ·have := ih (fun z hz => h z (by simp [hz])) hx
   have := h y (by simp)
   omega
theorem Fm.w60 {funcs : Int} {f : tFuncD} (h : Fm funcs f) {x : tBlockD} (hx : x ∈ f.2.2.1) : wB x ≤ 60 := by
 have := le_sumB (w := wB) (fun y _ => wB_nonneg y) hx
 have := h.cnt
 rw [cntB_eq] at this
 omega
section
variable {funcs : Int} {f : tFuncD}
def vid (f : tFuncD) (id : Int) : Prop := 0 ≤ id ∧ id < cntB f
end
abbrev IIR := (((Int × Unit) × (Int × Unit) × Unit) × Unit)
abbrev two (p : Int × Int) : IIR := (((p.1, ()), (p.2, ()), ()), ())
/-- The place of an id that is counted from block b on. -/
def placeL : List tBlockD → Nat → Int → Int × Int
 | [], _, _ => (-2, 0)
 | x :: l, b, id => if id < wB x then ((b : Int), id) else placeL l (b + 1) (id - wB x)
def placeOf (f : tFuncD) (id : Int) : Int × Int := if id < (f.1.length : Int) then (-1, id) else placeL f.2.2.1 0 (id - (f.1.length : Int))
theorem placeL_in : ∀ (l : List tBlockD) (b : Nat) (id : Int), 0 ≤ id → id < sumB wB l → ∃ j : Nat, ∃ h : j < l.length, placeL l b id = (((b + j : Nat) : Int), id - sumB wB (l.take j)) ∧ 0 ≤ id - sumB wB (l.take j) ∧ id - sumB wB (l.take j) < wB l[j]
 | [], _, id, h0, h => by simp [sumB] at h; omega
 | x :: l, b, id, h0, h => by
  simp only [sumB] at h
  unfold placeL
  by_cases c : id < wB x
  ·exact ⟨0, by simp, by rw [if_pos c]; simp [sumB], by simpa [sumB] using h0, by simpa [sumB] using c⟩
  ·obtain ⟨j, hj, e, a, b'⟩ := placeL_in l (b + 1) (id - wB x) (by omega) (by omega)
   refine ⟨j + 1, by simpa using hj, ?_, ?_, ?_⟩
   ·rw [if_neg c, e]
    simp only [List.take_succ_cons, sumB]
    refine Prod.ext ?_ ?_
    ·show ((b + 1 + j : Nat) : Int) = ((b + (j + 1) : Nat) : Int); omega
    ·show _ = _; omega
   ·simp only [List.take_succ_cons, sumB]; omega
   ·simp only [List.take_succ_cons, sumB, List.getElem_cons_succ]; omega
section
variable {funcs : Int} {f : tFuncD}
/-- Where an id stands. -/
theorem place_cases (id : Int) (h0 : 0 ≤ id) (h1 : id < cntB f) : (id < (f.1.length : Int) ∧ placeOf f id = (-1, id)) ∨ ((f.1.length : Int) ≤ id ∧ ∃ j : Nat, ∃ hj : j < f.2.2.1.length, placeOf f id = ((j : Int), id - (f.1.length : Int) - sumB wB (f.2.2.1.take j)) ∧ 0 ≤ id - (f.1.length : Int) - sumB wB (f.2.2.1.take j) ∧ id - (f.1.length : Int) - sumB wB (f.2.2.1.take j) < wB f.2.2.1[j]) := by
 rw [cntB_eq] at h1
 unfold placeOf
 by_cases c : id < (f.1.length : Int)
 ·exact .inl ⟨c, if_pos c⟩
 ·obtain ⟨j, hj, e, a, b⟩ := placeL_in f.2.2.1 0 (id - (f.1.length : Int)) (by omega) (by omega)
  refine .inr ⟨by omega, j, hj, ?_, a, b⟩
  rw [if_neg c, e, Nat.zero_add]
theorem blk_wrap {x : tBlockD} (h : wB x ≤ 60) : IntKind.wrap .i64 (((List.length x.1 : Nat) : Int) + ((List.length x.2.1 : Nat) : Int)) = wB x := wrap_id (by omega) (by unfold wB at h; omega)
theorem specPlace_l (hf : Fm funcs f) : ∀ (d i : Nat) (id : Int), i + d = f.2.2.1.length → 0 ≤ id → id ≤ 100 → Ev (fun k => U27.l0 k id i f) (two (placeL (f.2.2.1.drop i) i id)) := by
 intro d
 induction d with
 | zero =>
  intro i id hi h0 h1
  obtain rfl : i = f.2.2.1.length := by omega
  rw [List.drop_length]
  refine Ev.step (g' := fun _ => some (two (-2, 0))) (Ev.cst rfl) fun k => ?_
  show U27.l0_ k (U27.l0 k) id _ f = _
  unfold U27.l0_
  simp only [head_end, cond_false]
 | succ d ih =>
  intro i id hi h0 h1
  have hlt : i < f.2.2.1.length := by omega
  have hb := hf.w60 (List.getElem_mem hlt)
  have hc := wB_nonneg f.2.2.1[i]
  have h10 := hf.b10
  rw [List.drop_eq_getElem_cons hlt]
  refine Ev.succ ?_
  show Ev (fun k => U27.l0_ k (U27.l0 k) id _ f) _
  unfold U27.l0_ placeL
  simp only [head_in hlt, head_0, Bool.and_self, cond_true, get_in hlt, blk_wrap hb, wrap_nat (show i < 9223372036854775807 by omega)]
  by_cases c : id < wB f.2.2.1[i]
  ·rw [if_pos c]
   exact Ev.dp c (Ev.cst rfl)
  ·rw [if_neg c]
   refine Ev.dn c ?_
   rw [wrap_id (x := id - wB f.2.2.1[i]) (by omega) (by omega)]
   exact ih (i + 1) _ (by omega) (by omega) (by omega)
theorem specPlace (hf : Fm funcs f) {id : Int} (h0 : 0 ≤ id) (h1 : id < cntB f) : Ev (fun k => U27.f k f id) (two (placeOf f id)) := by
 have h60 := hf.cnt
 have h4 := hf.p4
 unfold U27.f placeOf
 refine Ev.dn (by omega) ?_
 by_cases c : id < (f.1.length : Int)
 ·rw [if_pos c]; exact Ev.dp c (Ev.cst rfl)
 ·rw [if_neg c]
  refine Ev.dn c ?_
  rw [wrap_id (by omega) (by omega)]
  exact specPlace_l hf f.2.2.1.length 0 _ (by omega) (by omega) (by omega)
theorem implPlace_l (hf : Fm funcs f) (id : Int) (h1 : id ≤ 100) : ∀ (d i : Nat) (n : Int), i + d = f.2.2.1.length → 0 ≤ n → n ≤ id → Ev (fun k => U71.l0 k id n f.2.2.1 ((List.length f.2.2.1 : Nat) : Int) i) (two (placeL (f.2.2.1.drop i) i (id - n))) := by
 intro d
 induction d with
 | zero =>
  intro i n hi h0 hn
  obtain rfl : i = f.2.2.1.length := by omega
  rw [List.drop_length]
  refine Ev.step (g' := fun _ => some (two (-2, 0))) (Ev.cst rfl) fun k => ?_
  show U71.l0_ k (U71.l0 k) id n _ _ _ = _
  unfold U71.l0_
  simp only [head_end, cond_false]
 | succ d ih =>
  intro i n hi h0 hn
  have hlt : i < f.2.2.1.length := by omega
  have hb := hf.w60 (List.getElem_mem hlt)
  have hc := wB_nonneg f.2.2.1[i]
  have h10 := hf.b10
  rw [List.drop_eq_getElem_cons hlt]
  refine Ev.succ ?_
  show Ev (fun k => U71.l0_ k (U71.l0 k) id n _ _ _) _
  unfold U71.l0_ placeL
  simp only [head_in hlt, head_0, Bool.and_self, cond_true, get_in hlt, blk_wrap hb, wrap_nat (show i < 9223372036854775807 by omega), wrap_id (x := n + wB f.2.2.1[i]) (by omega) (by omega), wrap_id (x := id - n) (by omega) (by omega)]
  by_cases c : id < n + wB f.2.2.1[i]
  ·rw [if_pos (show id - n < wB f.2.2.1[i] by omega)]
   exact Ev.dp c (Ev.cst rfl)
  ·rw [if_neg (show ¬ id - n < wB f.2.2.1[i] by omega)]
   refine Ev.dn c ?_
   rw [show id - n - wB f.2.2.1[i] = id - (n + wB f.2.2.1[i]) by omega]
   exact ih (i + 1) _ (by omega) (by omega) (by omega)
theorem implIsId (hs : Small tFunc f) {id : Int} (h0 : 0 ≤ id) (h1 : id < cntB f) : Ev (fun k => U70.f k f id) (one true) := by
 obtain ⟨c0, c1⟩ := cntB_le hs
 refine Ev.bind (implCount hs) (Ev.bind (Ev.all fun k => implIn k _ _ _) (Ev.cst ?_))
 rw [show IntKind.wrap .i64 ((one (cntB f)).1.1.1 - 1) = cntB f - 1 from wrap_id (by show -9223372036854775808 ≤ cntB f - 1; omega) (by show cntB f - 1 ≤ _; omega)]
 rw [show inB 0 (cntB f - 1) id = true from inB_iff.2 ⟨h0, by omega⟩]
theorem implPlace (hs : Small tFunc f) (hf : Fm funcs f) {id : Int} (h0 : 0 ≤ id) (h1 : id < cntB f) : Ev (fun k => U71.f k f id) (two (placeOf f id)) := by
 have h60 := hf.cnt
 have h4 := hf.p4
 unfold U71.f placeOf
 refine Ev.bind (implIsId hs h0 h1) (Ev.neg rfl ?_)
 by_cases c : id < (f.1.length : Int)
 ·rw [if_pos c]; exact Ev.dp c (Ev.cst rfl)
 ·rw [if_neg c]
  exact Ev.dn c (implPlace_l hf id (by omega) f.2.2.1.length 0 _ (by omega) (by omega) (by omega))
end
section
variable {funcs : Int} {f : tFuncD}
abbrev InstR := (((tInstD) × (Bool × Unit) × Unit) × Unit)
def instP (f : tFuncD) (id : Int) : tInstD × Bool :=
 if (placeOf f id).1 = -1 then (tInstZ, false) else
  if (placeOf f id).2 < ((f.2.2.1.getD (placeOf f id).1.toNat tBlockZ).1.length : Int) then (tInstZ, false)
  else ((f.2.2.1.getD (placeOf f id).1.toNat tBlockZ).2.1.getD ((placeOf f id).2 - ((f.2.2.1.getD (placeOf f id).1.toNat tBlockZ).1.length : Int)).toNat tInstZ, true)
def instQ (f : tFuncD) (id : Int) : InstR := (((instP f id).1, ((instP f id).2, ()), ()), ())
theorem implInstOf (hs : Small tFunc f) (hf : Fm funcs f) {id : Int} (v : vid f id) : Ev (fun k => U72.f k f id) (instQ f id) := by
 have h10 := hf.b10
 unfold U72.f instQ instP
 refine Ev.bind (implPlace hs hf v.1 v.2) ?_
 rcases place_cases id v.1 v.2 with ⟨hl, hp⟩ | ⟨hl, j, hj, hp, ha, hb⟩
 ·rw [hp, if_pos rfl]
  exact Ev.dp (show (-1 : Int) < 0 by decide) (Ev.cst rfl)
 ·rw [hp]
  generalize id - (f.1.length : Int) - sumB wB (f.2.2.1.take j) = at' at ha hb
  have hx := hf.w60 (List.getElem_mem hj)
  rw [if_neg (by show ¬ ((j : Int) = -1); omega)]
  refine Ev.dn (show ¬ ((j : Int) < 0) by omega) (Ev.dd (show 0 ≤ (j : Int) by omega) (show (j : Int) < (f.2.2.1.length : Int) by omega) ?_)
  show Ev (fun k => bif decide (at' < ((List.length (f.2.2.1.getD (Int.toNat (j : Int)) tBlockZ).1 : Nat) : Int)) then _ else (bif decide (0 ≤ (j : Int)) && decide ((j : Int) < (f.2.2.1.length : Int)) then (bif decide (0 ≤ (j : Int)) && decide ((j : Int) < (f.2.2.1.length : Int)) then (bif decide (0 ≤ IntKind.wrap .i64 (at' - ((List.length (f.2.2.1.getD (Int.toNat (j : Int)) tBlockZ).1 : Nat) : Int))) && decide (IntKind.wrap .i64 (at' - ((List.length (f.2.2.1.getD (Int.toNat (j : Int)) tBlockZ).1 : Nat) : Int)) < ((List.length (f.2.2.1.getD (Int.toNat (j : Int)) tBlockZ).2.1 : Nat) : Int)) then some ((((f.2.2.1.getD (Int.toNat (j : Int)) tBlockZ).2.1.getD (Int.toNat (IntKind.wrap .i64 (at' - ((List.length (f.2.2.1.getD (Int.toNat (j : Int)) tBlockZ).1 : Nat) : Int)))) tInstZ, (true, ()), ()), ())) else none) else none) else none)) _
  rw [get_in hj]
  unfold wB at hb hx
  by_cases c : at' < ((List.length f.2.2.1[j].1 : Nat) : Int)
  ·rw [if_pos c]
   exact Ev.dp c (Ev.cst rfl)
  ·have hw : IntKind.wrap .i64 (at' - ((List.length f.2.2.1[j].1 : Nat) : Int)) = at' - ((List.length f.2.2.1[j].1 : Nat) : Int) := wrap_id (by omega) (by omega)
   rw [if_neg c, hw]
   exact Ev.dn c (Ev.dd (by omega) (by omega) (Ev.dd (by omega) (by omega) (Ev.dd (by omega) (by omega) (Ev.cst rfl))))
theorem specInstOf (hf : Fm funcs f) {id : Int} (v : vid f id) : Ev (fun k => U28.f k f id) (instQ f id) := by
 have h10 := hf.b10
 unfold U28.f instQ instP
 refine Ev.bind (specPlace hf v.1 v.2) ?_
 rcases place_cases id v.1 v.2 with ⟨hl, hp⟩ | ⟨hl, j, hj, hp, ha, hb⟩
 ·rw [hp, if_pos rfl]
  exact Ev.dp (show (-1 : Int) < 0 by decide) (Ev.cst rfl)
 ·rw [hp]
  generalize id - (f.1.length : Int) - sumB wB (f.2.2.1.take j) = at' at ha hb
  have hx := hf.w60 (List.getElem_mem hj)
  rw [if_neg (by show ¬ ((j : Int) = -1); omega)]
  refine Ev.dn (show ¬ ((j : Int) < 0) by omega) (Ev.dd (show 0 ≤ (j : Int) by omega) (show (j : Int) < (f.2.2.1.length : Int) by omega) ?_)
  show Ev (fun k => bif decide (at' < ((List.length (f.2.2.1.getD (Int.toNat (j : Int)) tBlockZ).1 : Nat) : Int)) then _ else (bif decide (0 ≤ (j : Int)) && decide ((j : Int) < (f.2.2.1.length : Int)) then (bif decide (0 ≤ IntKind.wrap .i64 (at' - ((List.length (f.2.2.1.getD (Int.toNat (j : Int)) tBlockZ).1 : Nat) : Int))) && decide (IntKind.wrap .i64 (at' - ((List.length (f.2.2.1.getD (Int.toNat (j : Int)) tBlockZ).1 : Nat) : Int)) < ((List.length (f.2.2.1.getD (Int.toNat (j : Int)) tBlockZ).2.1 : Nat) : Int)) then some ((((f.2.2.1.getD (Int.toNat (j : Int)) tBlockZ).2.1.getD (Int.toNat (IntKind.wrap .i64 (at' - ((List.length (f.2.2.1.getD (Int.toNat (j : Int)) tBlockZ).1 : Nat) : Int)))) tInstZ, (true, ()), ()), ())) else none) else none)) _
  rw [get_in hj]
  unfold wB at hb hx
  by_cases c : at' < ((List.length f.2.2.1[j].1 : Nat) : Int)
  ·rw [if_pos c]
   exact Ev.dp c (Ev.cst rfl)
  ·have hw : IntKind.wrap .i64 (at' - ((List.length f.2.2.1[j].1 : Nat) : Int)) = at' - ((List.length f.2.2.1[j].1 : Nat) : Int) := wrap_id (by omega) (by omega)
   rw [if_neg c, hw]
   exact Ev.dn c (Ev.dd (by omega) (by omega) (Ev.dd (by omega) (by omega) (Ev.cst rfl)))
/-- An id's instruction is one of its block's. -/
theorem instP_in (hf : Fm funcs f) {id : Int} (v : vid f id) (h : (instP f id).2 = true) : ∃ x ∈ f.2.2.1, (instP f id).1 ∈ x.2.1 := by
 unfold instP at h ⊢
 rcases place_cases id v.1 v.2 with ⟨hl, hp⟩ | ⟨hl, j, hj, hp, ha, hb⟩
 ·rw [hp, if_pos rfl] at h
  cases h
 ·rw [hp] at h ⊢
  generalize id - (f.1.length : Int) - sumB wB (f.2.2.1.take j) = at' at ha hb h ⊢
  rw [if_neg (by show ¬ ((j : Int) = -1); omega)] at h ⊢
  simp only [] at h ⊢
  rw [get_in hj] at h ⊢
  unfold wB at hb
  by_cases c : at' < ((List.length f.2.2.1[j].1 : Nat) : Int)
  ·rw [if_pos c] at h
   cases h
  ·rw [if_neg c]
   refine ⟨f.2.2.1[j], List.getElem_mem hj, ?_⟩
   show (f.2.2.1[j].2.1.getD (at' - ((List.length f.2.2.1[j].1 : Nat) : Int)).toNat tInstZ) ∈ _
   rw [getD_at _ _ _ (show (at' - ((List.length f.2.2.1[j].1 : Nat) : Int)).toNat < f.2.2.1[j].2.1.length by omega)]
   exact List.getElem_mem _
end
theorem implHasK (l : List Int) (n : Int) (h : l.length ≤ 1048576) : Ev (fun k => U74.f k l n) (one (decide (n ∈ l))) := by
 have := index_ev (z := 0) (l := l) (p := fun x => decide (n = x)) (L := fun k b a => U73.l0 k l n b a) (q := fun k x => some (one (decide (n = x)))) (by omega) (fun k b a => rfl) (fun x _ => Ev.cst rfl)
 refine this.rw ?_
 congr 1
 rw [Bool.eq_iff_iff, List.any_eq_true, decide_eq_true_eq]
 constructor
 ·rintro ⟨x, hx, e⟩
  simp only [decide_eq_true_eq] at e
  rw [e]; exact hx
 ·intro hm
  exact ⟨n, hm, by simp⟩
def turnsB (op : Int) : Bool := decide (op = 1) || (decide (op = 3) || (inB 8 10 op || (decide (op = 14) || decide (op = 15))))
theorem specTurns (k : Nat) (op : Int) : U30.f k op = some (one (turnsB op)) := by
 unfold U30.f turnsB
 simp only [specIn, Option.bind_some]
 cases decide (op = 1) <;> cases decide (op = 3) <;> cases inB 8 10 op <;> cases decide (op = 14) <;> rfl
theorem implTurns (op : Int) : Ev (fun k => U75.f k op [1, 3, 8, 9, 10, 14, 15]) (one (turnsB op)) := by
 unfold U75.f
 refine Ev.bind (implHasK [1, 3, 8, 9, 10, 14, 15] op (by decide)) (Ev.cst ?_)
 have : decide (op ∈ [1, 3, 8, 9, 10, 14, 15]) = turnsB op := by
  rw [Bool.eq_iff_iff]
  simp only [turnsB, inB, Bool.or_eq_true, Bool.and_eq_true, decide_eq_true_eq, List.mem_cons, List.not_mem_nil, or_false]
  omega
 show some (one (decide (op ∈ [1, 3, 8, 9, 10, 14, 15]))) = _
 rw [this]
def swapI (i : tInstD) : tInstD := (i.1, i.2.1, i.2.2.2.1, i.2.2.1, i.2.2.2.2.1, i.2.2.2.2.2.1, i.2.2.2.2.2.2.1, ())
def keyI (i : tInstD) : tInstD := bif turnsB i.1 && decide (i.2.2.2.1 < i.2.2.1) then swapI i else i
theorem Txt.swap {i : tInstD} (h : Txt i) (ht : turnsB i.1 = true) : Txt (swapI i) := by
 have h17 : inB 1 17 i.1 = true := by
  simp only [turnsB, inB, Bool.or_eq_true, Bool.and_eq_true, decide_eq_true_eq] at ht ⊢
  omega
 have e1 : opsB i = [i.2.2.1, i.2.2.2.1] := by unfold opsB; rw [h17]; rfl
 have e2 : opsB (swapI i) = [i.2.2.2.1, i.2.2.1] := by
  have : inB 1 17 (swapI i).1 = true := h17
  unfold opsB; rw [this]; rfl
 refine ⟨h.op1, h.op2, h.w, h.m, h.al, by rw [e2]; simp, fun n hn => h.o n ?_⟩
 rw [e2] at hn
 rw [e1]
 simp only [List.mem_cons, List.not_mem_nil, or_false] at hn ⊢
 exact hn.symm
theorem Txt.key {i : tInstD} (h : Txt i) : Txt (keyI i) := by
 unfold keyI
 cases ht : turnsB i.1 with
 | false => exact h
 | true =>
  cases decide (i.2.2.2.1 < i.2.2.1) with
  | false => exact h
  | true => exact h.swap ht
abbrev KR := (((ByteArray × Unit) × (Bool × Unit) × Unit) × Unit)
abbrev kR (s : ByteArray) (b : Bool) : KR := (((s, ()), (b, ()), ()), ())
section
variable {f : tFuncD}
def instK (f : tFuncD) (id : Int) : tInstD × Bool := if 0 ≤ id ∧ id < cntB f then instP f id else (tInstZ, false)
def instKQ (f : tFuncD) (id : Int) : InstR := (((instK f id).1, ((instK f id).2, ()), ()), ())
theorem placeL_outK : ∀ (l : List tBlockD) (b : Nat) (id : Int), sumB wB l ≤ id → placeL l b id = (-2, 0)
 | [], _, _, _ => rfl
 | x :: l, b, id, h => by
  have hn := sumB_nonneg (w := wB) (l := l) fun y _ => wB_nonneg y
  simp only [sumB] at h
  unfold placeL
  rw [if_neg (by omega)]
  exact placeL_outK l (b + 1) (id - wB x) (by omega)
theorem specPlace_lK {funcs : Int} (hf : Fm funcs f) : ∀ (d i : Nat) (id : Int), i + d = f.2.2.1.length → 0 ≤ id → id ≤ 9223372036854775807 → Ev (fun k => U27.l0 k id i f) (two (placeL (f.2.2.1.drop i) i id)) := by
 intro d
 induction d with
 | zero =>
  intro i id hi h0 h1
  obtain rfl : i = f.2.2.1.length := by omega
  rw [List.drop_length]
  refine Ev.step (g' := fun _ => some (two (-2, 0))) (Ev.cst rfl) fun k => ?_
  show U27.l0_ k (U27.l0 k) id _ f = _
  unfold U27.l0_
  simp only [head_end, cond_false]
 | succ d ih =>
  intro i id hi h0 h1
  have hlt : i < f.2.2.1.length := by omega
  have hb := hf.w60 (List.getElem_mem hlt)
  have hc := wB_nonneg f.2.2.1[i]
  have h10 := hf.b10
  rw [List.drop_eq_getElem_cons hlt]
  refine Ev.succ ?_
  show Ev (fun k => U27.l0_ k (U27.l0 k) id _ f) _
  unfold U27.l0_ placeL
  simp only [head_in hlt, head_0, Bool.and_self, cond_true, get_in hlt, blk_wrap hb, wrap_nat (show i < 9223372036854775807 by omega)]
  by_cases c : id < wB f.2.2.1[i]
  ·rw [if_pos c]
   exact Ev.dp c (Ev.cst rfl)
  ·rw [if_neg c]
   refine Ev.dn c ?_
   rw [wrap_id (x := id - wB f.2.2.1[i]) (by omega) (by omega)]
   exact ih (i + 1) _ (by omega) (by omega) (by omega)
theorem specPlaceK {funcs : Int} (hf : Fm funcs f) {id : Int} (hn : ¬ (0 ≤ id ∧ id < cntB f)) (h2 : id ≤ 9223372036854775807) : Ev (fun k => U27.f k f id) (two (-2, 0)) := by
 have hc := cntB_eq f
 have hnn := sumB_nonneg (w := wB) (l := f.2.2.1) fun y _ => wB_nonneg y
 unfold U27.f
 by_cases h0 : id < 0
 ·exact Ev.dp h0 (Ev.cst rfl)
 ·refine Ev.dn h0 (Ev.dn (by omega) ?_)
  rw [wrap_id (by omega) (by omega)]
  have := specPlace_lK hf f.2.2.1.length 0 (id - (f.1.length : Int)) (by omega) (by omega) (by omega)
  rw [List.drop_zero, placeL_outK _ _ _ (by omega)] at this
  exact this
theorem implPlaceK (hs : Small tFunc f) {id : Int} (hn : ¬ (0 ≤ id ∧ id < cntB f)) : Ev (fun k => U71.f k f id) (two (-2, 0)) := by
 obtain ⟨c0, c1⟩ := cntB_le hs
 unfold U71.f
 refine Ev.bind (a := one false) (Ev.bind (implCount hs) (Ev.bind (Ev.all fun k => implIn k _ _ _) (Ev.cst ?_))) (Ev.pos rfl (Ev.cst rfl))
 rw [show IntKind.wrap .i64 ((one (cntB f)).1.1.1 - 1) = cntB f - 1 from wrap_id (by show -9223372036854775808 ≤ cntB f - 1; omega) (by show cntB f - 1 ≤ _; omega)]
 have e : inB 0 (cntB f - 1) id = false := by
  rw [← Bool.not_eq_true]
  intro h
  have := inB_iff.1 h
  exact hn ⟨this.1, by omega⟩
 rw [e]
theorem specInstK {funcs : Int} (hf : Fm funcs f) {id : Int} (h2 : id ≤ 9223372036854775807) : Ev (fun k => U28.f k f id) (instKQ f id) := by
 unfold instKQ instK
 by_cases hv : 0 ≤ id ∧ id < cntB f
 ·rw [if_pos hv]; exact specInstOf hf hv
 ·rw [if_neg hv]
  unfold U28.f
  exact Ev.bind (specPlaceK hf hv h2) (Ev.dp (show (-2 : Int) < 0 by decide) (Ev.cst rfl))
theorem implInstK {funcs : Int} (hs : Small tFunc f) (hf : Fm funcs f) {id : Int} : Ev (fun k => U72.f k f id) (instKQ f id) := by
 unfold instKQ instK
 by_cases hv : 0 ≤ id ∧ id < cntB f
 ·rw [if_pos hv]; exact implInstOf hs hf hv
 ·rw [if_neg hv]
  unfold U72.f
  exact Ev.bind (implPlaceK hs hv) (Ev.dp (show (-2 : Int) < 0 by decide) (Ev.cst rfl))
theorem instK_txt (hf : Fm 3 f) {id : Int} (h : (instK f id).2 = true) : Txt (instK f id).1 := by
 unfold instK at h ⊢
 by_cases hv : 0 ≤ id ∧ id < cntB f
 ·rw [if_pos hv] at h ⊢
  obtain ⟨x, hx, hi⟩ := instP_in hf hv h
  exact txt_of hf.cnt (hf.ins x hx _ hi)
 ·rw [if_neg hv] at h
  cases h
def keyB (f : tFuncD) (id : Int) : Bool := funcB 3 f && ((instK f id).2 && !decide (23 ≤ (instK f id).1.1))
def keyT (f : tFuncD) (id : Int) : ByteArray := bif keyB f id then textI (keyI (instK f id).1) else ByteArray.empty
theorem specKey (hs : Small tFunc f) {id : Int} (h2 : id ≤ 9223372036854775807) : Ev (fun k => U36.f k f id) (kR (keyT f id) (keyB f id)) := by
 unfold U36.f keyT keyB
 refine Ev.bind (specFunc hs (by omega) (by omega)) ?_
 cases hfb : funcB 3 f with
 | false => exact Ev.pos rfl (Ev.cst rfl)
 | true =>
  have hf : Fm 3 f := Fm.of hfb
  refine Ev.neg rfl (Ev.bind (a := kR (bif (instK f id).2 && !decide (23 ≤ (instK f id).1.1) then textI (keyI (instK f id).1) else ByteArray.empty) ((instK f id).2 && !decide (23 ≤ (instK f id).1.1))) ?_ (Ev.cst rfl))
  unfold U35.f
  refine Ev.bind (specInstK hf h2) ?_
  cases hi : (instK f id).2 with
  | false => exact Ev.pos (by show (!(instK f id).2) = true; rw [hi]; rfl) (Ev.cst rfl)
  | true =>
   have ht := instK_txt hf hi
   have hal : (instK f id).1.2.2.2.2.2.2.1.length ≤ 1048576 := by have := ht.al; omega
   refine Ev.neg (by show (!(instK f id).2) = false; rw [hi]; rfl) ?_
   show Ev (fun k => bif decide (23 ≤ (instK f id).1.1) then _ else _) _
   cases hop : decide (23 ≤ (instK f id).1.1) with
   | true => exact Ev.cst rfl
   | false =>
    refine Ev.bind (a := ((((instK f id).1.1, (instK f id).1.2.1, (instK f id).1.2.2.1, (instK f id).1.2.2.2.1, (instK f id).1.2.2.2.2.1, (instK f id).1.2.2.2.2.2.1, (), ()), ()), ((instK f id).1.2.2.2.2.2.2.1, ()))) (Ev.all fun k => by unfold U29.f; show Option.bind (U20.f k (instK f id).1.2.2.2.2.2.2.1) _ = _; rw [specCopy k hal]; rfl) (Ev.bind (Ev.all fun k => specTurns k _) ?_)
    show Ev (fun k => bif turnsB (instK f id).1.1 then (bif decide ((instK f id).1.2.2.2.1 < (instK f id).1.2.2.1) then _ else _) else _) (kR (textI (keyI (instK f id).1)) true)
    have hk := ht.key
    unfold keyI at hk ⊢
    cases hb : turnsB (instK f id).1.1 with
    | false => exact Ev.bind (specText ht) (Ev.cst rfl)
    | true =>
     cases hlt : decide ((instK f id).1.2.2.2.1 < (instK f id).1.2.2.1) with
     | false => exact Ev.bind (specText ht) (Ev.cst rfl)
     | true => exact Ev.bind (specText (ht.swap hb)) (Ev.cst rfl)
theorem implKTail {i : tInstD} (h : Txt i) : Ev (fun k => Option.bind (U79.f k i) fun r => some (((r.1.1.1, ()), (true, ()), ()), ())) (kR (textI i) true) := Ev.bind (implText h) (Ev.cst rfl)
set_option maxRecDepth 8000 in
theorem implKey (hs : Small tFunc f) {id : Int} : Ev (fun k => U81.f k f id) (kR (keyT f id) (keyB f id)) := by
 unfold U81.f keyT keyB
 refine Ev.bind (a := one (funcB 3 f)) (Ev.bind (implFunc hs (by omega) (by omega)) (Ev.cst rfl)) ?_
 cases hfb : funcB 3 f with
 | false => exact Ev.pos rfl (Ev.cst rfl)
 | true =>
  have hf : Fm 3 f := Fm.of hfb
  refine Ev.neg rfl (Ev.bind (a := kR (bif (instK f id).2 && !decide (23 ≤ (instK f id).1.1) then textI (keyI (instK f id).1) else ByteArray.empty) ((instK f id).2 && !decide (23 ≤ (instK f id).1.1))) ?_ (Ev.cst rfl))
  unfold U80.f
  refine Ev.bind (implInstK hs hf) ?_
  cases hi : (instK f id).2 with
  | false => exact Ev.pos (by show (!(instK f id).2) = true; rw [hi]; rfl) (Ev.cst rfl)
  | true =>
   have ht := instK_txt hf hi
   refine Ev.neg (by show (!(instK f id).2) = false; rw [hi]; rfl) ?_
   show Ev (fun k => bif decide (23 ≤ (instK f id).1.1) then _ else _) _
   cases hop : decide (23 ≤ (instK f id).1.1) with
   | true => exact Ev.cst rfl
   | false =>
    refine Ev.bind (implTurns (instK f id).1.1) ?_
    show Ev (fun k => bif turnsB (instK f id).1.1 then (bif decide ((instK f id).1.2.2.2.1 < (instK f id).1.2.2.1) then _ else _) else _) (kR (textI (keyI (instK f id).1)) true)
    unfold keyI
    cases hb : turnsB (instK f id).1.1 with
    | false => exact implKTail ht
    | true =>
     cases hlt : decide ((instK f id).1.2.2.2.1 < (instK f id).1.2.2.1) with
     | false => exact implKTail ht
     | true => exact implKTail (ht.swap hb)
end
theorem PureFnExactKeyOf : ∀ (a0 : tFuncD) (a1 : Int), Wf tFunc a0 → Wf (.int .i64) a1 → ∃ k, laws_FnExactKeyOf.f k a0 a1 = some (((true, ()), ()), ()) := by
 intro a id hw hwi
 refine Ev.ex (g := fun k => laws_FnExactKeyOf.f k a id) ?_
 unfold laws_FnExactKeyOf.f
 obtain ⟨s, e, _, s2, c⟩ := szFunc a hw 1048576 (by omega) (by omega)
 refine Ev.bind e ?_
 by_cases hs : s < 0
 ·exact Ev.pos (dpos hs) (Ev.cst rfl)
 have h := c (by omega)
 have h2 : id ≤ 9223372036854775807 := by
  have : (Lit.int .i64 id).wf = true := hwi
  simp only [Lit.wf, Bool.and_eq_true, decide_eq_true_eq] at this
  exact this.2
 have hq : (!strEq (keyT a id) (keyT a id)) = false := by simp [strEq]
 have hb : (!(keyB a id == keyB a id)) = false := by simp
 exact Ev.neg (dneg hs) (Ev.bind (toFunc h) (Ev.bind (specKey h h2) (Ev.bind (toFunc h) (Ev.bind (implKey h) (Ev.neg hq (Ev.neg hb (Ev.bind (toFunc h) (Ev.yes (eqFunc h) (Ev.cst rfl)))))))))
theorem gPow : Tryz.prog.globalNamed "internal/strconv.uint64pow10" = some 0 := by kernel_rfl
theorem gPowType : (Tryz.prog.globals[0]?).map (·.type) = some 173 := by kernel_rfl
theorem lpD {W : World} (hm : ∃ m, W.cell? ⟨1, 0, none⟩ = some (.int .i64 m)) (ht : Lib.TabIs Tryz.prog W "internal/strconv.uint64pow10" .u64 Lib.pow10Tab) : LX (gh0 W).F W := by
 obtain ⟨m, hm⟩ := hm
 have h3 : 1 < W.heap.size := World.block_lt_of_cell? W _ hm
 have ht' := ht
 unfold Lib.TabIs World.var? at ht'
 rw [gPow, Option.bind_some] at ht'
 have h2 : 0 < W.heap.size := by
  by_cases h : 0 < W.heap.size
  ·exact h
  ·rw [Array.getElem?_eq_none (by omega)] at ht'; cases ht'
 refine ⟨[(1, W.heap[1]), (0, W.heap[0])], fun w hw => ⟨⟨m, ?_⟩, ?_⟩, ?_⟩
 ·have e := hw (1, W.heap[1]) (by simp)
  have e' : w.heap[1]? = W.heap[1]? := e.trans (Array.getElem?_eq_getElem h3).symm
  rw [← hm]
  unfold World.cell?
  rw [e']
 ·have e := hw (0, W.heap[0]) (by simp)
  have e' : w.heap[0]? = W.heap[0]? := e.trans (Array.getElem?_eq_getElem h2).symm
  unfold Lib.TabIs World.var?
  rw [gPow, Option.bind_some, e']
  exact ht'
 ·intro x hx
  rcases List.mem_cons.1 hx with rfl | hx
  ·exact ⟨h3, Array.getElem?_eq_getElem h3⟩
  ·rw [List.mem_singleton.1 hx]
   exact ⟨h2, Array.getElem?_eq_getElem h2⟩
/-- The table of a row's list, wherever it stands on it. -/
theorem tabD {W : World} {d : DataW Unit} {rest : List (String × DataW Unit)} {ps : List MemPlace} (hd : d = Lib.tabData .u64 Lib.pow10Tab) (h : DataW.LaidVars Tryz.prog W (("internal/strconv.uint64pow10", d) :: rest) ps) : Lib.TabIs Tryz.prog W "internal/strconv.uint64pow10" .u64 Lib.pow10Tab := by
 obtain ⟨g', t', cs, fuel, p, q, hg', ht', hvar, hd', _, _⟩ := h
 obtain rfl := Option.some.inj (gPow.symm.trans hg')
 obtain rfl := Option.some.inj (gPowType.symm.trans ht')
 rw [hd] at hd'
 unfold Lib.TabIs
 rw [hvar, ← Lib.cells_of_tab Tryz.underlying173 (by kernel_rfl) (by kernel_rfl) (by kernel_rfl) hd']
theorem laid_next {W : World} {x : String × DataW Unit} {rest : List (String × DataW Unit)} {ps : List MemPlace} (h : DataW.LaidVars Tryz.prog W (x :: rest) ps) : ∃ q, DataW.LaidVars Tryz.prog W rest q := by
 obtain ⟨_, _, _, _, _, q, _, _, _, _, h, _⟩ := h
 exact ⟨q, h⟩
/-- The cells of a table of numbers, and of a table of rows of numbers. -/
def flat1 : DataW Unit → List Value
 | .lit (.int k z) => [.int k z]
 | _ => []
def flat2 : DataW Unit → List Value
 | .agg l => l.flatMap flat1
 | d => flat1 d
def flat3 : DataW Unit → List Value
 | .agg l => l.flatMap flat2
 | d => flat1 d
def lay1 (h : Array Go.Obj) (g : Nat) (d : DataW Unit) : Array Go.Obj := h.modify g fun
 | .cells _ t fr => .cells (flat3 d).toArray t fr
 | o => o
end
end Go.Proofs.YtebgkcjpocfmmaaGreatDoor.V
