/- PROVED HERE: what the functions that the law FnExactModuleBytes reaches do in memory, each as a plain Lean function, and what these tell: part 4 of 6 of the proof of that law; no condition beyond those written out at each theorem. -/
import Derived.Deep.Slices
import Derived.ProofKit
import Derived.Test.YtkfehogikjcgkaaZFnExactModuleBytes0
import Derived.Test.YtkfehogikjcgkaaZFnExactModuleBytes2
namespace Go.Proofs.Ytkfehogikjcgkaa.V
open Go
set_option linter.unusedVariables false
noncomputable section
/-! ### spec.l6List: function 103 -/
abbrev spec_l6List.R := (((ByteArray × Unit) × Unit) × Unit)
def spec_l6List.l0_ (k : Nat) (l0 : (List Int) → ByteArray → Int → Option spec_l6List.R) (a0 : List Int) (a1 : ByteArray) (a2 : Int) : Option spec_l6List.R := bif decide (a2 < ((List.length a0 : Nat) : Int)) then (bif (decide (0 ≤ a2)) && (decide (a2 < ((List.length a0 : Nat) : Int))) then (Option.bind (spec_VarOf.f k (List.getD a0 (Int.toNat a2) 0)) fun r1 => bif decide (ByteArray.size a1 + ByteArray.size r1.1.1.1 ≤ big) then (l0 a0 (a1 ++ r1.1.1.1) (IntKind.wrap .i64 (a2 + 1))) else none) else none) else (some (((a1, ()), ()), ()))
def spec_l6List.all : Nat → ((List Int) → ByteArray → Int → Option spec_l6List.R) × Unit
  | 0 => (fun _ _ _ => none, ())
  | k + 1 => (spec_l6List.l0_ k (spec_l6List.all k).1, ())
def spec_l6List.l0 (k : Nat) : (List Int) → ByteArray → Int → Option spec_l6List.R := (spec_l6List.all k).1
def spec_l6List.f (k : Nat) (a0 : List Int) : Option spec_l6List.R := Option.bind (spec_VarOf.f k ((List.length a0 : Nat) : Int)) fun r1 => spec_l6List.l0 k a0 r1.1.1.1 0
def spec_l6List.s (k : Nat) : FS := ⟨[⟨false, [.lst (.int .i64)]⟩], [], false, [⟨false, [.str]⟩], [], [], fun x => spec_l6List.f k x.1.1.1⟩
def spec_l6List.E (k : Nat) : Ents := [(⟨102, []⟩, spec_VarOf.s k)]
def spec_l6List.L0 (l : (List Int) → ByteArray → Int → Option spec_l6List.R) : LS spec_l6List.R := ⟨[], [(0, ⟨false, [.lst (.int .i64)]⟩), (3, ⟨false, [.str]⟩), (4, ⟨false, [.int .i64]⟩)], [], fun x => l x.1.1.1 x.1.2.1.1 x.1.2.2.1.1⟩
def spec_l6List.L (l0 : (List Int) → ByteArray → Int → Option spec_l6List.R) : List (LS spec_l6List.R) := [spec_l6List.L0 l0]
def spec_l6List.c : Code := Try.f103.body.getD .skip
theorem spec_l6List.eq (k : Nat) (x) : (spec_l6List.s k).pf x = execF tab (spec_l6List.E k) Try.f103 spec_l6List.c (spec_l6List.s k) (spec_l6List.L (spec_l6List.l0 k)) x := by kernel_rfl
theorem spec_l6List.r0 (l0 : (List Int) → ByteArray → Int → Option spec_l6List.R) (k : Nat) (x) : spec_l6List.l0_ k l0 x.1.1.1 x.1.2.1.1 x.1.2.2.1.1 = roundOf tab (spec_l6List.E k) (spec_l6List.L l0) spec_l6List.c (fin tab Try.f103 (spec_l6List.s k)) 0 (spec_l6List.L0 l0) x := by kernel_rfl
theorem spec_l6List.sound : ∀ k, Sound Try.prog 103 (spec_l6List.s k) := sound_of mixed tab_ok (f := 103) (fn := Try.f103) (c := spec_l6List.c) (by kernel_rfl) (by kernel_rfl) (by kernel_rfl) ⟨[⟨false, [.lst (.int .i64)]⟩], [], false, [⟨false, [.str]⟩], [], []⟩ (by kernel_rfl) (by kernel_rfl) (fun k => (spec_l6List.s k).pf) spec_l6List.E (fun k => (EntsOK.cons (spec_VarOf.sound k) EntsOK.nil)) (fun k => spec_l6List.L (spec_l6List.l0 k)) (fun k => ⟨rfl, trivial⟩) ⟨fun _ => rfl, trivial⟩ (fun k => ⟨⟨(spec_l6List.L0 (spec_l6List.l0 (k + 1))).l, rfl, fun x => spec_l6List.r0 (spec_l6List.l0 k) k x⟩, trivial⟩) spec_l6List.eq
end
end Go.Proofs.Ytkfehogikjcgkaa.V
namespace Go.Proofs.Ytkfehogikjcgkaa.V
open Go
set_option linter.unusedVariables false
noncomputable section
/-! ### spec.l6Inst: function 104 -/
abbrev spec_l6Inst.R := (((ByteArray × Unit) × Unit) × Unit)
def spec_l6Inst.f (k : Nat) (a0 : tInstD) : Option spec_l6Inst.R := Option.bind (spec_VarOf.f k a0.1) fun r1 => Option.bind (spec_VarOf.f k a0.2.1) fun r2 => bif decide (ByteArray.size r1.1.1.1 + ByteArray.size r2.1.1.1 ≤ big) then (bif decide (a0.1 = 21) then (Option.bind (spec_VarOf.f k a0.2.2.2.2.2.1) fun r3 => bif decide (ByteArray.size (r1.1.1.1 ++ r2.1.1.1) + ByteArray.size r3.1.1.1 ≤ big) then (Option.bind (spec_l2Operands.f k a0) fun r4 => Option.bind (spec_l6List.f k r4.2.1) fun r5 => bif decide (ByteArray.size ((r1.1.1.1 ++ r2.1.1.1) ++ r3.1.1.1) + ByteArray.size r5.1.1.1 ≤ big) then (some (((((r1.1.1.1 ++ r2.1.1.1) ++ r3.1.1.1) ++ r5.1.1.1, ()), ()), ())) else none) else none) else (bif decide (a0.1 = 26) then (Option.bind (spec_VarOf.f k a0.2.2.2.2.2.1) fun r6 => bif decide (ByteArray.size (r1.1.1.1 ++ r2.1.1.1) + ByteArray.size r6.1.1.1 ≤ big) then (Option.bind (spec_l2Operands.f k a0) fun r7 => Option.bind (spec_l6List.f k r7.2.1) fun r8 => bif decide (ByteArray.size ((r1.1.1.1 ++ r2.1.1.1) ++ r6.1.1.1) + ByteArray.size r8.1.1.1 ≤ big) then (some (((((r1.1.1.1 ++ r2.1.1.1) ++ r6.1.1.1) ++ r8.1.1.1, ()), ()), ())) else none) else none) else (Option.bind (spec_l2Operands.f k a0) fun r9 => Option.bind (spec_l6List.f k r9.2.1) fun r10 => bif decide (ByteArray.size (r1.1.1.1 ++ r2.1.1.1) + ByteArray.size r10.1.1.1 ≤ big) then (some ((((r1.1.1.1 ++ r2.1.1.1) ++ r10.1.1.1, ()), ()), ())) else none))) else none
def spec_l6Inst.s (k : Nat) : FS := ⟨[⟨true, [.int .i64, .int .i64, .int .i64, .int .i64, .int .i64, .int .i64, .lst (.int .i64)]⟩], [], false, [⟨false, [.str]⟩], [], [], fun x => spec_l6Inst.f k x.1.1⟩
def spec_l6Inst.E (k : Nat) : Ents := [(⟨102, []⟩, spec_VarOf.s k), (⟨115, []⟩, spec_l2Operands.s k), (⟨103, []⟩, spec_l6List.s k)]
def spec_l6Inst.L : List (LS spec_l6Inst.R) := []
def spec_l6Inst.c : Code := Try.f104.body.getD .skip
theorem spec_l6Inst.eq (k : Nat) (x) : (spec_l6Inst.s k).pf x = execF tab (spec_l6Inst.E k) Try.f104 spec_l6Inst.c (spec_l6Inst.s k) spec_l6Inst.L x := by kernel_rfl
theorem spec_l6Inst.sound : ∀ k, Sound Try.prog 104 (spec_l6Inst.s k) := sound_of mixed tab_ok (f := 104) (fn := Try.f104) (c := spec_l6Inst.c) (by kernel_rfl) (by kernel_rfl) (by kernel_rfl) ⟨[⟨true, [.int .i64, .int .i64, .int .i64, .int .i64, .int .i64, .int .i64, .lst (.int .i64)]⟩], [], false, [⟨false, [.str]⟩], [], []⟩ (by kernel_rfl) (by kernel_rfl) (fun k => (spec_l6Inst.s k).pf) spec_l6Inst.E (fun k => (EntsOK.cons (spec_VarOf.sound k) (EntsOK.cons (spec_l2Operands.sound k) (EntsOK.cons (spec_l6List.sound k) EntsOK.nil)))) (fun k => spec_l6Inst.L) (fun k => trivial) trivial (fun k => trivial) spec_l6Inst.eq
end
end Go.Proofs.Ytkfehogikjcgkaa.V
namespace Go.Proofs.Ytkfehogikjcgkaa.V
open Go
set_option linter.unusedVariables false
noncomputable section
/-! ### spec.l6Term: function 105 -/
abbrev spec_l6Term.R := (((ByteArray × Unit) × Unit) × Unit)
def spec_l6Term.f (k : Nat) (a0 : tTermD) : Option spec_l6Term.R := bif decide (a0.1 = 1) then (Option.bind (spec_VarOf.f k a0.1) fun r1 => Option.bind (spec_VarOf.f k a0.2.1) fun r2 => bif decide (ByteArray.size r1.1.1.1 + ByteArray.size r2.1.1.1 ≤ big) then (some (((r1.1.1.1 ++ r2.1.1.1, ()), ()), ())) else none) else (bif decide (a0.1 = 2) then (Option.bind (spec_VarOf.f k a0.1) fun r3 => Option.bind (spec_VarOf.f k a0.2.2.1) fun r4 => bif decide (ByteArray.size r3.1.1.1 + ByteArray.size r4.1.1.1 ≤ big) then (some (((r3.1.1.1 ++ r4.1.1.1, ()), ()), ())) else none) else (bif decide (a0.1 = 3) then (Option.bind (spec_VarOf.f k a0.1) fun r5 => Option.bind (spec_VarOf.f k a0.2.1) fun r6 => bif decide (ByteArray.size r5.1.1.1 + ByteArray.size r6.1.1.1 ≤ big) then (Option.bind (spec_VarOf.f k a0.2.2.1) fun r7 => bif decide (ByteArray.size (r5.1.1.1 ++ r6.1.1.1) + ByteArray.size r7.1.1.1 ≤ big) then (Option.bind (spec_VarOf.f k a0.2.2.2.1) fun r8 => bif decide (ByteArray.size ((r5.1.1.1 ++ r6.1.1.1) ++ r7.1.1.1) + ByteArray.size r8.1.1.1 ≤ big) then (some (((((r5.1.1.1 ++ r6.1.1.1) ++ r7.1.1.1) ++ r8.1.1.1, ()), ()), ())) else none) else none) else none) else (Option.bind (spec_VarOf.f k a0.1) fun r9 => some (((r9.1.1.1, ()), ()), ()))))
def spec_l6Term.s (k : Nat) : FS := ⟨[⟨true, [.int .i64, .int .i64, .int .i64, .int .i64]⟩], [], false, [⟨false, [.str]⟩], [], [], fun x => spec_l6Term.f k x.1.1⟩
def spec_l6Term.E (k : Nat) : Ents := [(⟨102, []⟩, spec_VarOf.s k)]
def spec_l6Term.L : List (LS spec_l6Term.R) := []
def spec_l6Term.c : Code := Try.f105.body.getD .skip
theorem spec_l6Term.eq (k : Nat) (x) : (spec_l6Term.s k).pf x = execF tab (spec_l6Term.E k) Try.f105 spec_l6Term.c (spec_l6Term.s k) spec_l6Term.L x := by kernel_rfl
theorem spec_l6Term.sound : ∀ k, Sound Try.prog 105 (spec_l6Term.s k) := sound_of mixed tab_ok (f := 105) (fn := Try.f105) (c := spec_l6Term.c) (by kernel_rfl) (by kernel_rfl) (by kernel_rfl) ⟨[⟨true, [.int .i64, .int .i64, .int .i64, .int .i64]⟩], [], false, [⟨false, [.str]⟩], [], []⟩ (by kernel_rfl) (by kernel_rfl) (fun k => (spec_l6Term.s k).pf) spec_l6Term.E (fun k => (EntsOK.cons (spec_VarOf.sound k) EntsOK.nil)) (fun k => spec_l6Term.L) (fun k => trivial) trivial (fun k => trivial) spec_l6Term.eq
end
end Go.Proofs.Ytkfehogikjcgkaa.V
namespace Go.Proofs.Ytkfehogikjcgkaa.V
open Go
set_option linter.unusedVariables false
noncomputable section
/-! ### spec.l6Body: function 60 -/
abbrev spec_l6Body.R := (((ByteArray × Unit) × Unit) × Unit)
def spec_l6Body.l0_ (k : Nat) (l0 : ByteArray → Int → (List tFuncD) → Option spec_l6Body.R) (l1 : ByteArray → Int → Int → (List tFuncD) → tFuncD → Option spec_l6Body.R) (l2 : ByteArray → Int → Int → Int → (List tFuncD) → tFuncD → tBlockD → Option spec_l6Body.R) (l3 : ByteArray → Int → Int → Int → (List tFuncD) → tFuncD → tBlockD → Option spec_l6Body.R) (a0 : ByteArray) (a1 : Int) (a2 : List tFuncD) : Option spec_l6Body.R := bif decide (a1 < ((List.length a2 : Nat) : Int)) then (bif (decide (0 ≤ a1)) && (decide (a1 < ((List.length a2 : Nat) : Int))) then (Option.bind (spec_VarOf.f k ((List.getD a2 (Int.toNat a1) tFuncZ).2.1)) fun r1 => bif decide (ByteArray.size a0 + ByteArray.size r1.1.1.1 ≤ big) then (Option.bind (spec_l6List.f k ((List.getD a2 (Int.toNat a1) tFuncZ).1)) fun r2 => bif decide (ByteArray.size (a0 ++ r1.1.1.1) + ByteArray.size r2.1.1.1 ≤ big) then (Option.bind (spec_VarOf.f k ((List.length ((List.getD a2 (Int.toNat a1) tFuncZ).2.2.1) : Nat) : Int)) fun r3 => bif decide (ByteArray.size ((a0 ++ r1.1.1.1) ++ r2.1.1.1) + ByteArray.size r3.1.1.1 ≤ big) then (l1 (((a0 ++ r1.1.1.1) ++ r2.1.1.1) ++ r3.1.1.1) a1 0 a2 (List.getD a2 (Int.toNat a1) tFuncZ)) else none) else none) else none) else none) else (some (((a0, ()), ()), ()))
def spec_l6Body.l1_ (k : Nat) (l0 : ByteArray → Int → (List tFuncD) → Option spec_l6Body.R) (l1 : ByteArray → Int → Int → (List tFuncD) → tFuncD → Option spec_l6Body.R) (l2 : ByteArray → Int → Int → Int → (List tFuncD) → tFuncD → tBlockD → Option spec_l6Body.R) (l3 : ByteArray → Int → Int → Int → (List tFuncD) → tFuncD → tBlockD → Option spec_l6Body.R) (a0 : ByteArray) (a1 : Int) (a2 : Int) (a3 : List tFuncD) (a4 : tFuncD) : Option spec_l6Body.R := bif decide (a2 < ((List.length a4.2.2.1 : Nat) : Int)) then (bif (decide (0 ≤ a2)) && (decide (a2 < ((List.length a4.2.2.1 : Nat) : Int))) then (Option.bind (spec_VarOf.f k ((List.length ((List.getD a4.2.2.1 (Int.toNat a2) tBlockZ).1) : Nat) : Int)) fun r1 => bif decide (ByteArray.size a0 + ByteArray.size r1.1.1.1 ≤ big) then (l2 (a0 ++ r1.1.1.1) a1 a2 0 a3 a4 (List.getD a4.2.2.1 (Int.toNat a2) tBlockZ)) else none) else none) else (l0 a0 (IntKind.wrap .i64 (a1 + 1)) a3)
def spec_l6Body.l2_ (k : Nat) (l0 : ByteArray → Int → (List tFuncD) → Option spec_l6Body.R) (l1 : ByteArray → Int → Int → (List tFuncD) → tFuncD → Option spec_l6Body.R) (l2 : ByteArray → Int → Int → Int → (List tFuncD) → tFuncD → tBlockD → Option spec_l6Body.R) (l3 : ByteArray → Int → Int → Int → (List tFuncD) → tFuncD → tBlockD → Option spec_l6Body.R) (a0 : ByteArray) (a1 : Int) (a2 : Int) (a3 : Int) (a4 : List tFuncD) (a5 : tFuncD) (a6 : tBlockD) : Option spec_l6Body.R := bif decide (a3 < ((List.length a6.1 : Nat) : Int)) then (bif (decide (0 ≤ a3)) && (decide (a3 < ((List.length a6.1 : Nat) : Int))) then (Option.bind (spec_VarOf.f k ((List.getD a6.1 (Int.toNat a3) tPhiZ).1)) fun r1 => bif decide (ByteArray.size a0 + ByteArray.size r1.1.1.1 ≤ big) then (bif (decide (0 ≤ a3)) && (decide (a3 < ((List.length a6.1 : Nat) : Int))) then (Option.bind (spec_l6List.f k ((List.getD a6.1 (Int.toNat a3) tPhiZ).2.1)) fun r2 => bif decide (ByteArray.size (a0 ++ r1.1.1.1) + ByteArray.size r2.1.1.1 ≤ big) then (l2 ((a0 ++ r1.1.1.1) ++ r2.1.1.1) a1 a2 (IntKind.wrap .i64 (a3 + 1)) a4 a5 a6) else none) else none) else none) else none) else (Option.bind (spec_VarOf.f k ((List.length a6.2.1 : Nat) : Int)) fun r3 => bif decide (ByteArray.size a0 + ByteArray.size r3.1.1.1 ≤ big) then (l3 (a0 ++ r3.1.1.1) a1 a2 0 a4 a5 a6) else none)
def spec_l6Body.l3_ (k : Nat) (l0 : ByteArray → Int → (List tFuncD) → Option spec_l6Body.R) (l1 : ByteArray → Int → Int → (List tFuncD) → tFuncD → Option spec_l6Body.R) (l2 : ByteArray → Int → Int → Int → (List tFuncD) → tFuncD → tBlockD → Option spec_l6Body.R) (l3 : ByteArray → Int → Int → Int → (List tFuncD) → tFuncD → tBlockD → Option spec_l6Body.R) (a0 : ByteArray) (a1 : Int) (a2 : Int) (a3 : Int) (a4 : List tFuncD) (a5 : tFuncD) (a6 : tBlockD) : Option spec_l6Body.R := bif decide (a3 < ((List.length a6.2.1 : Nat) : Int)) then (bif (decide (0 ≤ a3)) && (decide (a3 < ((List.length a6.2.1 : Nat) : Int))) then (Option.bind (spec_l6Inst.f k (List.getD a6.2.1 (Int.toNat a3) tInstZ)) fun r1 => bif decide (ByteArray.size a0 + ByteArray.size r1.1.1.1 ≤ big) then (l3 (a0 ++ r1.1.1.1) a1 a2 (IntKind.wrap .i64 (a3 + 1)) a4 a5 a6) else none) else none) else (Option.bind (spec_l6Term.f k a6.2.2) fun r2 => bif decide (ByteArray.size a0 + ByteArray.size r2.1.1.1 ≤ big) then (l1 (a0 ++ r2.1.1.1) a1 (IntKind.wrap .i64 (a2 + 1)) a4 a5) else none)
def spec_l6Body.all : Nat → (ByteArray → Int → (List tFuncD) → Option spec_l6Body.R) × (ByteArray → Int → Int → (List tFuncD) → tFuncD → Option spec_l6Body.R) × (ByteArray → Int → Int → Int → (List tFuncD) → tFuncD → tBlockD → Option spec_l6Body.R) × (ByteArray → Int → Int → Int → (List tFuncD) → tFuncD → tBlockD → Option spec_l6Body.R) × Unit
  | 0 => (fun _ _ _ => none, fun _ _ _ _ _ => none, fun _ _ _ _ _ _ _ => none, fun _ _ _ _ _ _ _ => none, ())
  | k + 1 => (spec_l6Body.l0_ k (spec_l6Body.all k).1 (spec_l6Body.all k).2.1 (spec_l6Body.all k).2.2.1 (spec_l6Body.all k).2.2.2.1, spec_l6Body.l1_ k (spec_l6Body.all k).1 (spec_l6Body.all k).2.1 (spec_l6Body.all k).2.2.1 (spec_l6Body.all k).2.2.2.1, spec_l6Body.l2_ k (spec_l6Body.all k).1 (spec_l6Body.all k).2.1 (spec_l6Body.all k).2.2.1 (spec_l6Body.all k).2.2.2.1, spec_l6Body.l3_ k (spec_l6Body.all k).1 (spec_l6Body.all k).2.1 (spec_l6Body.all k).2.2.1 (spec_l6Body.all k).2.2.2.1, ())
def spec_l6Body.l0 (k : Nat) : ByteArray → Int → (List tFuncD) → Option spec_l6Body.R := (spec_l6Body.all k).1
def spec_l6Body.l1 (k : Nat) : ByteArray → Int → Int → (List tFuncD) → tFuncD → Option spec_l6Body.R := (spec_l6Body.all k).2.1
def spec_l6Body.l2 (k : Nat) : ByteArray → Int → Int → Int → (List tFuncD) → tFuncD → tBlockD → Option spec_l6Body.R := (spec_l6Body.all k).2.2.1
def spec_l6Body.l3 (k : Nat) : ByteArray → Int → Int → Int → (List tFuncD) → tFuncD → tBlockD → Option spec_l6Body.R := (spec_l6Body.all k).2.2.2.1
def spec_l6Body.f (k : Nat) (a0 : tModuleD) : Option spec_l6Body.R := Option.bind (spec_VarOf.f k ((List.length a0.1 : Nat) : Int)) fun r1 => bif decide (ByteArray.size (ByteArray.mk #[83, 83, 65, 49]) + ByteArray.size r1.1.1.1 ≤ big) then (spec_l6Body.l0 k ((ByteArray.mk #[83, 83, 65, 49]) ++ r1.1.1.1) 0 a0.1) else none
def spec_l6Body.s (k : Nat) : FS := ⟨[⟨true, [.lst tFunc]⟩], [], false, [⟨false, [.str]⟩], [], [], fun x => spec_l6Body.f k x.1.1⟩
def spec_l6Body.E (k : Nat) : Ents := [(⟨102, []⟩, spec_VarOf.s k), (⟨103, []⟩, spec_l6List.s k), (⟨104, []⟩, spec_l6Inst.s k), (⟨105, []⟩, spec_l6Term.s k)]
def spec_l6Body.L0 (l : ByteArray → Int → (List tFuncD) → Option spec_l6Body.R) : LS spec_l6Body.R := ⟨[], [(1, ⟨false, [.ptr 100000 0]⟩), (3, ⟨false, [.str]⟩), (4, ⟨false, [.int .i64]⟩)], [(100000, .box [.lst tFunc])], fun x => l x.1.2.1.1 x.1.2.2.1.1 x.2.1.1⟩
def spec_l6Body.L1 (l : ByteArray → Int → Int → (List tFuncD) → tFuncD → Option spec_l6Body.R) : LS spec_l6Body.R := ⟨[], [(1, ⟨false, [.ptr 100000 0]⟩), (3, ⟨false, [.str]⟩), (4, ⟨false, [.int .i64]⟩), (5, ⟨false, [.ptr 100001 0]⟩), (6, ⟨false, [.int .i64]⟩)], [(100000, .box [.lst tFunc]), (100001, .box [.lst (.int .i64), .int .i64, .lst tBlock])], fun x => l x.1.2.1.1 x.1.2.2.1.1 x.1.2.2.2.2.1.1 x.2.1.1 x.2.2.1⟩
def spec_l6Body.L2 (l : ByteArray → Int → Int → Int → (List tFuncD) → tFuncD → tBlockD → Option spec_l6Body.R) : LS spec_l6Body.R := ⟨[], [(1, ⟨false, [.ptr 100000 0]⟩), (3, ⟨false, [.str]⟩), (4, ⟨false, [.int .i64]⟩), (5, ⟨false, [.ptr 100001 0]⟩), (6, ⟨false, [.int .i64]⟩), (7, ⟨false, [.ptr 100002 0]⟩), (8, ⟨false, [.int .i64]⟩)], [(100000, .box [.lst tFunc]), (100001, .box [.lst (.int .i64), .int .i64, .lst tBlock]), (100002, .box [.lst tPhi, .lst tInst, .int .i64, .int .i64, .int .i64, .int .i64])], fun x => l x.1.2.1.1 x.1.2.2.1.1 x.1.2.2.2.2.1.1 x.1.2.2.2.2.2.2.1.1 x.2.1.1 x.2.2.1 x.2.2.2.1⟩
def spec_l6Body.L3 (l : ByteArray → Int → Int → Int → (List tFuncD) → tFuncD → tBlockD → Option spec_l6Body.R) : LS spec_l6Body.R := ⟨[], [(1, ⟨false, [.ptr 100000 0]⟩), (3, ⟨false, [.str]⟩), (4, ⟨false, [.int .i64]⟩), (5, ⟨false, [.ptr 100001 0]⟩), (6, ⟨false, [.int .i64]⟩), (7, ⟨false, [.ptr 100002 0]⟩), (9, ⟨false, [.int .i64]⟩)], [(100000, .box [.lst tFunc]), (100001, .box [.lst (.int .i64), .int .i64, .lst tBlock]), (100002, .box [.lst tPhi, .lst tInst, .int .i64, .int .i64, .int .i64, .int .i64])], fun x => l x.1.2.1.1 x.1.2.2.1.1 x.1.2.2.2.2.1.1 x.1.2.2.2.2.2.2.1.1 x.2.1.1 x.2.2.1 x.2.2.2.1⟩
def spec_l6Body.L (l0 : ByteArray → Int → (List tFuncD) → Option spec_l6Body.R) (l1 : ByteArray → Int → Int → (List tFuncD) → tFuncD → Option spec_l6Body.R) (l2 : ByteArray → Int → Int → Int → (List tFuncD) → tFuncD → tBlockD → Option spec_l6Body.R) (l3 : ByteArray → Int → Int → Int → (List tFuncD) → tFuncD → tBlockD → Option spec_l6Body.R) : List (LS spec_l6Body.R) := [spec_l6Body.L0 l0, spec_l6Body.L1 l1, spec_l6Body.L2 l2, spec_l6Body.L3 l3]
def spec_l6Body.c : Code := Try.f60.body.getD .skip
theorem spec_l6Body.eq (k : Nat) (x) : (spec_l6Body.s k).pf x = execF tab (spec_l6Body.E k) Try.f60 spec_l6Body.c (spec_l6Body.s k) (spec_l6Body.L (spec_l6Body.l0 k) (spec_l6Body.l1 k) (spec_l6Body.l2 k) (spec_l6Body.l3 k)) x := by kernel_rfl
theorem spec_l6Body.r0 (l0 : ByteArray → Int → (List tFuncD) → Option spec_l6Body.R) (l1 : ByteArray → Int → Int → (List tFuncD) → tFuncD → Option spec_l6Body.R) (l2 : ByteArray → Int → Int → Int → (List tFuncD) → tFuncD → tBlockD → Option spec_l6Body.R) (l3 : ByteArray → Int → Int → Int → (List tFuncD) → tFuncD → tBlockD → Option spec_l6Body.R) (k : Nat) (x) : spec_l6Body.l0_ k l0 l1 l2 l3 x.1.2.1.1 x.1.2.2.1.1 x.2.1.1 = roundOf tab (spec_l6Body.E k) (spec_l6Body.L l0 l1 l2 l3) spec_l6Body.c (fin tab Try.f60 (spec_l6Body.s k)) 0 (spec_l6Body.L0 l0) x := by kernel_rfl
theorem spec_l6Body.r1 (l0 : ByteArray → Int → (List tFuncD) → Option spec_l6Body.R) (l1 : ByteArray → Int → Int → (List tFuncD) → tFuncD → Option spec_l6Body.R) (l2 : ByteArray → Int → Int → Int → (List tFuncD) → tFuncD → tBlockD → Option spec_l6Body.R) (l3 : ByteArray → Int → Int → Int → (List tFuncD) → tFuncD → tBlockD → Option spec_l6Body.R) (k : Nat) (x) : spec_l6Body.l1_ k l0 l1 l2 l3 x.1.2.1.1 x.1.2.2.1.1 x.1.2.2.2.2.1.1 x.2.1.1 x.2.2.1 = roundOf tab (spec_l6Body.E k) (spec_l6Body.L l0 l1 l2 l3) spec_l6Body.c (fin tab Try.f60 (spec_l6Body.s k)) 1 (spec_l6Body.L1 l1) x := by kernel_rfl
theorem spec_l6Body.r2 (l0 : ByteArray → Int → (List tFuncD) → Option spec_l6Body.R) (l1 : ByteArray → Int → Int → (List tFuncD) → tFuncD → Option spec_l6Body.R) (l2 : ByteArray → Int → Int → Int → (List tFuncD) → tFuncD → tBlockD → Option spec_l6Body.R) (l3 : ByteArray → Int → Int → Int → (List tFuncD) → tFuncD → tBlockD → Option spec_l6Body.R) (k : Nat) (x) : spec_l6Body.l2_ k l0 l1 l2 l3 x.1.2.1.1 x.1.2.2.1.1 x.1.2.2.2.2.1.1 x.1.2.2.2.2.2.2.1.1 x.2.1.1 x.2.2.1 x.2.2.2.1 = roundOf tab (spec_l6Body.E k) (spec_l6Body.L l0 l1 l2 l3) spec_l6Body.c (fin tab Try.f60 (spec_l6Body.s k)) 2 (spec_l6Body.L2 l2) x := by kernel_rfl
theorem spec_l6Body.r3 (l0 : ByteArray → Int → (List tFuncD) → Option spec_l6Body.R) (l1 : ByteArray → Int → Int → (List tFuncD) → tFuncD → Option spec_l6Body.R) (l2 : ByteArray → Int → Int → Int → (List tFuncD) → tFuncD → tBlockD → Option spec_l6Body.R) (l3 : ByteArray → Int → Int → Int → (List tFuncD) → tFuncD → tBlockD → Option spec_l6Body.R) (k : Nat) (x) : spec_l6Body.l3_ k l0 l1 l2 l3 x.1.2.1.1 x.1.2.2.1.1 x.1.2.2.2.2.1.1 x.1.2.2.2.2.2.2.1.1 x.2.1.1 x.2.2.1 x.2.2.2.1 = roundOf tab (spec_l6Body.E k) (spec_l6Body.L l0 l1 l2 l3) spec_l6Body.c (fin tab Try.f60 (spec_l6Body.s k)) 3 (spec_l6Body.L3 l3) x := by kernel_rfl
theorem spec_l6Body.sound : ∀ k, Sound Try.prog 60 (spec_l6Body.s k) := sound_of mixed tab_ok (f := 60) (fn := Try.f60) (c := spec_l6Body.c) (by kernel_rfl) (by kernel_rfl) (by kernel_rfl) ⟨[⟨true, [.lst tFunc]⟩], [], false, [⟨false, [.str]⟩], [], []⟩ (by kernel_rfl) (by kernel_rfl) (fun k => (spec_l6Body.s k).pf) spec_l6Body.E (fun k => (EntsOK.cons (spec_VarOf.sound k) (EntsOK.cons (spec_l6List.sound k) (EntsOK.cons (spec_l6Inst.sound k) (EntsOK.cons (spec_l6Term.sound k) EntsOK.nil))))) (fun k => spec_l6Body.L (spec_l6Body.l0 k) (spec_l6Body.l1 k) (spec_l6Body.l2 k) (spec_l6Body.l3 k)) (fun k => ⟨rfl, rfl, rfl, rfl, trivial⟩) ⟨fun _ => rfl, fun _ => rfl, fun _ => rfl, fun _ => rfl, trivial⟩ (fun k => ⟨⟨(spec_l6Body.L0 (spec_l6Body.l0 (k + 1))).l, rfl, fun x => spec_l6Body.r0 (spec_l6Body.l0 k) (spec_l6Body.l1 k) (spec_l6Body.l2 k) (spec_l6Body.l3 k) k x⟩, ⟨(spec_l6Body.L1 (spec_l6Body.l1 (k + 1))).l, rfl, fun x => spec_l6Body.r1 (spec_l6Body.l0 k) (spec_l6Body.l1 k) (spec_l6Body.l2 k) (spec_l6Body.l3 k) k x⟩, ⟨(spec_l6Body.L2 (spec_l6Body.l2 (k + 1))).l, rfl, fun x => spec_l6Body.r2 (spec_l6Body.l0 k) (spec_l6Body.l1 k) (spec_l6Body.l2 k) (spec_l6Body.l3 k) k x⟩, ⟨(spec_l6Body.L3 (spec_l6Body.l3 (k + 1))).l, rfl, fun x => spec_l6Body.r3 (spec_l6Body.l0 k) (spec_l6Body.l1 k) (spec_l6Body.l2 k) (spec_l6Body.l3 k) k x⟩, trivial⟩) spec_l6Body.eq
end
end Go.Proofs.Ytkfehogikjcgkaa.V
namespace Go.Proofs.Ytkfehogikjcgkaa.V
open Go
set_option linter.unusedVariables false
noncomputable section
/-! ### spec.Crc: function 106 -/
abbrev spec_Crc.R := (((Int × Unit) × Unit) × Unit)
def spec_Crc.l0_ (k : Nat) (l0 : ByteArray → Int → Int → Option spec_Crc.R) (l1 : ByteArray → Int → Int → Int → Option spec_Crc.R) (a0 : ByteArray) (a1 : Int) (a2 : Int) : Option spec_Crc.R := bif decide (a2 < ((ByteArray.size a0 : Nat) : Int)) then (bif (decide (0 ≤ a2)) && (decide (a2 < ((ByteArray.size a0 : Nat) : Int))) then (l1 a0 (bxor .u32 a1 (IntKind.wrap .u32 (byteAt a0 (Int.toNat a2)))) a2 0) else none) else (some (((IntKind.wrap .i64 (bxor .u32 a1 4294967295), ()), ()), ()))
def spec_Crc.l1_ (k : Nat) (l0 : ByteArray → Int → Int → Option spec_Crc.R) (l1 : ByteArray → Int → Int → Int → Option spec_Crc.R) (a0 : ByteArray) (a1 : Int) (a2 : Int) (a3 : Int) : Option spec_Crc.R := bif decide (a3 < 8) then (bif decide (band .u32 a1 1 = 1) then (bif decide (0 ≤ 1) then (l1 a0 (bxor .u32 (V.shr .u32 a1 1) 3988292384) a2 (IntKind.wrap .i64 (a3 + 1))) else none) else (bif decide (0 ≤ 1) then (l1 a0 (V.shr .u32 a1 1) a2 (IntKind.wrap .i64 (a3 + 1))) else none)) else (l0 a0 a1 (IntKind.wrap .i64 (a2 + 1)))
def spec_Crc.all : Nat → (ByteArray → Int → Int → Option spec_Crc.R) × (ByteArray → Int → Int → Int → Option spec_Crc.R) × Unit
  | 0 => (fun _ _ _ => none, fun _ _ _ _ => none, ())
  | k + 1 => (spec_Crc.l0_ k (spec_Crc.all k).1 (spec_Crc.all k).2.1, spec_Crc.l1_ k (spec_Crc.all k).1 (spec_Crc.all k).2.1, ())
def spec_Crc.l0 (k : Nat) : ByteArray → Int → Int → Option spec_Crc.R := (spec_Crc.all k).1
def spec_Crc.l1 (k : Nat) : ByteArray → Int → Int → Int → Option spec_Crc.R := (spec_Crc.all k).2.1
def spec_Crc.f (k : Nat) (a0 : ByteArray) : Option spec_Crc.R := spec_Crc.l0 k a0 4294967295 0
def spec_Crc.s (k : Nat) : FS := ⟨[⟨false, [.str]⟩], [], false, [⟨false, [.int .i64]⟩], [], [], fun x => spec_Crc.f k x.1.1.1⟩
def spec_Crc.E (k : Nat) : Ents := []
def spec_Crc.L0 (l : ByteArray → Int → Int → Option spec_Crc.R) : LS spec_Crc.R := ⟨[], [(0, ⟨false, [.str]⟩), (3, ⟨false, [.int .u32]⟩), (4, ⟨false, [.int .i64]⟩)], [], fun x => l x.1.1.1 x.1.2.1.1 x.1.2.2.1.1⟩
def spec_Crc.L1 (l : ByteArray → Int → Int → Int → Option spec_Crc.R) : LS spec_Crc.R := ⟨[], [(0, ⟨false, [.str]⟩), (3, ⟨false, [.int .u32]⟩), (4, ⟨false, [.int .i64]⟩), (5, ⟨false, [.int .i64]⟩)], [], fun x => l x.1.1.1 x.1.2.1.1 x.1.2.2.1.1 x.1.2.2.2.1.1⟩
def spec_Crc.L (l0 : ByteArray → Int → Int → Option spec_Crc.R) (l1 : ByteArray → Int → Int → Int → Option spec_Crc.R) : List (LS spec_Crc.R) := [spec_Crc.L0 l0, spec_Crc.L1 l1]
def spec_Crc.c : Code := Try.f106.body.getD .skip
theorem spec_Crc.eq (k : Nat) (x) : (spec_Crc.s k).pf x = execF tab (spec_Crc.E k) Try.f106 spec_Crc.c (spec_Crc.s k) (spec_Crc.L (spec_Crc.l0 k) (spec_Crc.l1 k)) x := by kernel_rfl
theorem spec_Crc.r0 (l0 : ByteArray → Int → Int → Option spec_Crc.R) (l1 : ByteArray → Int → Int → Int → Option spec_Crc.R) (k : Nat) (x) : spec_Crc.l0_ k l0 l1 x.1.1.1 x.1.2.1.1 x.1.2.2.1.1 = roundOf tab (spec_Crc.E k) (spec_Crc.L l0 l1) spec_Crc.c (fin tab Try.f106 (spec_Crc.s k)) 0 (spec_Crc.L0 l0) x := by kernel_rfl
theorem spec_Crc.r1 (l0 : ByteArray → Int → Int → Option spec_Crc.R) (l1 : ByteArray → Int → Int → Int → Option spec_Crc.R) (k : Nat) (x) : spec_Crc.l1_ k l0 l1 x.1.1.1 x.1.2.1.1 x.1.2.2.1.1 x.1.2.2.2.1.1 = roundOf tab (spec_Crc.E k) (spec_Crc.L l0 l1) spec_Crc.c (fin tab Try.f106 (spec_Crc.s k)) 1 (spec_Crc.L1 l1) x := by kernel_rfl
theorem spec_Crc.sound : ∀ k, Sound Try.prog 106 (spec_Crc.s k) := sound_of mixed tab_ok (f := 106) (fn := Try.f106) (c := spec_Crc.c) (by kernel_rfl) (by kernel_rfl) (by kernel_rfl) ⟨[⟨false, [.str]⟩], [], false, [⟨false, [.int .i64]⟩], [], []⟩ (by kernel_rfl) (by kernel_rfl) (fun k => (spec_Crc.s k).pf) spec_Crc.E (fun k => EntsOK.nil) (fun k => spec_Crc.L (spec_Crc.l0 k) (spec_Crc.l1 k)) (fun k => ⟨rfl, rfl, trivial⟩) ⟨fun _ => rfl, fun _ => rfl, trivial⟩ (fun k => ⟨⟨(spec_Crc.L0 (spec_Crc.l0 (k + 1))).l, rfl, fun x => spec_Crc.r0 (spec_Crc.l0 k) (spec_Crc.l1 k) k x⟩, ⟨(spec_Crc.L1 (spec_Crc.l1 (k + 1))).l, rfl, fun x => spec_Crc.r1 (spec_Crc.l0 k) (spec_Crc.l1 k) k x⟩, trivial⟩) spec_Crc.eq
end
end Go.Proofs.Ytkfehogikjcgkaa.V
namespace Go.Proofs.Ytkfehogikjcgkaa.V
open Go
set_option linter.unusedVariables false
noncomputable section
/-! ### spec.l6Sum: function 61 -/
abbrev spec_l6Sum.R := (((ByteArray × Unit) × Unit) × Unit)
def spec_l6Sum.f (k : Nat) (a0 : ByteArray) : Option spec_l6Sum.R := Option.bind (spec_Crc.f k a0) fun r1 => bif decide (0 ≤ 24) then (bif decide (0 ≤ 16) then (bif decide (0 ≤ 8) then (some (((strOf [IntKind.wrap .u8 (V.shr .i64 r1.1.1.1 24), IntKind.wrap .u8 (V.shr .i64 r1.1.1.1 16), IntKind.wrap .u8 (V.shr .i64 r1.1.1.1 8), IntKind.wrap .u8 r1.1.1.1], ()), ()), ())) else none) else none) else none
def spec_l6Sum.s (k : Nat) : FS := ⟨[⟨false, [.str]⟩], [], false, [⟨false, [.str]⟩], [], [], fun x => spec_l6Sum.f k x.1.1.1⟩
def spec_l6Sum.E (k : Nat) : Ents := [(⟨106, []⟩, spec_Crc.s k)]
def spec_l6Sum.L : List (LS spec_l6Sum.R) := []
def spec_l6Sum.c : Code := Try.f61.body.getD .skip
theorem spec_l6Sum.eq (k : Nat) (x) : (spec_l6Sum.s k).pf x = execF tab (spec_l6Sum.E k) Try.f61 spec_l6Sum.c (spec_l6Sum.s k) spec_l6Sum.L x := by kernel_rfl
theorem spec_l6Sum.sound : ∀ k, Sound Try.prog 61 (spec_l6Sum.s k) := sound_of mixed tab_ok (f := 61) (fn := Try.f61) (c := spec_l6Sum.c) (by kernel_rfl) (by kernel_rfl) (by kernel_rfl) ⟨[⟨false, [.str]⟩], [], false, [⟨false, [.str]⟩], [], []⟩ (by kernel_rfl) (by kernel_rfl) (fun k => (spec_l6Sum.s k).pf) spec_l6Sum.E (fun k => (EntsOK.cons (spec_Crc.sound k) EntsOK.nil)) (fun k => spec_l6Sum.L) (fun k => trivial) trivial (fun k => trivial) spec_l6Sum.eq
end
end Go.Proofs.Ytkfehogikjcgkaa.V
namespace Go.Proofs.Ytkfehogikjcgkaa.V
open Go
set_option linter.unusedVariables false
noncomputable section
/-! ### spec.ModuleBytes: function 28 -/
abbrev spec_ModuleBytes.R := (((ByteArray × Unit) × Unit) × Unit)
def spec_ModuleBytes.f (k : Nat) (a0 : tModuleD) : Option spec_ModuleBytes.R := Option.bind (spec_ShapeOk.f k (a0.1, ())) fun r1 => bif !r1.1.1.1 then (some (((ByteArray.empty, ()), ()), ())) else (Option.bind (spec_l6Body.f k (a0.1, ())) fun r2 => Option.bind (spec_l6Sum.f k r2.1.1.1) fun r3 => bif decide (ByteArray.size r2.1.1.1 + ByteArray.size r3.1.1.1 ≤ big) then (some (((r2.1.1.1 ++ r3.1.1.1, ()), ()), ())) else none)
def spec_ModuleBytes.s (k : Nat) : FS := ⟨[⟨true, [.lst tFunc]⟩], [], false, [⟨false, [.str]⟩], [], [], fun x => spec_ModuleBytes.f k x.1.1⟩
def spec_ModuleBytes.E (k : Nat) : Ents := [(⟨24, []⟩, spec_ShapeOk.s k), (⟨60, []⟩, spec_l6Body.s k), (⟨61, []⟩, spec_l6Sum.s k)]
def spec_ModuleBytes.L : List (LS spec_ModuleBytes.R) := []
def spec_ModuleBytes.c : Code := Try.f28.body.getD .skip
theorem spec_ModuleBytes.eq (k : Nat) (x) : (spec_ModuleBytes.s k).pf x = execF tab (spec_ModuleBytes.E k) Try.f28 spec_ModuleBytes.c (spec_ModuleBytes.s k) spec_ModuleBytes.L x := by kernel_rfl
theorem spec_ModuleBytes.sound : ∀ k, Sound Try.prog 28 (spec_ModuleBytes.s k) := sound_of mixed tab_ok (f := 28) (fn := Try.f28) (c := spec_ModuleBytes.c) (by kernel_rfl) (by kernel_rfl) (by kernel_rfl) ⟨[⟨true, [.lst tFunc]⟩], [], false, [⟨false, [.str]⟩], [], []⟩ (by kernel_rfl) (by kernel_rfl) (fun k => (spec_ModuleBytes.s k).pf) spec_ModuleBytes.E (fun k => (EntsOK.cons (spec_ShapeOk.sound k) (EntsOK.cons (spec_l6Body.sound k) (EntsOK.cons (spec_l6Sum.sound k) EntsOK.nil)))) (fun k => spec_ModuleBytes.L) (fun k => trivial) trivial (fun k => trivial) spec_ModuleBytes.eq
end
end Go.Proofs.Ytkfehogikjcgkaa.V
namespace Go.Proofs.Ytkfehogikjcgkaa.V
open Go
set_option linter.unusedVariables false
noncomputable section
/-! ### impl.within: function 55 -/
abbrev impl_within.R := (((Bool × Unit) × Unit) × Unit)
def impl_within.f (k : Nat) (a0 : Int) (a1 : Int) (a2 : Int) : Option impl_within.R := bif decide (a1 ≤ a0) then (some (((decide (a0 ≤ a2), ()), ()), ())) else (some (((false, ()), ()), ()))
def impl_within.s (k : Nat) : FS := ⟨[⟨false, [.int .i64]⟩, ⟨false, [.int .i64]⟩, ⟨false, [.int .i64]⟩], [], false, [⟨false, [.bool]⟩], [], [], fun x => impl_within.f k x.1.1.1 x.1.2.1.1 x.1.2.2.1.1⟩
def impl_within.E (k : Nat) : Ents := []
def impl_within.L : List (LS impl_within.R) := []
def impl_within.c : Code := Try.f55.body.getD .skip
theorem impl_within.eq (k : Nat) (x) : (impl_within.s k).pf x = execF tab (impl_within.E k) Try.f55 impl_within.c (impl_within.s k) impl_within.L x := by kernel_rfl
theorem impl_within.sound : ∀ k, Sound Try.prog 55 (impl_within.s k) := sound_of mixed tab_ok (f := 55) (fn := Try.f55) (c := impl_within.c) (by kernel_rfl) (by kernel_rfl) (by kernel_rfl) ⟨[⟨false, [.int .i64]⟩, ⟨false, [.int .i64]⟩, ⟨false, [.int .i64]⟩], [], false, [⟨false, [.bool]⟩], [], []⟩ (by kernel_rfl) (by kernel_rfl) (fun k => (impl_within.s k).pf) impl_within.E (fun k => EntsOK.nil) (fun k => impl_within.L) (fun k => trivial) trivial (fun k => trivial) impl_within.eq
end
end Go.Proofs.Ytkfehogikjcgkaa.V
namespace Go.Proofs.Ytkfehogikjcgkaa.V
open Go
set_option linter.unusedVariables false
noncomputable section
/-! ### impl.WidthOk: function 93 -/
abbrev impl_WidthOk.R := (((Bool × Unit) × Unit) × Unit)
def impl_WidthOk.f (k : Nat) (a0 : Int) : Option impl_WidthOk.R := bif decide (a0 = 1) then (some (((true, ()), ()), ())) else (bif decide (a0 = 8) then (some (((true, ()), ()), ())) else (bif decide (a0 = 16) then (some (((true, ()), ()), ())) else (some (((decide (a0 = 32), ()), ()), ()))))
def impl_WidthOk.s (k : Nat) : FS := ⟨[⟨false, [.int .i64]⟩], [], false, [⟨false, [.bool]⟩], [], [], fun x => impl_WidthOk.f k x.1.1.1⟩
def impl_WidthOk.E (k : Nat) : Ents := []
def impl_WidthOk.L : List (LS impl_WidthOk.R) := []
def impl_WidthOk.c : Code := Try.f93.body.getD .skip
theorem impl_WidthOk.eq (k : Nat) (x) : (impl_WidthOk.s k).pf x = execF tab (impl_WidthOk.E k) Try.f93 impl_WidthOk.c (impl_WidthOk.s k) impl_WidthOk.L x := by kernel_rfl
theorem impl_WidthOk.sound : ∀ k, Sound Try.prog 93 (impl_WidthOk.s k) := sound_of mixed tab_ok (f := 93) (fn := Try.f93) (c := impl_WidthOk.c) (by kernel_rfl) (by kernel_rfl) (by kernel_rfl) ⟨[⟨false, [.int .i64]⟩], [], false, [⟨false, [.bool]⟩], [], []⟩ (by kernel_rfl) (by kernel_rfl) (fun k => (impl_WidthOk.s k).pf) impl_WidthOk.E (fun k => EntsOK.nil) (fun k => impl_WidthOk.L) (fun k => trivial) trivial (fun k => trivial) impl_WidthOk.eq
end
end Go.Proofs.Ytkfehogikjcgkaa.V
namespace Go.Proofs.Ytkfehogikjcgkaa.V
open Go
set_option linter.unusedVariables false
noncomputable section
/-! ### impl.isFunc$1: function 94 -/
abbrev impl_isFunc_1.R := (((Bool × Unit) × Unit) × Unit)
def impl_isFunc_1.f (k : Nat) (a0 : Int) : Option impl_isFunc_1.R := Option.bind (impl_WidthOk.f k a0) fun r1 => some (((!r1.1.1.1, ()), ()), ())
def impl_isFunc_1.s (k : Nat) : FS := ⟨[⟨false, [.int .i64]⟩], [], false, [⟨false, [.bool]⟩], [], [], fun x => impl_isFunc_1.f k x.1.1.1⟩
def impl_isFunc_1.E (k : Nat) : Ents := [(⟨93, []⟩, impl_WidthOk.s k)]
def impl_isFunc_1.L : List (LS impl_isFunc_1.R) := []
def impl_isFunc_1.c : Code := Try.f94.body.getD .skip
theorem impl_isFunc_1.eq (k : Nat) (x) : (impl_isFunc_1.s k).pf x = execF tab (impl_isFunc_1.E k) Try.f94 impl_isFunc_1.c (impl_isFunc_1.s k) impl_isFunc_1.L x := by kernel_rfl
theorem impl_isFunc_1.sound : ∀ k, Sound Try.prog 94 (impl_isFunc_1.s k) := sound_of mixed tab_ok (f := 94) (fn := Try.f94) (c := impl_isFunc_1.c) (by kernel_rfl) (by kernel_rfl) (by kernel_rfl) ⟨[⟨false, [.int .i64]⟩], [], false, [⟨false, [.bool]⟩], [], []⟩ (by kernel_rfl) (by kernel_rfl) (fun k => (impl_isFunc_1.s k).pf) impl_isFunc_1.E (fun k => (EntsOK.cons (impl_WidthOk.sound k) EntsOK.nil)) (fun k => impl_isFunc_1.L) (fun k => trivial) trivial (fun k => trivial) impl_isFunc_1.eq
end
end Go.Proofs.Ytkfehogikjcgkaa.V
namespace Go.Proofs.Ytkfehogikjcgkaa.V
open Go
set_option linter.unusedVariables false
noncomputable section
/-! ### slices.IndexFunc[[]int64,int64]: function 123 -/
abbrev slices_IndexFunc_int64_int64.R := (((Int × Unit) × Unit) × Unit)
def slices_IndexFunc_int64_int64.l0_ (k : Nat) (l0 : (List Int) → Int → Int → Option slices_IndexFunc_int64_int64.R) (a0 : List Int) (a1 : Int) (a2 : Int) : Option slices_IndexFunc_int64_int64.R := bif decide (a2 < a1) then (bif (decide (0 ≤ a2)) && (decide (a2 < ((List.length a0 : Nat) : Int))) then (Option.bind (impl_isFunc_1.f k (List.getD a0 (Int.toNat a2) 0)) fun r1 => bif r1.1.1.1 then (some (((a2, ()), ()), ())) else (l0 a0 a1 (IntKind.wrap .i64 (a2 + 1)))) else none) else (some (((-1, ()), ()), ()))
def slices_IndexFunc_int64_int64.all : Nat → ((List Int) → Int → Int → Option slices_IndexFunc_int64_int64.R) × Unit
  | 0 => (fun _ _ _ => none, ())
  | k + 1 => (slices_IndexFunc_int64_int64.l0_ k (slices_IndexFunc_int64_int64.all k).1, ())
def slices_IndexFunc_int64_int64.l0 (k : Nat) : (List Int) → Int → Int → Option slices_IndexFunc_int64_int64.R := (slices_IndexFunc_int64_int64.all k).1
def slices_IndexFunc_int64_int64.f (k : Nat) (a0 : List Int) : Option slices_IndexFunc_int64_int64.R := slices_IndexFunc_int64_int64.l0 k a0 ((List.length a0 : Nat) : Int) 0
def slices_IndexFunc_int64_int64.s (k : Nat) : FS := ⟨[⟨false, [.lst (.int .i64)]⟩, ⟨false, [.fn 94 []]⟩], [], false, [⟨false, [.int .i64]⟩], [], [], fun x => slices_IndexFunc_int64_int64.f k x.1.1.1⟩
def slices_IndexFunc_int64_int64.E (k : Nat) : Ents := [(⟨94, []⟩, impl_isFunc_1.s k)]
def slices_IndexFunc_int64_int64.L0 (l : (List Int) → Int → Int → Option slices_IndexFunc_int64_int64.R) : LS slices_IndexFunc_int64_int64.R := ⟨[], [(0, ⟨false, [.lst (.int .i64)]⟩), (1, ⟨false, [.fn 94 []]⟩), (7, ⟨false, [.int .i64]⟩), (8, ⟨false, [.int .i64]⟩)], [], fun x => l x.1.1.1 x.1.2.2.1.1 x.1.2.2.2.1.1⟩
def slices_IndexFunc_int64_int64.L (l0 : (List Int) → Int → Int → Option slices_IndexFunc_int64_int64.R) : List (LS slices_IndexFunc_int64_int64.R) := [slices_IndexFunc_int64_int64.L0 l0]
def slices_IndexFunc_int64_int64.c : Code := Try.f123.body.getD .skip
theorem slices_IndexFunc_int64_int64.eq (k : Nat) (x) : (slices_IndexFunc_int64_int64.s k).pf x = execF tab (slices_IndexFunc_int64_int64.E k) Try.f123 slices_IndexFunc_int64_int64.c (slices_IndexFunc_int64_int64.s k) (slices_IndexFunc_int64_int64.L (slices_IndexFunc_int64_int64.l0 k)) x := by kernel_rfl
theorem slices_IndexFunc_int64_int64.r0 (l0 : (List Int) → Int → Int → Option slices_IndexFunc_int64_int64.R) (k : Nat) (x) : slices_IndexFunc_int64_int64.l0_ k l0 x.1.1.1 x.1.2.2.1.1 x.1.2.2.2.1.1 = roundOf tab (slices_IndexFunc_int64_int64.E k) (slices_IndexFunc_int64_int64.L l0) slices_IndexFunc_int64_int64.c (fin tab Try.f123 (slices_IndexFunc_int64_int64.s k)) 0 (slices_IndexFunc_int64_int64.L0 l0) x := by kernel_rfl
theorem slices_IndexFunc_int64_int64.sound : ∀ k, Sound Try.prog 123 (slices_IndexFunc_int64_int64.s k) := sound_of mixed tab_ok (f := 123) (fn := Try.f123) (c := slices_IndexFunc_int64_int64.c) (by kernel_rfl) (by kernel_rfl) (by kernel_rfl) ⟨[⟨false, [.lst (.int .i64)]⟩, ⟨false, [.fn 94 []]⟩], [], false, [⟨false, [.int .i64]⟩], [], []⟩ (by kernel_rfl) (by kernel_rfl) (fun k => (slices_IndexFunc_int64_int64.s k).pf) slices_IndexFunc_int64_int64.E (fun k => (EntsOK.cons (impl_isFunc_1.sound k) EntsOK.nil)) (fun k => slices_IndexFunc_int64_int64.L (slices_IndexFunc_int64_int64.l0 k)) (fun k => ⟨rfl, trivial⟩) ⟨fun _ => rfl, trivial⟩ (fun k => ⟨⟨(slices_IndexFunc_int64_int64.L0 (slices_IndexFunc_int64_int64.l0 (k + 1))).l, rfl, fun x => slices_IndexFunc_int64_int64.r0 (slices_IndexFunc_int64_int64.l0 k) k x⟩, trivial⟩) slices_IndexFunc_int64_int64.eq
end
end Go.Proofs.Ytkfehogikjcgkaa.V
namespace Go.Proofs.Ytkfehogikjcgkaa.V
open Go
set_option linter.unusedVariables false
noncomputable section
/-! ### slices.ContainsFunc[[]int64,int64]: function 69 -/
abbrev slices_ContainsFunc_int64_int64.R := (((Bool × Unit) × Unit) × Unit)
def slices_ContainsFunc_int64_int64.f (k : Nat) (a0 : List Int) : Option slices_ContainsFunc_int64_int64.R := Option.bind (slices_IndexFunc_int64_int64.f k a0) fun r1 => some (((decide (0 ≤ r1.1.1.1), ()), ()), ())
def slices_ContainsFunc_int64_int64.s (k : Nat) : FS := ⟨[⟨false, [.lst (.int .i64)]⟩, ⟨false, [.fn 94 []]⟩], [], false, [⟨false, [.bool]⟩], [], [], fun x => slices_ContainsFunc_int64_int64.f k x.1.1.1⟩
def slices_ContainsFunc_int64_int64.E (k : Nat) : Ents := [(⟨123, [94]⟩, slices_IndexFunc_int64_int64.s k)]
def slices_ContainsFunc_int64_int64.L : List (LS slices_ContainsFunc_int64_int64.R) := []
def slices_ContainsFunc_int64_int64.c : Code := Try.f69.body.getD .skip
theorem slices_ContainsFunc_int64_int64.eq (k : Nat) (x) : (slices_ContainsFunc_int64_int64.s k).pf x = execF tab (slices_ContainsFunc_int64_int64.E k) Try.f69 slices_ContainsFunc_int64_int64.c (slices_ContainsFunc_int64_int64.s k) slices_ContainsFunc_int64_int64.L x := by kernel_rfl
theorem slices_ContainsFunc_int64_int64.sound : ∀ k, Sound Try.prog 69 (slices_ContainsFunc_int64_int64.s k) := sound_of mixed tab_ok (f := 69) (fn := Try.f69) (c := slices_ContainsFunc_int64_int64.c) (by kernel_rfl) (by kernel_rfl) (by kernel_rfl) ⟨[⟨false, [.lst (.int .i64)]⟩, ⟨false, [.fn 94 []]⟩], [], false, [⟨false, [.bool]⟩], [], []⟩ (by kernel_rfl) (by kernel_rfl) (fun k => (slices_ContainsFunc_int64_int64.s k).pf) slices_ContainsFunc_int64_int64.E (fun k => (EntsOK.cons (slices_IndexFunc_int64_int64.sound k) EntsOK.nil)) (fun k => slices_ContainsFunc_int64_int64.L) (fun k => trivial) trivial (fun k => trivial) slices_ContainsFunc_int64_int64.eq
end
end Go.Proofs.Ytkfehogikjcgkaa.V
namespace Go.Proofs.Ytkfehogikjcgkaa.V
open Go
set_option linter.unusedVariables false
noncomputable section
/-! ### impl.CountOf: function 68 -/
abbrev impl_CountOf.R := (((Int × Unit) × Unit) × Unit)
def impl_CountOf.l0_ (k : Nat) (l0 : Int → (List tBlockD) → Int → Int → Option impl_CountOf.R) (a0 : Int) (a1 : List tBlockD) (a2 : Int) (a3 : Int) : Option impl_CountOf.R := bif decide (a3 < a2) then (bif (decide (0 ≤ a3)) && (decide (a3 < ((List.length a1 : Nat) : Int))) then (l0 (IntKind.wrap .i64 (a0 + (IntKind.wrap .i64 (((List.length ((List.getD a1 (Int.toNat a3) tBlockZ).1) : Nat) : Int) + ((List.length ((List.getD a1 (Int.toNat a3) tBlockZ).2.1) : Nat) : Int))))) a1 a2 (IntKind.wrap .i64 (a3 + 1))) else none) else (some (((a0, ()), ()), ()))
def impl_CountOf.all : Nat → (Int → (List tBlockD) → Int → Int → Option impl_CountOf.R) × Unit
  | 0 => (fun _ _ _ _ => none, ())
  | k + 1 => (impl_CountOf.l0_ k (impl_CountOf.all k).1, ())
def impl_CountOf.l0 (k : Nat) : Int → (List tBlockD) → Int → Int → Option impl_CountOf.R := (impl_CountOf.all k).1
def impl_CountOf.f (k : Nat) (a0 : tFuncD) : Option impl_CountOf.R := impl_CountOf.l0 k ((List.length a0.1 : Nat) : Int) a0.2.2.1 ((List.length a0.2.2.1 : Nat) : Int) 0
def impl_CountOf.s (k : Nat) : FS := ⟨[⟨true, [.lst (.int .i64), .int .i64, .lst tBlock]⟩], [], false, [⟨false, [.int .i64]⟩], [], [], fun x => impl_CountOf.f k x.1.1⟩
def impl_CountOf.E (k : Nat) : Ents := []
def impl_CountOf.L0 (l : Int → (List tBlockD) → Int → Int → Option impl_CountOf.R) : LS impl_CountOf.R := ⟨[], [(3, ⟨false, [.int .i64]⟩), (10, ⟨false, [.lst tBlock]⟩), (11, ⟨false, [.int .i64]⟩), (12, ⟨false, [.int .i64]⟩)], [], fun x => l x.1.1.1 x.1.2.1.1 x.1.2.2.1.1 x.1.2.2.2.1.1⟩
def impl_CountOf.L (l0 : Int → (List tBlockD) → Int → Int → Option impl_CountOf.R) : List (LS impl_CountOf.R) := [impl_CountOf.L0 l0]
def impl_CountOf.c : Code := Try.f68.body.getD .skip
theorem impl_CountOf.eq (k : Nat) (x) : (impl_CountOf.s k).pf x = execF tab (impl_CountOf.E k) Try.f68 impl_CountOf.c (impl_CountOf.s k) (impl_CountOf.L (impl_CountOf.l0 k)) x := by kernel_rfl
theorem impl_CountOf.r0 (l0 : Int → (List tBlockD) → Int → Int → Option impl_CountOf.R) (k : Nat) (x) : impl_CountOf.l0_ k l0 x.1.1.1 x.1.2.1.1 x.1.2.2.1.1 x.1.2.2.2.1.1 = roundOf tab (impl_CountOf.E k) (impl_CountOf.L l0) impl_CountOf.c (fin tab Try.f68 (impl_CountOf.s k)) 0 (impl_CountOf.L0 l0) x := by kernel_rfl
theorem impl_CountOf.sound : ∀ k, Sound Try.prog 68 (impl_CountOf.s k) := sound_of mixed tab_ok (f := 68) (fn := Try.f68) (c := impl_CountOf.c) (by kernel_rfl) (by kernel_rfl) (by kernel_rfl) ⟨[⟨true, [.lst (.int .i64), .int .i64, .lst tBlock]⟩], [], false, [⟨false, [.int .i64]⟩], [], []⟩ (by kernel_rfl) (by kernel_rfl) (fun k => (impl_CountOf.s k).pf) impl_CountOf.E (fun k => EntsOK.nil) (fun k => impl_CountOf.L (impl_CountOf.l0 k)) (fun k => ⟨rfl, trivial⟩) ⟨fun _ => rfl, trivial⟩ (fun k => ⟨⟨(impl_CountOf.L0 (impl_CountOf.l0 (k + 1))).l, rfl, fun x => impl_CountOf.r0 (impl_CountOf.l0 k) k x⟩, trivial⟩) impl_CountOf.eq
end
end Go.Proofs.Ytkfehogikjcgkaa.V
namespace Go.Proofs.Ytkfehogikjcgkaa.V
open Go
set_option linter.unusedVariables false
noncomputable section
/-! ### impl.isFunc$2$1: function 97 -/
abbrev impl_isFunc_2_1.R := (((Bool × Unit) × Unit) × Unit)
def impl_isFunc_2_1.f (k : Nat) (a0 : Int) (a1 : Int) : Option impl_isFunc_2_1.R := Option.bind (impl_within.f k a0 0 (IntKind.wrap .i64 (a1 - 1))) fun r1 => some (((!r1.1.1.1, ()), ()), ())
def impl_isFunc_2_1.s (k : Nat) : FS := ⟨[⟨false, [.int .i64]⟩, ⟨false, [.ptr 0 0]⟩], [(0, .cbox [.int .i64])], false, [⟨false, [.bool]⟩], [], [], fun x => impl_isFunc_2_1.f k x.1.1.1 x.2.1.1⟩
def impl_isFunc_2_1.E (k : Nat) : Ents := [(⟨55, []⟩, impl_within.s k)]
def impl_isFunc_2_1.L : List (LS impl_isFunc_2_1.R) := []
def impl_isFunc_2_1.c : Code := Try.f97.body.getD .skip
theorem impl_isFunc_2_1.eq (k : Nat) (x) : (impl_isFunc_2_1.s k).pf x = execF tab (impl_isFunc_2_1.E k) Try.f97 impl_isFunc_2_1.c (impl_isFunc_2_1.s k) impl_isFunc_2_1.L x := by kernel_rfl
theorem impl_isFunc_2_1.sound : ∀ k, Sound Try.prog 97 (impl_isFunc_2_1.s k) := sound_of mixed tab_ok (f := 97) (fn := Try.f97) (c := impl_isFunc_2_1.c) (by kernel_rfl) (by kernel_rfl) (by kernel_rfl) ⟨[⟨false, [.int .i64]⟩, ⟨false, [.ptr 0 0]⟩], [(0, .cbox [.int .i64])], false, [⟨false, [.bool]⟩], [], []⟩ (by kernel_rfl) (by kernel_rfl) (fun k => (impl_isFunc_2_1.s k).pf) impl_isFunc_2_1.E (fun k => (EntsOK.cons (impl_within.sound k) EntsOK.nil)) (fun k => impl_isFunc_2_1.L) (fun k => trivial) trivial (fun k => trivial) impl_isFunc_2_1.eq
end
end Go.Proofs.Ytkfehogikjcgkaa.V
namespace Go.Proofs.Ytkfehogikjcgkaa.V
open Go
set_option linter.unusedVariables false
noncomputable section
/-! ### slices.IndexFunc[[]int64,int64]: function 123 -/
abbrev slices_IndexFunc_int64_int64_2.R := (((Int × Unit) × Unit) × Unit)
def slices_IndexFunc_int64_int64_2.l0_ (k : Nat) (l0 : (List Int) → Int → Int → Int → Option slices_IndexFunc_int64_int64_2.R) (a0 : List Int) (a1 : Int) (a2 : Int) (a3 : Int) : Option slices_IndexFunc_int64_int64_2.R := bif decide (a2 < a1) then (bif (decide (0 ≤ a2)) && (decide (a2 < ((List.length a0 : Nat) : Int))) then (Option.bind (impl_isFunc_2_1.f k (List.getD a0 (Int.toNat a2) 0) a3) fun r1 => bif r1.1.1.1 then (some (((a2, ()), ()), ())) else (l0 a0 a1 (IntKind.wrap .i64 (a2 + 1)) a3)) else none) else (some (((-1, ()), ()), ()))
def slices_IndexFunc_int64_int64_2.all : Nat → ((List Int) → Int → Int → Int → Option slices_IndexFunc_int64_int64_2.R) × Unit
  | 0 => (fun _ _ _ _ => none, ())
  | k + 1 => (slices_IndexFunc_int64_int64_2.l0_ k (slices_IndexFunc_int64_int64_2.all k).1, ())
def slices_IndexFunc_int64_int64_2.l0 (k : Nat) : (List Int) → Int → Int → Int → Option slices_IndexFunc_int64_int64_2.R := (slices_IndexFunc_int64_int64_2.all k).1
def slices_IndexFunc_int64_int64_2.f (k : Nat) (a0 : List Int) (a1 : Int) : Option slices_IndexFunc_int64_int64_2.R := slices_IndexFunc_int64_int64_2.l0 k a0 ((List.length a0 : Nat) : Int) 0 a1
def slices_IndexFunc_int64_int64_2.s (k : Nat) : FS := ⟨[⟨false, [.lst (.int .i64)]⟩, ⟨false, [.fn 97 [(0, 0)]]⟩], [(0, .cbox [.int .i64])], false, [⟨false, [.int .i64]⟩], [], [], fun x => slices_IndexFunc_int64_int64_2.f k x.1.1.1 x.2.1.1⟩
def slices_IndexFunc_int64_int64_2.E (k : Nat) : Ents := [(⟨97, []⟩, impl_isFunc_2_1.s k)]
def slices_IndexFunc_int64_int64_2.L0 (l : (List Int) → Int → Int → Int → Option slices_IndexFunc_int64_int64_2.R) : LS slices_IndexFunc_int64_int64_2.R := ⟨[], [(0, ⟨false, [.lst (.int .i64)]⟩), (1, ⟨false, [.fn 97 [(0, 0)]]⟩), (7, ⟨false, [.int .i64]⟩), (8, ⟨false, [.int .i64]⟩)], [(0, .cbox [.int .i64])], fun x => l x.1.1.1 x.1.2.2.1.1 x.1.2.2.2.1.1 x.2.1.1⟩
def slices_IndexFunc_int64_int64_2.L (l0 : (List Int) → Int → Int → Int → Option slices_IndexFunc_int64_int64_2.R) : List (LS slices_IndexFunc_int64_int64_2.R) := [slices_IndexFunc_int64_int64_2.L0 l0]
def slices_IndexFunc_int64_int64_2.c : Code := Try.f123.body.getD .skip
theorem slices_IndexFunc_int64_int64_2.eq (k : Nat) (x) : (slices_IndexFunc_int64_int64_2.s k).pf x = execF tab (slices_IndexFunc_int64_int64_2.E k) Try.f123 slices_IndexFunc_int64_int64_2.c (slices_IndexFunc_int64_int64_2.s k) (slices_IndexFunc_int64_int64_2.L (slices_IndexFunc_int64_int64_2.l0 k)) x := by kernel_rfl
theorem slices_IndexFunc_int64_int64_2.r0 (l0 : (List Int) → Int → Int → Int → Option slices_IndexFunc_int64_int64_2.R) (k : Nat) (x) : slices_IndexFunc_int64_int64_2.l0_ k l0 x.1.1.1 x.1.2.2.1.1 x.1.2.2.2.1.1 x.2.1.1 = roundOf tab (slices_IndexFunc_int64_int64_2.E k) (slices_IndexFunc_int64_int64_2.L l0) slices_IndexFunc_int64_int64_2.c (fin tab Try.f123 (slices_IndexFunc_int64_int64_2.s k)) 0 (slices_IndexFunc_int64_int64_2.L0 l0) x := by kernel_rfl
theorem slices_IndexFunc_int64_int64_2.sound : ∀ k, Sound Try.prog 123 (slices_IndexFunc_int64_int64_2.s k) := sound_of mixed tab_ok (f := 123) (fn := Try.f123) (c := slices_IndexFunc_int64_int64_2.c) (by kernel_rfl) (by kernel_rfl) (by kernel_rfl) ⟨[⟨false, [.lst (.int .i64)]⟩, ⟨false, [.fn 97 [(0, 0)]]⟩], [(0, .cbox [.int .i64])], false, [⟨false, [.int .i64]⟩], [], []⟩ (by kernel_rfl) (by kernel_rfl) (fun k => (slices_IndexFunc_int64_int64_2.s k).pf) slices_IndexFunc_int64_int64_2.E (fun k => (EntsOK.cons (impl_isFunc_2_1.sound k) EntsOK.nil)) (fun k => slices_IndexFunc_int64_int64_2.L (slices_IndexFunc_int64_int64_2.l0 k)) (fun k => ⟨rfl, trivial⟩) ⟨fun _ => rfl, trivial⟩ (fun k => ⟨⟨(slices_IndexFunc_int64_int64_2.L0 (slices_IndexFunc_int64_int64_2.l0 (k + 1))).l, rfl, fun x => slices_IndexFunc_int64_int64_2.r0 (slices_IndexFunc_int64_int64_2.l0 k) k x⟩, trivial⟩) slices_IndexFunc_int64_int64_2.eq
end
end Go.Proofs.Ytkfehogikjcgkaa.V
namespace Go.Proofs.Ytkfehogikjcgkaa.V
open Go
set_option linter.unusedVariables false
noncomputable section
/-! ### slices.ContainsFunc[[]int64,int64]: function 69 -/
abbrev slices_ContainsFunc_int64_int64_2.R := (((Bool × Unit) × Unit) × Unit)
def slices_ContainsFunc_int64_int64_2.f (k : Nat) (a0 : List Int) (a1 : Int) : Option slices_ContainsFunc_int64_int64_2.R := Option.bind (slices_IndexFunc_int64_int64_2.f k a0 a1) fun r1 => some (((decide (0 ≤ r1.1.1.1), ()), ()), ())
def slices_ContainsFunc_int64_int64_2.s (k : Nat) : FS := ⟨[⟨false, [.lst (.int .i64)]⟩, ⟨false, [.fn 97 [(0, 0)]]⟩], [(0, .cbox [.int .i64])], false, [⟨false, [.bool]⟩], [], [], fun x => slices_ContainsFunc_int64_int64_2.f k x.1.1.1 x.2.1.1⟩
def slices_ContainsFunc_int64_int64_2.E (k : Nat) : Ents := [(⟨123, [97]⟩, slices_IndexFunc_int64_int64_2.s k)]
def slices_ContainsFunc_int64_int64_2.L : List (LS slices_ContainsFunc_int64_int64_2.R) := []
def slices_ContainsFunc_int64_int64_2.c : Code := Try.f69.body.getD .skip
theorem slices_ContainsFunc_int64_int64_2.eq (k : Nat) (x) : (slices_ContainsFunc_int64_int64_2.s k).pf x = execF tab (slices_ContainsFunc_int64_int64_2.E k) Try.f69 slices_ContainsFunc_int64_int64_2.c (slices_ContainsFunc_int64_int64_2.s k) slices_ContainsFunc_int64_int64_2.L x := by kernel_rfl
theorem slices_ContainsFunc_int64_int64_2.sound : ∀ k, Sound Try.prog 69 (slices_ContainsFunc_int64_int64_2.s k) := sound_of mixed tab_ok (f := 69) (fn := Try.f69) (c := slices_ContainsFunc_int64_int64_2.c) (by kernel_rfl) (by kernel_rfl) (by kernel_rfl) ⟨[⟨false, [.lst (.int .i64)]⟩, ⟨false, [.fn 97 [(0, 0)]]⟩], [(0, .cbox [.int .i64])], false, [⟨false, [.bool]⟩], [], []⟩ (by kernel_rfl) (by kernel_rfl) (fun k => (slices_ContainsFunc_int64_int64_2.s k).pf) slices_ContainsFunc_int64_int64_2.E (fun k => (EntsOK.cons (slices_IndexFunc_int64_int64_2.sound k) EntsOK.nil)) (fun k => slices_ContainsFunc_int64_int64_2.L) (fun k => trivial) trivial (fun k => trivial) slices_ContainsFunc_int64_int64_2.eq
end
end Go.Proofs.Ytkfehogikjcgkaa.V
namespace Go.Proofs.Ytkfehogikjcgkaa.V
open Go
set_option linter.unusedVariables false
noncomputable section
/-! ### impl.isFunc$2: function 96 -/
abbrev impl_isFunc_2.R := (((Bool × Unit) × Unit) × Unit)
def impl_isFunc_2.f (k : Nat) (a0 : tPhiD) (a1 : Int) : Option impl_isFunc_2.R := Option.bind (impl_WidthOk.f k a0.1) fun r1 => bif !r1.1.1.1 then (some (((true, ()), ()), ())) else (bif decide (10 < ((List.length a0.2.1 : Nat) : Int)) then (some (((true, ()), ()), ())) else (Option.bind (slices_ContainsFunc_int64_int64_2.f k a0.2.1 a1) fun r2 => some (((r2.1.1.1, ()), ()), ())))
def impl_isFunc_2.s (k : Nat) : FS := ⟨[⟨true, [.int .i64, .lst (.int .i64)]⟩, ⟨false, [.ptr 0 0]⟩], [(0, .cbox [.int .i64])], false, [⟨false, [.bool]⟩], [], [], fun x => impl_isFunc_2.f k x.1.1 x.2.1.1⟩
def impl_isFunc_2.E (k : Nat) : Ents := [(⟨93, []⟩, impl_WidthOk.s k), (⟨69, [97]⟩, slices_ContainsFunc_int64_int64_2.s k)]
def impl_isFunc_2.L : List (LS impl_isFunc_2.R) := []
def impl_isFunc_2.c : Code := Try.f96.body.getD .skip
theorem impl_isFunc_2.eq (k : Nat) (x) : (impl_isFunc_2.s k).pf x = execF tab (impl_isFunc_2.E k) Try.f96 impl_isFunc_2.c (impl_isFunc_2.s k) impl_isFunc_2.L x := by kernel_rfl
theorem impl_isFunc_2.sound : ∀ k, Sound Try.prog 96 (impl_isFunc_2.s k) := sound_of mixed tab_ok (f := 96) (fn := Try.f96) (c := impl_isFunc_2.c) (by kernel_rfl) (by kernel_rfl) (by kernel_rfl) ⟨[⟨true, [.int .i64, .lst (.int .i64)]⟩, ⟨false, [.ptr 0 0]⟩], [(0, .cbox [.int .i64])], false, [⟨false, [.bool]⟩], [], []⟩ (by kernel_rfl) (by kernel_rfl) (fun k => (impl_isFunc_2.s k).pf) impl_isFunc_2.E (fun k => (EntsOK.cons (impl_WidthOk.sound k) (EntsOK.cons (slices_ContainsFunc_int64_int64_2.sound k) EntsOK.nil))) (fun k => impl_isFunc_2.L) (fun k => trivial) trivial (fun k => trivial) impl_isFunc_2.eq
end
end Go.Proofs.Ytkfehogikjcgkaa.V
namespace Go.Proofs.Ytkfehogikjcgkaa.V
open Go
set_option linter.unusedVariables false
noncomputable section
/-! ### slices.IndexFunc[[]impl.Phi,impl.Phi]: function 140 -/
abbrev slices_IndexFunc_impl_Phi_impl_Phi.R := (((Int × Unit) × Unit) × Unit)
def slices_IndexFunc_impl_Phi_impl_Phi.l0_ (k : Nat) (l0 : (List tPhiD) → Int → Int → Int → Option slices_IndexFunc_impl_Phi_impl_Phi.R) (a0 : List tPhiD) (a1 : Int) (a2 : Int) (a3 : Int) : Option slices_IndexFunc_impl_Phi_impl_Phi.R := bif decide (a2 < a1) then (bif (decide (0 ≤ a2)) && (decide (a2 < ((List.length a0 : Nat) : Int))) then (Option.bind (impl_isFunc_2.f k (List.getD a0 (Int.toNat a2) tPhiZ) a3) fun r1 => bif r1.1.1.1 then (some (((a2, ()), ()), ())) else (l0 a0 a1 (IntKind.wrap .i64 (a2 + 1)) a3)) else none) else (some (((-1, ()), ()), ()))
def slices_IndexFunc_impl_Phi_impl_Phi.all : Nat → ((List tPhiD) → Int → Int → Int → Option slices_IndexFunc_impl_Phi_impl_Phi.R) × Unit
  | 0 => (fun _ _ _ _ => none, ())
  | k + 1 => (slices_IndexFunc_impl_Phi_impl_Phi.l0_ k (slices_IndexFunc_impl_Phi_impl_Phi.all k).1, ())
def slices_IndexFunc_impl_Phi_impl_Phi.l0 (k : Nat) : (List tPhiD) → Int → Int → Int → Option slices_IndexFunc_impl_Phi_impl_Phi.R := (slices_IndexFunc_impl_Phi_impl_Phi.all k).1
def slices_IndexFunc_impl_Phi_impl_Phi.f (k : Nat) (a0 : List tPhiD) (a1 : Int) : Option slices_IndexFunc_impl_Phi_impl_Phi.R := slices_IndexFunc_impl_Phi_impl_Phi.l0 k a0 ((List.length a0 : Nat) : Int) 0 a1
def slices_IndexFunc_impl_Phi_impl_Phi.s (k : Nat) : FS := ⟨[⟨false, [.lst tPhi]⟩, ⟨false, [.fn 96 [(0, 0)]]⟩], [(0, .cbox [.int .i64])], false, [⟨false, [.int .i64]⟩], [], [], fun x => slices_IndexFunc_impl_Phi_impl_Phi.f k x.1.1.1 x.2.1.1⟩
def slices_IndexFunc_impl_Phi_impl_Phi.E (k : Nat) : Ents := [(⟨96, []⟩, impl_isFunc_2.s k)]
def slices_IndexFunc_impl_Phi_impl_Phi.L0 (l : (List tPhiD) → Int → Int → Int → Option slices_IndexFunc_impl_Phi_impl_Phi.R) : LS slices_IndexFunc_impl_Phi_impl_Phi.R := ⟨[], [(0, ⟨false, [.lst tPhi]⟩), (1, ⟨false, [.fn 96 [(0, 0)]]⟩), (7, ⟨false, [.int .i64]⟩), (8, ⟨false, [.int .i64]⟩)], [(0, .cbox [.int .i64])], fun x => l x.1.1.1 x.1.2.2.1.1 x.1.2.2.2.1.1 x.2.1.1⟩
def slices_IndexFunc_impl_Phi_impl_Phi.L (l0 : (List tPhiD) → Int → Int → Int → Option slices_IndexFunc_impl_Phi_impl_Phi.R) : List (LS slices_IndexFunc_impl_Phi_impl_Phi.R) := [slices_IndexFunc_impl_Phi_impl_Phi.L0 l0]
def slices_IndexFunc_impl_Phi_impl_Phi.c : Code := Try.f140.body.getD .skip
theorem slices_IndexFunc_impl_Phi_impl_Phi.eq (k : Nat) (x) : (slices_IndexFunc_impl_Phi_impl_Phi.s k).pf x = execF tab (slices_IndexFunc_impl_Phi_impl_Phi.E k) Try.f140 slices_IndexFunc_impl_Phi_impl_Phi.c (slices_IndexFunc_impl_Phi_impl_Phi.s k) (slices_IndexFunc_impl_Phi_impl_Phi.L (slices_IndexFunc_impl_Phi_impl_Phi.l0 k)) x := by kernel_rfl
theorem slices_IndexFunc_impl_Phi_impl_Phi.r0 (l0 : (List tPhiD) → Int → Int → Int → Option slices_IndexFunc_impl_Phi_impl_Phi.R) (k : Nat) (x) : slices_IndexFunc_impl_Phi_impl_Phi.l0_ k l0 x.1.1.1 x.1.2.2.1.1 x.1.2.2.2.1.1 x.2.1.1 = roundOf tab (slices_IndexFunc_impl_Phi_impl_Phi.E k) (slices_IndexFunc_impl_Phi_impl_Phi.L l0) slices_IndexFunc_impl_Phi_impl_Phi.c (fin tab Try.f140 (slices_IndexFunc_impl_Phi_impl_Phi.s k)) 0 (slices_IndexFunc_impl_Phi_impl_Phi.L0 l0) x := by kernel_rfl
theorem slices_IndexFunc_impl_Phi_impl_Phi.sound : ∀ k, Sound Try.prog 140 (slices_IndexFunc_impl_Phi_impl_Phi.s k) := sound_of mixed tab_ok (f := 140) (fn := Try.f140) (c := slices_IndexFunc_impl_Phi_impl_Phi.c) (by kernel_rfl) (by kernel_rfl) (by kernel_rfl) ⟨[⟨false, [.lst tPhi]⟩, ⟨false, [.fn 96 [(0, 0)]]⟩], [(0, .cbox [.int .i64])], false, [⟨false, [.int .i64]⟩], [], []⟩ (by kernel_rfl) (by kernel_rfl) (fun k => (slices_IndexFunc_impl_Phi_impl_Phi.s k).pf) slices_IndexFunc_impl_Phi_impl_Phi.E (fun k => (EntsOK.cons (impl_isFunc_2.sound k) EntsOK.nil)) (fun k => slices_IndexFunc_impl_Phi_impl_Phi.L (slices_IndexFunc_impl_Phi_impl_Phi.l0 k)) (fun k => ⟨rfl, trivial⟩) ⟨fun _ => rfl, trivial⟩ (fun k => ⟨⟨(slices_IndexFunc_impl_Phi_impl_Phi.L0 (slices_IndexFunc_impl_Phi_impl_Phi.l0 (k + 1))).l, rfl, fun x => slices_IndexFunc_impl_Phi_impl_Phi.r0 (slices_IndexFunc_impl_Phi_impl_Phi.l0 k) k x⟩, trivial⟩) slices_IndexFunc_impl_Phi_impl_Phi.eq
end
end Go.Proofs.Ytkfehogikjcgkaa.V
namespace Go.Proofs.Ytkfehogikjcgkaa.V
open Go
set_option linter.unusedVariables false
noncomputable section
/-! ### slices.ContainsFunc[[]impl.Phi,impl.Phi]: function 95 -/
abbrev slices_ContainsFunc_impl_Phi_impl_Phi.R := (((Bool × Unit) × Unit) × Unit)
def slices_ContainsFunc_impl_Phi_impl_Phi.f (k : Nat) (a0 : List tPhiD) (a1 : Int) : Option slices_ContainsFunc_impl_Phi_impl_Phi.R := Option.bind (slices_IndexFunc_impl_Phi_impl_Phi.f k a0 a1) fun r1 => some (((decide (0 ≤ r1.1.1.1), ()), ()), ())
def slices_ContainsFunc_impl_Phi_impl_Phi.s (k : Nat) : FS := ⟨[⟨false, [.lst tPhi]⟩, ⟨false, [.fn 96 [(0, 0)]]⟩], [(0, .cbox [.int .i64])], false, [⟨false, [.bool]⟩], [], [], fun x => slices_ContainsFunc_impl_Phi_impl_Phi.f k x.1.1.1 x.2.1.1⟩
def slices_ContainsFunc_impl_Phi_impl_Phi.E (k : Nat) : Ents := [(⟨140, [96]⟩, slices_IndexFunc_impl_Phi_impl_Phi.s k)]
def slices_ContainsFunc_impl_Phi_impl_Phi.L : List (LS slices_ContainsFunc_impl_Phi_impl_Phi.R) := []
def slices_ContainsFunc_impl_Phi_impl_Phi.c : Code := Try.f95.body.getD .skip
theorem slices_ContainsFunc_impl_Phi_impl_Phi.eq (k : Nat) (x) : (slices_ContainsFunc_impl_Phi_impl_Phi.s k).pf x = execF tab (slices_ContainsFunc_impl_Phi_impl_Phi.E k) Try.f95 slices_ContainsFunc_impl_Phi_impl_Phi.c (slices_ContainsFunc_impl_Phi_impl_Phi.s k) slices_ContainsFunc_impl_Phi_impl_Phi.L x := by kernel_rfl
theorem slices_ContainsFunc_impl_Phi_impl_Phi.sound : ∀ k, Sound Try.prog 95 (slices_ContainsFunc_impl_Phi_impl_Phi.s k) := sound_of mixed tab_ok (f := 95) (fn := Try.f95) (c := slices_ContainsFunc_impl_Phi_impl_Phi.c) (by kernel_rfl) (by kernel_rfl) (by kernel_rfl) ⟨[⟨false, [.lst tPhi]⟩, ⟨false, [.fn 96 [(0, 0)]]⟩], [(0, .cbox [.int .i64])], false, [⟨false, [.bool]⟩], [], []⟩ (by kernel_rfl) (by kernel_rfl) (fun k => (slices_ContainsFunc_impl_Phi_impl_Phi.s k).pf) slices_ContainsFunc_impl_Phi_impl_Phi.E (fun k => (EntsOK.cons (slices_IndexFunc_impl_Phi_impl_Phi.sound k) EntsOK.nil)) (fun k => slices_ContainsFunc_impl_Phi_impl_Phi.L) (fun k => trivial) trivial (fun k => trivial) slices_ContainsFunc_impl_Phi_impl_Phi.eq
end
end Go.Proofs.Ytkfehogikjcgkaa.V
namespace Go.Proofs.Ytkfehogikjcgkaa.V
open Go
set_option linter.unusedVariables false
noncomputable section
/-! ### impl.isBinary: function 170 -/
abbrev impl_isBinary.R := (((Bool × Unit) × Unit) × Unit)
def impl_isBinary.f (k : Nat) (a0 : Int) : Option impl_isBinary.R := Option.bind (impl_within.f k a0 1 17) fun r1 => some (((r1.1.1.1, ()), ()), ())
def impl_isBinary.s (k : Nat) : FS := ⟨[⟨false, [.int .i64]⟩], [], false, [⟨false, [.bool]⟩], [], [], fun x => impl_isBinary.f k x.1.1.1⟩
def impl_isBinary.E (k : Nat) : Ents := [(⟨55, []⟩, impl_within.s k)]
def impl_isBinary.L : List (LS impl_isBinary.R) := []
def impl_isBinary.c : Code := Try.f170.body.getD .skip
theorem impl_isBinary.eq (k : Nat) (x) : (impl_isBinary.s k).pf x = execF tab (impl_isBinary.E k) Try.f170 impl_isBinary.c (impl_isBinary.s k) impl_isBinary.L x := by kernel_rfl
theorem impl_isBinary.sound : ∀ k, Sound Try.prog 170 (impl_isBinary.s k) := sound_of mixed tab_ok (f := 170) (fn := Try.f170) (c := impl_isBinary.c) (by kernel_rfl) (by kernel_rfl) (by kernel_rfl) ⟨[⟨false, [.int .i64]⟩], [], false, [⟨false, [.bool]⟩], [], []⟩ (by kernel_rfl) (by kernel_rfl) (fun k => (impl_isBinary.s k).pf) impl_isBinary.E (fun k => (EntsOK.cons (impl_within.sound k) EntsOK.nil)) (fun k => impl_isBinary.L) (fun k => trivial) trivial (fun k => trivial) impl_isBinary.eq
end
end Go.Proofs.Ytkfehogikjcgkaa.V
namespace Go.Proofs.Ytkfehogikjcgkaa.V
open Go
set_option linter.unusedVariables false
noncomputable section
/-! ### impl.isCast: function 171 -/
abbrev impl_isCast.R := (((Bool × Unit) × Unit) × Unit)
def impl_isCast.f (k : Nat) (a0 : Int) : Option impl_isCast.R := Option.bind (impl_within.f k a0 18 20) fun r1 => some (((r1.1.1.1, ()), ()), ())
def impl_isCast.s (k : Nat) : FS := ⟨[⟨false, [.int .i64]⟩], [], false, [⟨false, [.bool]⟩], [], [], fun x => impl_isCast.f k x.1.1.1⟩
def impl_isCast.E (k : Nat) : Ents := [(⟨55, []⟩, impl_within.s k)]
def impl_isCast.L : List (LS impl_isCast.R) := []
def impl_isCast.c : Code := Try.f171.body.getD .skip
theorem impl_isCast.eq (k : Nat) (x) : (impl_isCast.s k).pf x = execF tab (impl_isCast.E k) Try.f171 impl_isCast.c (impl_isCast.s k) impl_isCast.L x := by kernel_rfl
theorem impl_isCast.sound : ∀ k, Sound Try.prog 171 (impl_isCast.s k) := sound_of mixed tab_ok (f := 171) (fn := Try.f171) (c := impl_isCast.c) (by kernel_rfl) (by kernel_rfl) (by kernel_rfl) ⟨[⟨false, [.int .i64]⟩], [], false, [⟨false, [.bool]⟩], [], []⟩ (by kernel_rfl) (by kernel_rfl) (fun k => (impl_isCast.s k).pf) impl_isCast.E (fun k => (EntsOK.cons (impl_within.sound k) EntsOK.nil)) (fun k => impl_isCast.L) (fun k => trivial) trivial (fun k => trivial) impl_isCast.eq
end
end Go.Proofs.Ytkfehogikjcgkaa.V
namespace Go.Proofs.Ytkfehogikjcgkaa.V
open Go
set_option linter.unusedVariables false
noncomputable section
/-! ### impl.OperandsOf: function 142 -/
abbrev impl_OperandsOf.R := (((Unit × Unit) × Unit) × ((List Int) × Unit))
def impl_OperandsOf.f (k : Nat) (a0 : tInstD) : Option impl_OperandsOf.R := Option.bind (impl_isBinary.f k a0.1) fun r1 => bif r1.1.1.1 then (some ((((), ()), ()), ([a0.2.2.1, a0.2.2.2.1], ()))) else (bif decide (a0.1 = 24) then (some ((((), ()), ()), ([a0.2.2.1, a0.2.2.2.1], ()))) else (Option.bind (impl_isCast.f k a0.1) fun r2 => bif r2.1.1.1 then (some ((((), ()), ()), ([a0.2.2.1], ()))) else (bif decide (a0.1 = 23) then (some ((((), ()), ()), ([a0.2.2.1], ()))) else (bif decide (a0.1 = 25) then (some ((((), ()), ()), ([a0.2.2.1], ()))) else (bif decide (a0.1 = 27) then (some ((((), ()), ()), ([a0.2.2.1], ()))) else (bif decide (a0.1 = 22) then (some ((((), ()), ()), ([a0.2.2.1, a0.2.2.2.1, a0.2.2.2.2.1], ()))) else (bif decide (a0.1 = 26) then (Option.bind (slices_Clone_int64_int64.f k a0.2.2.2.2.2.2.1) fun r3 => some ((((), ()), ()), (r3.2.1, ()))) else (some ((((), ()), ()), (([] : List Int), ()))))))))))
def impl_OperandsOf.s (k : Nat) : FS := ⟨[⟨true, [.int .i64, .int .i64, .int .i64, .int .i64, .int .i64, .int .i64, .lst (.int .i64)]⟩], [], false, [⟨false, [.own 100]⟩], [(100, .row true (.int .i64))], [], fun x => impl_OperandsOf.f k x.1.1⟩
def impl_OperandsOf.E (k : Nat) : Ents := [(⟨170, []⟩, impl_isBinary.s k), (⟨171, []⟩, impl_isCast.s k), (⟨160, []⟩, slices_Clone_int64_int64.s k)]
def impl_OperandsOf.L : List (LS impl_OperandsOf.R) := []
def impl_OperandsOf.c : Code := Try.f142.body.getD .skip
theorem impl_OperandsOf.eq (k : Nat) (x) : (impl_OperandsOf.s k).pf x = execF tab (impl_OperandsOf.E k) Try.f142 impl_OperandsOf.c (impl_OperandsOf.s k) impl_OperandsOf.L x := by kernel_rfl
theorem impl_OperandsOf.sound : ∀ k, Sound Try.prog 142 (impl_OperandsOf.s k) := sound_of mixed tab_ok (f := 142) (fn := Try.f142) (c := impl_OperandsOf.c) (by kernel_rfl) (by kernel_rfl) (by kernel_rfl) ⟨[⟨true, [.int .i64, .int .i64, .int .i64, .int .i64, .int .i64, .int .i64, .lst (.int .i64)]⟩], [], false, [⟨false, [.own 100]⟩], [(100, .row true (.int .i64))], []⟩ (by kernel_rfl) (by kernel_rfl) (fun k => (impl_OperandsOf.s k).pf) impl_OperandsOf.E (fun k => (EntsOK.cons (impl_isBinary.sound k) (EntsOK.cons (impl_isCast.sound k) (EntsOK.cons (slices_Clone_int64_int64.sound k) EntsOK.nil)))) (fun k => impl_OperandsOf.L) (fun k => trivial) trivial (fun k => trivial) impl_OperandsOf.eq
end
end Go.Proofs.Ytkfehogikjcgkaa.V
namespace Go.Proofs.Ytkfehogikjcgkaa.V
open Go
set_option linter.unusedVariables false
noncomputable section
/-! ### impl.isInst$1: function 143 -/
abbrev impl_isInst_1.R := (((Bool × Unit) × Unit) × Unit)
def impl_isInst_1.f (k : Nat) (a0 : Int) (a1 : Int) : Option impl_isInst_1.R := Option.bind (impl_within.f k a0 0 (IntKind.wrap .i64 (a1 - 1))) fun r1 => some (((!r1.1.1.1, ()), ()), ())
def impl_isInst_1.s (k : Nat) : FS := ⟨[⟨false, [.int .i64]⟩, ⟨false, [.ptr 0 0]⟩], [(0, .cbox [.int .i64])], false, [⟨false, [.bool]⟩], [], [], fun x => impl_isInst_1.f k x.1.1.1 x.2.1.1⟩
def impl_isInst_1.E (k : Nat) : Ents := [(⟨55, []⟩, impl_within.s k)]
def impl_isInst_1.L : List (LS impl_isInst_1.R) := []
def impl_isInst_1.c : Code := Try.f143.body.getD .skip
theorem impl_isInst_1.eq (k : Nat) (x) : (impl_isInst_1.s k).pf x = execF tab (impl_isInst_1.E k) Try.f143 impl_isInst_1.c (impl_isInst_1.s k) impl_isInst_1.L x := by kernel_rfl
theorem impl_isInst_1.sound : ∀ k, Sound Try.prog 143 (impl_isInst_1.s k) := sound_of mixed tab_ok (f := 143) (fn := Try.f143) (c := impl_isInst_1.c) (by kernel_rfl) (by kernel_rfl) (by kernel_rfl) ⟨[⟨false, [.int .i64]⟩, ⟨false, [.ptr 0 0]⟩], [(0, .cbox [.int .i64])], false, [⟨false, [.bool]⟩], [], []⟩ (by kernel_rfl) (by kernel_rfl) (fun k => (impl_isInst_1.s k).pf) impl_isInst_1.E (fun k => (EntsOK.cons (impl_within.sound k) EntsOK.nil)) (fun k => impl_isInst_1.L) (fun k => trivial) trivial (fun k => trivial) impl_isInst_1.eq
end
end Go.Proofs.Ytkfehogikjcgkaa.V
namespace Go.Proofs.Ytkfehogikjcgkaa.V
open Go
set_option linter.unusedVariables false
noncomputable section
/-! ### slices.IndexFunc[[]int64,int64]: function 123 -/
abbrev slices_IndexFunc_int64_int64_3.R := (((Int × Unit) × Unit) × Unit)
def slices_IndexFunc_int64_int64_3.l0_ (k : Nat) (l0 : (List Int) → Int → Int → Int → Option slices_IndexFunc_int64_int64_3.R) (a0 : List Int) (a1 : Int) (a2 : Int) (a3 : Int) : Option slices_IndexFunc_int64_int64_3.R := bif decide (a2 < a1) then (bif (decide (0 ≤ a2)) && (decide (a2 < ((List.length a0 : Nat) : Int))) then (Option.bind (impl_isInst_1.f k (List.getD a0 (Int.toNat a2) 0) a3) fun r1 => bif r1.1.1.1 then (some (((a2, ()), ()), ())) else (l0 a0 a1 (IntKind.wrap .i64 (a2 + 1)) a3)) else none) else (some (((-1, ()), ()), ()))
def slices_IndexFunc_int64_int64_3.all : Nat → ((List Int) → Int → Int → Int → Option slices_IndexFunc_int64_int64_3.R) × Unit
  | 0 => (fun _ _ _ _ => none, ())
  | k + 1 => (slices_IndexFunc_int64_int64_3.l0_ k (slices_IndexFunc_int64_int64_3.all k).1, ())
def slices_IndexFunc_int64_int64_3.l0 (k : Nat) : (List Int) → Int → Int → Int → Option slices_IndexFunc_int64_int64_3.R := (slices_IndexFunc_int64_int64_3.all k).1
def slices_IndexFunc_int64_int64_3.f (k : Nat) (a0 : List Int) (a1 : Int) : Option slices_IndexFunc_int64_int64_3.R := slices_IndexFunc_int64_int64_3.l0 k a0 ((List.length a0 : Nat) : Int) 0 a1
def slices_IndexFunc_int64_int64_3.s (k : Nat) : FS := ⟨[⟨false, [.lst (.int .i64)]⟩, ⟨false, [.fn 143 [(0, 0)]]⟩], [(0, .cbox [.int .i64])], false, [⟨false, [.int .i64]⟩], [], [], fun x => slices_IndexFunc_int64_int64_3.f k x.1.1.1 x.2.1.1⟩
def slices_IndexFunc_int64_int64_3.E (k : Nat) : Ents := [(⟨143, []⟩, impl_isInst_1.s k)]
def slices_IndexFunc_int64_int64_3.L0 (l : (List Int) → Int → Int → Int → Option slices_IndexFunc_int64_int64_3.R) : LS slices_IndexFunc_int64_int64_3.R := ⟨[], [(0, ⟨false, [.lst (.int .i64)]⟩), (1, ⟨false, [.fn 143 [(0, 0)]]⟩), (7, ⟨false, [.int .i64]⟩), (8, ⟨false, [.int .i64]⟩)], [(0, .cbox [.int .i64])], fun x => l x.1.1.1 x.1.2.2.1.1 x.1.2.2.2.1.1 x.2.1.1⟩
def slices_IndexFunc_int64_int64_3.L (l0 : (List Int) → Int → Int → Int → Option slices_IndexFunc_int64_int64_3.R) : List (LS slices_IndexFunc_int64_int64_3.R) := [slices_IndexFunc_int64_int64_3.L0 l0]
def slices_IndexFunc_int64_int64_3.c : Code := Try.f123.body.getD .skip
theorem slices_IndexFunc_int64_int64_3.eq (k : Nat) (x) : (slices_IndexFunc_int64_int64_3.s k).pf x = execF tab (slices_IndexFunc_int64_int64_3.E k) Try.f123 slices_IndexFunc_int64_int64_3.c (slices_IndexFunc_int64_int64_3.s k) (slices_IndexFunc_int64_int64_3.L (slices_IndexFunc_int64_int64_3.l0 k)) x := by kernel_rfl
theorem slices_IndexFunc_int64_int64_3.r0 (l0 : (List Int) → Int → Int → Int → Option slices_IndexFunc_int64_int64_3.R) (k : Nat) (x) : slices_IndexFunc_int64_int64_3.l0_ k l0 x.1.1.1 x.1.2.2.1.1 x.1.2.2.2.1.1 x.2.1.1 = roundOf tab (slices_IndexFunc_int64_int64_3.E k) (slices_IndexFunc_int64_int64_3.L l0) slices_IndexFunc_int64_int64_3.c (fin tab Try.f123 (slices_IndexFunc_int64_int64_3.s k)) 0 (slices_IndexFunc_int64_int64_3.L0 l0) x := by kernel_rfl
theorem slices_IndexFunc_int64_int64_3.sound : ∀ k, Sound Try.prog 123 (slices_IndexFunc_int64_int64_3.s k) := sound_of mixed tab_ok (f := 123) (fn := Try.f123) (c := slices_IndexFunc_int64_int64_3.c) (by kernel_rfl) (by kernel_rfl) (by kernel_rfl) ⟨[⟨false, [.lst (.int .i64)]⟩, ⟨false, [.fn 143 [(0, 0)]]⟩], [(0, .cbox [.int .i64])], false, [⟨false, [.int .i64]⟩], [], []⟩ (by kernel_rfl) (by kernel_rfl) (fun k => (slices_IndexFunc_int64_int64_3.s k).pf) slices_IndexFunc_int64_int64_3.E (fun k => (EntsOK.cons (impl_isInst_1.sound k) EntsOK.nil)) (fun k => slices_IndexFunc_int64_int64_3.L (slices_IndexFunc_int64_int64_3.l0 k)) (fun k => ⟨rfl, trivial⟩) ⟨fun _ => rfl, trivial⟩ (fun k => ⟨⟨(slices_IndexFunc_int64_int64_3.L0 (slices_IndexFunc_int64_int64_3.l0 (k + 1))).l, rfl, fun x => slices_IndexFunc_int64_int64_3.r0 (slices_IndexFunc_int64_int64_3.l0 k) k x⟩, trivial⟩) slices_IndexFunc_int64_int64_3.eq
end
end Go.Proofs.Ytkfehogikjcgkaa.V
namespace Go.Proofs.Ytkfehogikjcgkaa.V
open Go
set_option linter.unusedVariables false
noncomputable section
/-! ### slices.ContainsFunc[[]int64,int64]: function 69 -/
abbrev slices_ContainsFunc_int64_int64_3.R := (((Bool × Unit) × Unit) × Unit)
def slices_ContainsFunc_int64_int64_3.f (k : Nat) (a0 : List Int) (a1 : Int) : Option slices_ContainsFunc_int64_int64_3.R := Option.bind (slices_IndexFunc_int64_int64_3.f k a0 a1) fun r1 => some (((decide (0 ≤ r1.1.1.1), ()), ()), ())
def slices_ContainsFunc_int64_int64_3.s (k : Nat) : FS := ⟨[⟨false, [.lst (.int .i64)]⟩, ⟨false, [.fn 143 [(0, 0)]]⟩], [(0, .cbox [.int .i64])], false, [⟨false, [.bool]⟩], [], [], fun x => slices_ContainsFunc_int64_int64_3.f k x.1.1.1 x.2.1.1⟩
def slices_ContainsFunc_int64_int64_3.E (k : Nat) : Ents := [(⟨123, [143]⟩, slices_IndexFunc_int64_int64_3.s k)]
def slices_ContainsFunc_int64_int64_3.L : List (LS slices_ContainsFunc_int64_int64_3.R) := []
def slices_ContainsFunc_int64_int64_3.c : Code := Try.f69.body.getD .skip
theorem slices_ContainsFunc_int64_int64_3.eq (k : Nat) (x) : (slices_ContainsFunc_int64_int64_3.s k).pf x = execF tab (slices_ContainsFunc_int64_int64_3.E k) Try.f69 slices_ContainsFunc_int64_int64_3.c (slices_ContainsFunc_int64_int64_3.s k) slices_ContainsFunc_int64_int64_3.L x := by kernel_rfl
theorem slices_ContainsFunc_int64_int64_3.sound : ∀ k, Sound Try.prog 69 (slices_ContainsFunc_int64_int64_3.s k) := sound_of mixed tab_ok (f := 69) (fn := Try.f69) (c := slices_ContainsFunc_int64_int64_3.c) (by kernel_rfl) (by kernel_rfl) (by kernel_rfl) ⟨[⟨false, [.lst (.int .i64)]⟩, ⟨false, [.fn 143 [(0, 0)]]⟩], [(0, .cbox [.int .i64])], false, [⟨false, [.bool]⟩], [], []⟩ (by kernel_rfl) (by kernel_rfl) (fun k => (slices_ContainsFunc_int64_int64_3.s k).pf) slices_ContainsFunc_int64_int64_3.E (fun k => (EntsOK.cons (slices_IndexFunc_int64_int64_3.sound k) EntsOK.nil)) (fun k => slices_ContainsFunc_int64_int64_3.L) (fun k => trivial) trivial (fun k => trivial) slices_ContainsFunc_int64_int64_3.eq
end
end Go.Proofs.Ytkfehogikjcgkaa.V
namespace Go.Proofs.Ytkfehogikjcgkaa.V
open Go
set_option linter.unusedVariables false
noncomputable section
/-! ### impl.isInst$2: function 144 -/
abbrev impl_isInst_2.R := (((Bool × Unit) × Unit) × Unit)
def impl_isInst_2.f (k : Nat) (a0 : Int) : Option impl_isInst_2.R := some (((!decide (a0 = 0), ()), ()), ())
def impl_isInst_2.s (k : Nat) : FS := ⟨[⟨false, [.int .i64]⟩], [], false, [⟨false, [.bool]⟩], [], [], fun x => impl_isInst_2.f k x.1.1.1⟩
def impl_isInst_2.E (k : Nat) : Ents := []
def impl_isInst_2.L : List (LS impl_isInst_2.R) := []
def impl_isInst_2.c : Code := Try.f144.body.getD .skip
theorem impl_isInst_2.eq (k : Nat) (x) : (impl_isInst_2.s k).pf x = execF tab (impl_isInst_2.E k) Try.f144 impl_isInst_2.c (impl_isInst_2.s k) impl_isInst_2.L x := by kernel_rfl
theorem impl_isInst_2.sound : ∀ k, Sound Try.prog 144 (impl_isInst_2.s k) := sound_of mixed tab_ok (f := 144) (fn := Try.f144) (c := impl_isInst_2.c) (by kernel_rfl) (by kernel_rfl) (by kernel_rfl) ⟨[⟨false, [.int .i64]⟩], [], false, [⟨false, [.bool]⟩], [], []⟩ (by kernel_rfl) (by kernel_rfl) (fun k => (impl_isInst_2.s k).pf) impl_isInst_2.E (fun k => EntsOK.nil) (fun k => impl_isInst_2.L) (fun k => trivial) trivial (fun k => trivial) impl_isInst_2.eq
end
end Go.Proofs.Ytkfehogikjcgkaa.V
namespace Go.Proofs.Ytkfehogikjcgkaa.V
open Go
set_option linter.unusedVariables false
noncomputable section
/-! ### slices.IndexFunc[[]int64,int64]: function 123 -/
abbrev slices_IndexFunc_int64_int64_4.R := (((Int × Unit) × Unit) × Unit)
def slices_IndexFunc_int64_int64_4.l0_ (k : Nat) (l0 : (List Int) → Int → Int → Option slices_IndexFunc_int64_int64_4.R) (a0 : List Int) (a1 : Int) (a2 : Int) : Option slices_IndexFunc_int64_int64_4.R := bif decide (a2 < a1) then (bif (decide (0 ≤ a2)) && (decide (a2 < ((List.length a0 : Nat) : Int))) then (Option.bind (impl_isInst_2.f k (List.getD a0 (Int.toNat a2) 0)) fun r1 => bif r1.1.1.1 then (some (((a2, ()), ()), ())) else (l0 a0 a1 (IntKind.wrap .i64 (a2 + 1)))) else none) else (some (((-1, ()), ()), ()))
def slices_IndexFunc_int64_int64_4.all : Nat → ((List Int) → Int → Int → Option slices_IndexFunc_int64_int64_4.R) × Unit
  | 0 => (fun _ _ _ => none, ())
  | k + 1 => (slices_IndexFunc_int64_int64_4.l0_ k (slices_IndexFunc_int64_int64_4.all k).1, ())
def slices_IndexFunc_int64_int64_4.l0 (k : Nat) : (List Int) → Int → Int → Option slices_IndexFunc_int64_int64_4.R := (slices_IndexFunc_int64_int64_4.all k).1
def slices_IndexFunc_int64_int64_4.f (k : Nat) (a0 : List Int) : Option slices_IndexFunc_int64_int64_4.R := slices_IndexFunc_int64_int64_4.l0 k a0 ((List.length a0 : Nat) : Int) 0
def slices_IndexFunc_int64_int64_4.s (k : Nat) : FS := ⟨[⟨false, [.lst (.int .i64)]⟩, ⟨false, [.fn 144 []]⟩], [], false, [⟨false, [.int .i64]⟩], [], [], fun x => slices_IndexFunc_int64_int64_4.f k x.1.1.1⟩
def slices_IndexFunc_int64_int64_4.E (k : Nat) : Ents := [(⟨144, []⟩, impl_isInst_2.s k)]
def slices_IndexFunc_int64_int64_4.L0 (l : (List Int) → Int → Int → Option slices_IndexFunc_int64_int64_4.R) : LS slices_IndexFunc_int64_int64_4.R := ⟨[], [(0, ⟨false, [.lst (.int .i64)]⟩), (1, ⟨false, [.fn 144 []]⟩), (7, ⟨false, [.int .i64]⟩), (8, ⟨false, [.int .i64]⟩)], [], fun x => l x.1.1.1 x.1.2.2.1.1 x.1.2.2.2.1.1⟩
def slices_IndexFunc_int64_int64_4.L (l0 : (List Int) → Int → Int → Option slices_IndexFunc_int64_int64_4.R) : List (LS slices_IndexFunc_int64_int64_4.R) := [slices_IndexFunc_int64_int64_4.L0 l0]
def slices_IndexFunc_int64_int64_4.c : Code := Try.f123.body.getD .skip
theorem slices_IndexFunc_int64_int64_4.eq (k : Nat) (x) : (slices_IndexFunc_int64_int64_4.s k).pf x = execF tab (slices_IndexFunc_int64_int64_4.E k) Try.f123 slices_IndexFunc_int64_int64_4.c (slices_IndexFunc_int64_int64_4.s k) (slices_IndexFunc_int64_int64_4.L (slices_IndexFunc_int64_int64_4.l0 k)) x := by kernel_rfl
theorem slices_IndexFunc_int64_int64_4.r0 (l0 : (List Int) → Int → Int → Option slices_IndexFunc_int64_int64_4.R) (k : Nat) (x) : slices_IndexFunc_int64_int64_4.l0_ k l0 x.1.1.1 x.1.2.2.1.1 x.1.2.2.2.1.1 = roundOf tab (slices_IndexFunc_int64_int64_4.E k) (slices_IndexFunc_int64_int64_4.L l0) slices_IndexFunc_int64_int64_4.c (fin tab Try.f123 (slices_IndexFunc_int64_int64_4.s k)) 0 (slices_IndexFunc_int64_int64_4.L0 l0) x := by kernel_rfl
theorem slices_IndexFunc_int64_int64_4.sound : ∀ k, Sound Try.prog 123 (slices_IndexFunc_int64_int64_4.s k) := sound_of mixed tab_ok (f := 123) (fn := Try.f123) (c := slices_IndexFunc_int64_int64_4.c) (by kernel_rfl) (by kernel_rfl) (by kernel_rfl) ⟨[⟨false, [.lst (.int .i64)]⟩, ⟨false, [.fn 144 []]⟩], [], false, [⟨false, [.int .i64]⟩], [], []⟩ (by kernel_rfl) (by kernel_rfl) (fun k => (slices_IndexFunc_int64_int64_4.s k).pf) slices_IndexFunc_int64_int64_4.E (fun k => (EntsOK.cons (impl_isInst_2.sound k) EntsOK.nil)) (fun k => slices_IndexFunc_int64_int64_4.L (slices_IndexFunc_int64_int64_4.l0 k)) (fun k => ⟨rfl, trivial⟩) ⟨fun _ => rfl, trivial⟩ (fun k => ⟨⟨(slices_IndexFunc_int64_int64_4.L0 (slices_IndexFunc_int64_int64_4.l0 (k + 1))).l, rfl, fun x => slices_IndexFunc_int64_int64_4.r0 (slices_IndexFunc_int64_int64_4.l0 k) k x⟩, trivial⟩) slices_IndexFunc_int64_int64_4.eq
end
end Go.Proofs.Ytkfehogikjcgkaa.V
namespace Go.Proofs.Ytkfehogikjcgkaa.V
open Go
set_option linter.unusedVariables false
noncomputable section
/-! ### slices.ContainsFunc[[]int64,int64]: function 69 -/
abbrev slices_ContainsFunc_int64_int64_4.R := (((Bool × Unit) × Unit) × Unit)
def slices_ContainsFunc_int64_int64_4.f (k : Nat) (a0 : List Int) : Option slices_ContainsFunc_int64_int64_4.R := Option.bind (slices_IndexFunc_int64_int64_4.f k a0) fun r1 => some (((decide (0 ≤ r1.1.1.1), ()), ()), ())
def slices_ContainsFunc_int64_int64_4.s (k : Nat) : FS := ⟨[⟨false, [.lst (.int .i64)]⟩, ⟨false, [.fn 144 []]⟩], [], false, [⟨false, [.bool]⟩], [], [], fun x => slices_ContainsFunc_int64_int64_4.f k x.1.1.1⟩
def slices_ContainsFunc_int64_int64_4.E (k : Nat) : Ents := [(⟨123, [144]⟩, slices_IndexFunc_int64_int64_4.s k)]
def slices_ContainsFunc_int64_int64_4.L : List (LS slices_ContainsFunc_int64_int64_4.R) := []
def slices_ContainsFunc_int64_int64_4.c : Code := Try.f69.body.getD .skip
theorem slices_ContainsFunc_int64_int64_4.eq (k : Nat) (x) : (slices_ContainsFunc_int64_int64_4.s k).pf x = execF tab (slices_ContainsFunc_int64_int64_4.E k) Try.f69 slices_ContainsFunc_int64_int64_4.c (slices_ContainsFunc_int64_int64_4.s k) slices_ContainsFunc_int64_int64_4.L x := by kernel_rfl
theorem slices_ContainsFunc_int64_int64_4.sound : ∀ k, Sound Try.prog 69 (slices_ContainsFunc_int64_int64_4.s k) := sound_of mixed tab_ok (f := 69) (fn := Try.f69) (c := slices_ContainsFunc_int64_int64_4.c) (by kernel_rfl) (by kernel_rfl) (by kernel_rfl) ⟨[⟨false, [.lst (.int .i64)]⟩, ⟨false, [.fn 144 []]⟩], [], false, [⟨false, [.bool]⟩], [], []⟩ (by kernel_rfl) (by kernel_rfl) (fun k => (slices_ContainsFunc_int64_int64_4.s k).pf) slices_ContainsFunc_int64_int64_4.E (fun k => (EntsOK.cons (slices_IndexFunc_int64_int64_4.sound k) EntsOK.nil)) (fun k => slices_ContainsFunc_int64_int64_4.L) (fun k => trivial) trivial (fun k => trivial) slices_ContainsFunc_int64_int64_4.eq
end
end Go.Proofs.Ytkfehogikjcgkaa.V
namespace Go.Proofs.Ytkfehogikjcgkaa.V
open Go
set_option linter.unusedVariables false
noncomputable section
/-! ### impl.isWidth: function 145 -/
abbrev impl_isWidth.R := (((Bool × Unit) × Unit) × Unit)
def impl_isWidth.f (k : Nat) (a0 : tInstD) : Option impl_isWidth.R := bif decide (a0.1 = 24) then (bif decide (a0.1 = 24) then (some (((decide (a0.2.1 = 0), ()), ()), ())) else (bif decide (a0.1 = 23) then (some (((decide (a0.2.1 = 8), ()), ()), ())) else (Option.bind (impl_WidthOk.f k a0.2.1) fun r1 => some (((r1.1.1.1, ()), ()), ())))) else (bif decide (a0.1 = 25) then (some (((decide (a0.2.1 = 0), ()), ()), ())) else (bif decide (a0.1 = 23) then (some (((decide (a0.2.1 = 8), ()), ()), ())) else (Option.bind (impl_WidthOk.f k a0.2.1) fun r2 => some (((r2.1.1.1, ()), ()), ()))))
def impl_isWidth.s (k : Nat) : FS := ⟨[⟨true, [.int .i64, .int .i64, .int .i64, .int .i64, .int .i64, .int .i64, .lst (.int .i64)]⟩], [], false, [⟨false, [.bool]⟩], [], [], fun x => impl_isWidth.f k x.1.1⟩
def impl_isWidth.E (k : Nat) : Ents := [(⟨93, []⟩, impl_WidthOk.s k)]
def impl_isWidth.L : List (LS impl_isWidth.R) := []
def impl_isWidth.c : Code := Try.f145.body.getD .skip
theorem impl_isWidth.eq (k : Nat) (x) : (impl_isWidth.s k).pf x = execF tab (impl_isWidth.E k) Try.f145 impl_isWidth.c (impl_isWidth.s k) impl_isWidth.L x := by kernel_rfl
theorem impl_isWidth.sound : ∀ k, Sound Try.prog 145 (impl_isWidth.s k) := sound_of mixed tab_ok (f := 145) (fn := Try.f145) (c := impl_isWidth.c) (by kernel_rfl) (by kernel_rfl) (by kernel_rfl) ⟨[⟨true, [.int .i64, .int .i64, .int .i64, .int .i64, .int .i64, .int .i64, .lst (.int .i64)]⟩], [], false, [⟨false, [.bool]⟩], [], []⟩ (by kernel_rfl) (by kernel_rfl) (fun k => (impl_isWidth.s k).pf) impl_isWidth.E (fun k => (EntsOK.cons (impl_WidthOk.sound k) EntsOK.nil)) (fun k => impl_isWidth.L) (fun k => trivial) trivial (fun k => trivial) impl_isWidth.eq
end
end Go.Proofs.Ytkfehogikjcgkaa.V
namespace Go.Proofs.Ytkfehogikjcgkaa.V
open Go
set_option linter.unusedVariables false
noncomputable section
/-! ### impl.mask: function 175 -/
abbrev impl_mask.R := (((Int × Unit) × Unit) × Unit)
def impl_mask.f (k : Nat) (a0 : Int) : Option impl_mask.R := bif decide (0 ≤ a0) then (some (((IntKind.wrap .i64 ((V.shl .i64 1 a0) - 1), ()), ()), ())) else none
def impl_mask.s (k : Nat) : FS := ⟨[⟨false, [.int .i64]⟩], [], false, [⟨false, [.int .i64]⟩], [], [], fun x => impl_mask.f k x.1.1.1⟩
def impl_mask.E (k : Nat) : Ents := []
def impl_mask.L : List (LS impl_mask.R) := []
def impl_mask.c : Code := Try.f175.body.getD .skip
theorem impl_mask.eq (k : Nat) (x) : (impl_mask.s k).pf x = execF tab (impl_mask.E k) Try.f175 impl_mask.c (impl_mask.s k) impl_mask.L x := by kernel_rfl
theorem impl_mask.sound : ∀ k, Sound Try.prog 175 (impl_mask.s k) := sound_of mixed tab_ok (f := 175) (fn := Try.f175) (c := impl_mask.c) (by kernel_rfl) (by kernel_rfl) (by kernel_rfl) ⟨[⟨false, [.int .i64]⟩], [], false, [⟨false, [.int .i64]⟩], [], []⟩ (by kernel_rfl) (by kernel_rfl) (fun k => (impl_mask.s k).pf) impl_mask.E (fun k => EntsOK.nil) (fun k => impl_mask.L) (fun k => trivial) trivial (fun k => trivial) impl_mask.eq
end
end Go.Proofs.Ytkfehogikjcgkaa.V
namespace Go.Proofs.Ytkfehogikjcgkaa.V
open Go
set_option linter.unusedVariables false
noncomputable section
/-! ### impl.isValue: function 172 -/
abbrev impl_isValue.R := (((Bool × Unit) × Unit) × Unit)
def impl_isValue.f (k : Nat) (a0 : Int) (a1 : Int) : Option impl_isValue.R := Option.bind (impl_WidthOk.f k a0) fun r1 => bif r1.1.1.1 then (Option.bind (impl_mask.f k a0) fun r2 => Option.bind (impl_within.f k a1 0 r2.1.1.1) fun r3 => some (((r3.1.1.1, ()), ()), ())) else (some (((false, ()), ()), ()))
def impl_isValue.s (k : Nat) : FS := ⟨[⟨false, [.int .i64]⟩, ⟨false, [.int .i64]⟩], [], false, [⟨false, [.bool]⟩], [], [], fun x => impl_isValue.f k x.1.1.1 x.1.2.1.1⟩
def impl_isValue.E (k : Nat) : Ents := [(⟨93, []⟩, impl_WidthOk.s k), (⟨175, []⟩, impl_mask.s k), (⟨55, []⟩, impl_within.s k)]
def impl_isValue.L : List (LS impl_isValue.R) := []
def impl_isValue.c : Code := Try.f172.body.getD .skip
theorem impl_isValue.eq (k : Nat) (x) : (impl_isValue.s k).pf x = execF tab (impl_isValue.E k) Try.f172 impl_isValue.c (impl_isValue.s k) impl_isValue.L x := by kernel_rfl
theorem impl_isValue.sound : ∀ k, Sound Try.prog 172 (impl_isValue.s k) := sound_of mixed tab_ok (f := 172) (fn := Try.f172) (c := impl_isValue.c) (by kernel_rfl) (by kernel_rfl) (by kernel_rfl) ⟨[⟨false, [.int .i64]⟩, ⟨false, [.int .i64]⟩], [], false, [⟨false, [.bool]⟩], [], []⟩ (by kernel_rfl) (by kernel_rfl) (fun k => (impl_isValue.s k).pf) impl_isValue.E (fun k => (EntsOK.cons (impl_WidthOk.sound k) (EntsOK.cons (impl_mask.sound k) (EntsOK.cons (impl_within.sound k) EntsOK.nil)))) (fun k => impl_isValue.L) (fun k => trivial) trivial (fun k => trivial) impl_isValue.eq
end
end Go.Proofs.Ytkfehogikjcgkaa.V
namespace Go.Proofs.Ytkfehogikjcgkaa.V
open Go
set_option linter.unusedVariables false
noncomputable section
/-! ### impl.isImm: function 146 -/
abbrev impl_isImm.R := (((Bool × Unit) × Unit) × Unit)
def impl_isImm.f (k : Nat) (a0 : tInstD) (a1 : Int) : Option impl_isImm.R := bif decide (a0.1 = 21) then (Option.bind (impl_isValue.f k a0.2.1 a0.2.2.2.2.2.1) fun r1 => some (((r1.1.1.1, ()), ()), ())) else (bif decide (a0.1 = 26) then (Option.bind (impl_within.f k a0.2.2.2.2.2.1 0 (IntKind.wrap .i64 (a1 - 1))) fun r2 => some (((r2.1.1.1, ()), ()), ())) else (some (((decide (a0.2.2.2.2.2.1 = 0), ()), ()), ())))
def impl_isImm.s (k : Nat) : FS := ⟨[⟨true, [.int .i64, .int .i64, .int .i64, .int .i64, .int .i64, .int .i64, .lst (.int .i64)]⟩, ⟨false, [.int .i64]⟩], [], false, [⟨false, [.bool]⟩], [], [], fun x => impl_isImm.f k x.1.1 x.1.2.1.1⟩
def impl_isImm.E (k : Nat) : Ents := [(⟨172, []⟩, impl_isValue.s k), (⟨55, []⟩, impl_within.s k)]
def impl_isImm.L : List (LS impl_isImm.R) := []
def impl_isImm.c : Code := Try.f146.body.getD .skip
theorem impl_isImm.eq (k : Nat) (x) : (impl_isImm.s k).pf x = execF tab (impl_isImm.E k) Try.f146 impl_isImm.c (impl_isImm.s k) impl_isImm.L x := by kernel_rfl
theorem impl_isImm.sound : ∀ k, Sound Try.prog 146 (impl_isImm.s k) := sound_of mixed tab_ok (f := 146) (fn := Try.f146) (c := impl_isImm.c) (by kernel_rfl) (by kernel_rfl) (by kernel_rfl) ⟨[⟨true, [.int .i64, .int .i64, .int .i64, .int .i64, .int .i64, .int .i64, .lst (.int .i64)]⟩, ⟨false, [.int .i64]⟩], [], false, [⟨false, [.bool]⟩], [], []⟩ (by kernel_rfl) (by kernel_rfl) (fun k => (impl_isImm.s k).pf) impl_isImm.E (fun k => (EntsOK.cons (impl_isValue.sound k) (EntsOK.cons (impl_within.sound k) EntsOK.nil))) (fun k => impl_isImm.L) (fun k => trivial) trivial (fun k => trivial) impl_isImm.eq
end
end Go.Proofs.Ytkfehogikjcgkaa.V
namespace Go.Proofs.Ytkfehogikjcgkaa.V
open Go
set_option linter.unusedVariables false
noncomputable section
/-! ### impl.isInst: function 100 -/
abbrev impl_isInst.R := (((Bool × Unit) × Unit) × Unit)
def impl_isInst.f (k : Nat) (a0 : tInstD) (a1 : Int) (a2 : Int) : Option impl_isInst.R := Option.bind (impl_within.f k a0.1 1 27) fun r1 => bif !r1.1.1.1 then (some (((false, ()), ()), ())) else (bif decide (4 < ((List.length a0.2.2.2.2.2.2.1 : Nat) : Int)) then (some (((false, ()), ()), ())) else (bif decide (0 < ((List.length a0.2.2.2.2.2.2.1 : Nat) : Int)) then (bif !decide (a0.1 = 26) then (some (((false, ()), ()), ())) else (Option.bind (impl_OperandsOf.f k a0) fun r2 => Option.bind (slices_ContainsFunc_int64_int64_3.f k r2.2.1 a1) fun r3 => bif r3.1.1.1 then (some (((false, ()), ()), ())) else (bif decide (a0.1 = 26) then (bif (decide (0 ≤ 0)) && (decide (0 ≤ ((List.length [a0.2.2.1, a0.2.2.2.1, a0.2.2.2.2.1] : Nat) : Int))) then (Option.bind (slices_ContainsFunc_int64_int64_4.f k [a0.2.2.1, a0.2.2.2.1, a0.2.2.2.2.1]) fun r4 => bif r4.1.1.1 then (some (((false, ()), ()), ())) else (Option.bind (impl_isWidth.f k a0) fun r5 => bif r5.1.1.1 then (Option.bind (impl_isImm.f k a0 a2) fun r6 => some (((r6.1.1.1, ()), ()), ())) else (some (((false, ()), ()), ())))) else none) else (bif (decide (0 ≤ ((List.length r2.2.1 : Nat) : Int))) && (decide (((List.length r2.2.1 : Nat) : Int) ≤ ((List.length [a0.2.2.1, a0.2.2.2.1, a0.2.2.2.2.1] : Nat) : Int))) then (Option.bind (slices_ContainsFunc_int64_int64_4.f k (List.drop (Int.toNat ((List.length r2.2.1 : Nat) : Int)) [a0.2.2.1, a0.2.2.2.1, a0.2.2.2.2.1])) fun r7 => bif r7.1.1.1 then (some (((false, ()), ()), ())) else (Option.bind (impl_isWidth.f k a0) fun r8 => bif r8.1.1.1 then (Option.bind (impl_isImm.f k a0 a2) fun r9 => some (((r9.1.1.1, ()), ()), ())) else (some (((false, ()), ()), ())))) else none)))) else (Option.bind (impl_OperandsOf.f k a0) fun r10 => Option.bind (slices_ContainsFunc_int64_int64_3.f k r10.2.1 a1) fun r11 => bif r11.1.1.1 then (some (((false, ()), ()), ())) else (bif decide (a0.1 = 26) then (bif (decide (0 ≤ 0)) && (decide (0 ≤ ((List.length [a0.2.2.1, a0.2.2.2.1, a0.2.2.2.2.1] : Nat) : Int))) then (Option.bind (slices_ContainsFunc_int64_int64_4.f k [a0.2.2.1, a0.2.2.2.1, a0.2.2.2.2.1]) fun r12 => bif r12.1.1.1 then (some (((false, ()), ()), ())) else (Option.bind (impl_isWidth.f k a0) fun r13 => bif r13.1.1.1 then (Option.bind (impl_isImm.f k a0 a2) fun r14 => some (((r14.1.1.1, ()), ()), ())) else (some (((false, ()), ()), ())))) else none) else (bif (decide (0 ≤ ((List.length r10.2.1 : Nat) : Int))) && (decide (((List.length r10.2.1 : Nat) : Int) ≤ ((List.length [a0.2.2.1, a0.2.2.2.1, a0.2.2.2.2.1] : Nat) : Int))) then (Option.bind (slices_ContainsFunc_int64_int64_4.f k (List.drop (Int.toNat ((List.length r10.2.1 : Nat) : Int)) [a0.2.2.1, a0.2.2.2.1, a0.2.2.2.2.1])) fun r15 => bif r15.1.1.1 then (some (((false, ()), ()), ())) else (Option.bind (impl_isWidth.f k a0) fun r16 => bif r16.1.1.1 then (Option.bind (impl_isImm.f k a0 a2) fun r17 => some (((r17.1.1.1, ()), ()), ())) else (some (((false, ()), ()), ())))) else none)))))
def impl_isInst.s (k : Nat) : FS := ⟨[⟨true, [.int .i64, .int .i64, .int .i64, .int .i64, .int .i64, .int .i64, .lst (.int .i64)]⟩, ⟨false, [.int .i64]⟩, ⟨false, [.int .i64]⟩], [], false, [⟨false, [.bool]⟩], [], [], fun x => impl_isInst.f k x.1.1 x.1.2.1.1 x.1.2.2.1.1⟩
def impl_isInst.E (k : Nat) : Ents := [(⟨55, []⟩, impl_within.s k), (⟨142, []⟩, impl_OperandsOf.s k), (⟨69, [143]⟩, slices_ContainsFunc_int64_int64_3.s k), (⟨69, [144]⟩, slices_ContainsFunc_int64_int64_4.s k), (⟨145, []⟩, impl_isWidth.s k), (⟨146, []⟩, impl_isImm.s k)]
def impl_isInst.L : List (LS impl_isInst.R) := []
def impl_isInst.c : Code := Try.f100.body.getD .skip
theorem impl_isInst.eq (k : Nat) (x) : (impl_isInst.s k).pf x = execF tab (impl_isInst.E k) Try.f100 impl_isInst.c (impl_isInst.s k) impl_isInst.L x := by kernel_rfl
theorem impl_isInst.sound : ∀ k, Sound Try.prog 100 (impl_isInst.s k) := sound_of mixed tab_ok (f := 100) (fn := Try.f100) (c := impl_isInst.c) (by kernel_rfl) (by kernel_rfl) (by kernel_rfl) ⟨[⟨true, [.int .i64, .int .i64, .int .i64, .int .i64, .int .i64, .int .i64, .lst (.int .i64)]⟩, ⟨false, [.int .i64]⟩, ⟨false, [.int .i64]⟩], [], false, [⟨false, [.bool]⟩], [], []⟩ (by kernel_rfl) (by kernel_rfl) (fun k => (impl_isInst.s k).pf) impl_isInst.E (fun k => (EntsOK.cons (impl_within.sound k) (EntsOK.cons (impl_OperandsOf.sound k) (EntsOK.cons (slices_ContainsFunc_int64_int64_3.sound k) (EntsOK.cons (slices_ContainsFunc_int64_int64_4.sound k) (EntsOK.cons (impl_isWidth.sound k) (EntsOK.cons (impl_isImm.sound k) EntsOK.nil))))))) (fun k => impl_isInst.L) (fun k => trivial) trivial (fun k => trivial) impl_isInst.eq
end
end Go.Proofs.Ytkfehogikjcgkaa.V
namespace Go.Proofs.Ytkfehogikjcgkaa.V
open Go
set_option linter.unusedVariables false
noncomputable section
/-! ### impl.isFunc$3: function 99 -/
abbrev impl_isFunc_3.R := (((Bool × Unit) × Unit) × Unit)
def impl_isFunc_3.f (k : Nat) (a0 : tInstD) (a1 : Int) (a2 : Int) : Option impl_isFunc_3.R := Option.bind (impl_isInst.f k a0 a1 a2) fun r1 => some (((!r1.1.1.1, ()), ()), ())
def impl_isFunc_3.s (k : Nat) : FS := ⟨[⟨true, [.int .i64, .int .i64, .int .i64, .int .i64, .int .i64, .int .i64, .lst (.int .i64)]⟩, ⟨false, [.ptr 0 0]⟩, ⟨false, [.ptr 1 0]⟩], [(0, .cbox [.int .i64]), (1, .cbox [.int .i64])], false, [⟨false, [.bool]⟩], [], [], fun x => impl_isFunc_3.f k x.1.1 x.2.1.1 x.2.2.1.1⟩
def impl_isFunc_3.E (k : Nat) : Ents := [(⟨100, []⟩, impl_isInst.s k)]
def impl_isFunc_3.L : List (LS impl_isFunc_3.R) := []
def impl_isFunc_3.c : Code := Try.f99.body.getD .skip
theorem impl_isFunc_3.eq (k : Nat) (x) : (impl_isFunc_3.s k).pf x = execF tab (impl_isFunc_3.E k) Try.f99 impl_isFunc_3.c (impl_isFunc_3.s k) impl_isFunc_3.L x := by kernel_rfl
theorem impl_isFunc_3.sound : ∀ k, Sound Try.prog 99 (impl_isFunc_3.s k) := sound_of mixed tab_ok (f := 99) (fn := Try.f99) (c := impl_isFunc_3.c) (by kernel_rfl) (by kernel_rfl) (by kernel_rfl) ⟨[⟨true, [.int .i64, .int .i64, .int .i64, .int .i64, .int .i64, .int .i64, .lst (.int .i64)]⟩, ⟨false, [.ptr 0 0]⟩, ⟨false, [.ptr 1 0]⟩], [(0, .cbox [.int .i64]), (1, .cbox [.int .i64])], false, [⟨false, [.bool]⟩], [], []⟩ (by kernel_rfl) (by kernel_rfl) (fun k => (impl_isFunc_3.s k).pf) impl_isFunc_3.E (fun k => (EntsOK.cons (impl_isInst.sound k) EntsOK.nil)) (fun k => impl_isFunc_3.L) (fun k => trivial) trivial (fun k => trivial) impl_isFunc_3.eq
end
end Go.Proofs.Ytkfehogikjcgkaa.V
namespace Go.Proofs.Ytkfehogikjcgkaa.V
open Go
set_option linter.unusedVariables false
noncomputable section
/-! ### slices.IndexFunc[[]impl.Inst,impl.Inst]: function 141 -/
abbrev slices_IndexFunc_impl_Inst_impl_Inst.R := (((Int × Unit) × Unit) × Unit)
def slices_IndexFunc_impl_Inst_impl_Inst.l0_ (k : Nat) (l0 : (List tInstD) → Int → Int → Int → Int → Option slices_IndexFunc_impl_Inst_impl_Inst.R) (a0 : List tInstD) (a1 : Int) (a2 : Int) (a3 : Int) (a4 : Int) : Option slices_IndexFunc_impl_Inst_impl_Inst.R := bif decide (a2 < a1) then (bif (decide (0 ≤ a2)) && (decide (a2 < ((List.length a0 : Nat) : Int))) then (Option.bind (impl_isFunc_3.f k (List.getD a0 (Int.toNat a2) tInstZ) a3 a4) fun r1 => bif r1.1.1.1 then (some (((a2, ()), ()), ())) else (l0 a0 a1 (IntKind.wrap .i64 (a2 + 1)) a3 a4)) else none) else (some (((-1, ()), ()), ()))
def slices_IndexFunc_impl_Inst_impl_Inst.all : Nat → ((List tInstD) → Int → Int → Int → Int → Option slices_IndexFunc_impl_Inst_impl_Inst.R) × Unit
  | 0 => (fun _ _ _ _ _ => none, ())
  | k + 1 => (slices_IndexFunc_impl_Inst_impl_Inst.l0_ k (slices_IndexFunc_impl_Inst_impl_Inst.all k).1, ())
def slices_IndexFunc_impl_Inst_impl_Inst.l0 (k : Nat) : (List tInstD) → Int → Int → Int → Int → Option slices_IndexFunc_impl_Inst_impl_Inst.R := (slices_IndexFunc_impl_Inst_impl_Inst.all k).1
def slices_IndexFunc_impl_Inst_impl_Inst.f (k : Nat) (a0 : List tInstD) (a1 : Int) (a2 : Int) : Option slices_IndexFunc_impl_Inst_impl_Inst.R := slices_IndexFunc_impl_Inst_impl_Inst.l0 k a0 ((List.length a0 : Nat) : Int) 0 a1 a2
def slices_IndexFunc_impl_Inst_impl_Inst.s (k : Nat) : FS := ⟨[⟨false, [.lst tInst]⟩, ⟨false, [.fn 99 [(0, 0), (1, 0)]]⟩], [(0, .cbox [.int .i64]), (1, .cbox [.int .i64])], false, [⟨false, [.int .i64]⟩], [], [], fun x => slices_IndexFunc_impl_Inst_impl_Inst.f k x.1.1.1 x.2.1.1 x.2.2.1.1⟩
def slices_IndexFunc_impl_Inst_impl_Inst.E (k : Nat) : Ents := [(⟨99, []⟩, impl_isFunc_3.s k)]
def slices_IndexFunc_impl_Inst_impl_Inst.L0 (l : (List tInstD) → Int → Int → Int → Int → Option slices_IndexFunc_impl_Inst_impl_Inst.R) : LS slices_IndexFunc_impl_Inst_impl_Inst.R := ⟨[], [(0, ⟨false, [.lst tInst]⟩), (1, ⟨false, [.fn 99 [(0, 0), (1, 0)]]⟩), (7, ⟨false, [.int .i64]⟩), (8, ⟨false, [.int .i64]⟩)], [(0, .cbox [.int .i64]), (1, .cbox [.int .i64])], fun x => l x.1.1.1 x.1.2.2.1.1 x.1.2.2.2.1.1 x.2.1.1 x.2.2.1.1⟩
def slices_IndexFunc_impl_Inst_impl_Inst.L (l0 : (List tInstD) → Int → Int → Int → Int → Option slices_IndexFunc_impl_Inst_impl_Inst.R) : List (LS slices_IndexFunc_impl_Inst_impl_Inst.R) := [slices_IndexFunc_impl_Inst_impl_Inst.L0 l0]
def slices_IndexFunc_impl_Inst_impl_Inst.c : Code := Try.f141.body.getD .skip
theorem slices_IndexFunc_impl_Inst_impl_Inst.eq (k : Nat) (x) : (slices_IndexFunc_impl_Inst_impl_Inst.s k).pf x = execF tab (slices_IndexFunc_impl_Inst_impl_Inst.E k) Try.f141 slices_IndexFunc_impl_Inst_impl_Inst.c (slices_IndexFunc_impl_Inst_impl_Inst.s k) (slices_IndexFunc_impl_Inst_impl_Inst.L (slices_IndexFunc_impl_Inst_impl_Inst.l0 k)) x := by kernel_rfl
theorem slices_IndexFunc_impl_Inst_impl_Inst.r0 (l0 : (List tInstD) → Int → Int → Int → Int → Option slices_IndexFunc_impl_Inst_impl_Inst.R) (k : Nat) (x) : slices_IndexFunc_impl_Inst_impl_Inst.l0_ k l0 x.1.1.1 x.1.2.2.1.1 x.1.2.2.2.1.1 x.2.1.1 x.2.2.1.1 = roundOf tab (slices_IndexFunc_impl_Inst_impl_Inst.E k) (slices_IndexFunc_impl_Inst_impl_Inst.L l0) slices_IndexFunc_impl_Inst_impl_Inst.c (fin tab Try.f141 (slices_IndexFunc_impl_Inst_impl_Inst.s k)) 0 (slices_IndexFunc_impl_Inst_impl_Inst.L0 l0) x := by kernel_rfl
theorem slices_IndexFunc_impl_Inst_impl_Inst.sound : ∀ k, Sound Try.prog 141 (slices_IndexFunc_impl_Inst_impl_Inst.s k) := sound_of mixed tab_ok (f := 141) (fn := Try.f141) (c := slices_IndexFunc_impl_Inst_impl_Inst.c) (by kernel_rfl) (by kernel_rfl) (by kernel_rfl) ⟨[⟨false, [.lst tInst]⟩, ⟨false, [.fn 99 [(0, 0), (1, 0)]]⟩], [(0, .cbox [.int .i64]), (1, .cbox [.int .i64])], false, [⟨false, [.int .i64]⟩], [], []⟩ (by kernel_rfl) (by kernel_rfl) (fun k => (slices_IndexFunc_impl_Inst_impl_Inst.s k).pf) slices_IndexFunc_impl_Inst_impl_Inst.E (fun k => (EntsOK.cons (impl_isFunc_3.sound k) EntsOK.nil)) (fun k => slices_IndexFunc_impl_Inst_impl_Inst.L (slices_IndexFunc_impl_Inst_impl_Inst.l0 k)) (fun k => ⟨rfl, trivial⟩) ⟨fun _ => rfl, trivial⟩ (fun k => ⟨⟨(slices_IndexFunc_impl_Inst_impl_Inst.L0 (slices_IndexFunc_impl_Inst_impl_Inst.l0 (k + 1))).l, rfl, fun x => slices_IndexFunc_impl_Inst_impl_Inst.r0 (slices_IndexFunc_impl_Inst_impl_Inst.l0 k) k x⟩, trivial⟩) slices_IndexFunc_impl_Inst_impl_Inst.eq
end
end Go.Proofs.Ytkfehogikjcgkaa.V
namespace Go.Proofs.Ytkfehogikjcgkaa.V
open Go
set_option linter.unusedVariables false
noncomputable section
/-! ### slices.ContainsFunc[[]impl.Inst,impl.Inst]: function 98 -/
abbrev slices_ContainsFunc_impl_Inst_impl_Inst.R := (((Bool × Unit) × Unit) × Unit)
def slices_ContainsFunc_impl_Inst_impl_Inst.f (k : Nat) (a0 : List tInstD) (a1 : Int) (a2 : Int) : Option slices_ContainsFunc_impl_Inst_impl_Inst.R := Option.bind (slices_IndexFunc_impl_Inst_impl_Inst.f k a0 a1 a2) fun r1 => some (((decide (0 ≤ r1.1.1.1), ()), ()), ())
def slices_ContainsFunc_impl_Inst_impl_Inst.s (k : Nat) : FS := ⟨[⟨false, [.lst tInst]⟩, ⟨false, [.fn 99 [(0, 0), (1, 0)]]⟩], [(0, .cbox [.int .i64]), (1, .cbox [.int .i64])], false, [⟨false, [.bool]⟩], [], [], fun x => slices_ContainsFunc_impl_Inst_impl_Inst.f k x.1.1.1 x.2.1.1 x.2.2.1.1⟩
def slices_ContainsFunc_impl_Inst_impl_Inst.E (k : Nat) : Ents := [(⟨141, [99]⟩, slices_IndexFunc_impl_Inst_impl_Inst.s k)]
def slices_ContainsFunc_impl_Inst_impl_Inst.L : List (LS slices_ContainsFunc_impl_Inst_impl_Inst.R) := []
def slices_ContainsFunc_impl_Inst_impl_Inst.c : Code := Try.f98.body.getD .skip
theorem slices_ContainsFunc_impl_Inst_impl_Inst.eq (k : Nat) (x) : (slices_ContainsFunc_impl_Inst_impl_Inst.s k).pf x = execF tab (slices_ContainsFunc_impl_Inst_impl_Inst.E k) Try.f98 slices_ContainsFunc_impl_Inst_impl_Inst.c (slices_ContainsFunc_impl_Inst_impl_Inst.s k) slices_ContainsFunc_impl_Inst_impl_Inst.L x := by kernel_rfl
theorem slices_ContainsFunc_impl_Inst_impl_Inst.sound : ∀ k, Sound Try.prog 98 (slices_ContainsFunc_impl_Inst_impl_Inst.s k) := sound_of mixed tab_ok (f := 98) (fn := Try.f98) (c := slices_ContainsFunc_impl_Inst_impl_Inst.c) (by kernel_rfl) (by kernel_rfl) (by kernel_rfl) ⟨[⟨false, [.lst tInst]⟩, ⟨false, [.fn 99 [(0, 0), (1, 0)]]⟩], [(0, .cbox [.int .i64]), (1, .cbox [.int .i64])], false, [⟨false, [.bool]⟩], [], []⟩ (by kernel_rfl) (by kernel_rfl) (fun k => (slices_ContainsFunc_impl_Inst_impl_Inst.s k).pf) slices_ContainsFunc_impl_Inst_impl_Inst.E (fun k => (EntsOK.cons (slices_IndexFunc_impl_Inst_impl_Inst.sound k) EntsOK.nil)) (fun k => slices_ContainsFunc_impl_Inst_impl_Inst.L) (fun k => trivial) trivial (fun k => trivial) slices_ContainsFunc_impl_Inst_impl_Inst.eq
end
end Go.Proofs.Ytkfehogikjcgkaa.V
namespace Go.Proofs.Ytkfehogikjcgkaa.V
open Go
set_option linter.unusedVariables false
noncomputable section
/-! ### impl.isTerm$1: function 147 -/
abbrev impl_isTerm_1.R := (((Bool × Unit) × Unit) × Unit)
def impl_isTerm_1.f (k : Nat) (a0 : Int) (a1 : tFuncD) : Option impl_isTerm_1.R := Option.bind (impl_within.f k a0 0 (IntKind.wrap .i64 (((List.length a1.2.2.1 : Nat) : Int) - 1))) fun r1 => some (((r1.1.1.1, ()), ()), ())
def impl_isTerm_1.s (k : Nat) : FS := ⟨[⟨false, [.int .i64]⟩, ⟨false, [.ptr 0 0]⟩], [(0, .cbox [.lst (.int .i64), .int .i64, .lst tBlock])], false, [⟨false, [.bool]⟩], [], [], fun x => impl_isTerm_1.f k x.1.1.1 x.2.1⟩
def impl_isTerm_1.E (k : Nat) : Ents := [(⟨55, []⟩, impl_within.s k)]
def impl_isTerm_1.L : List (LS impl_isTerm_1.R) := []
def impl_isTerm_1.c : Code := Try.f147.body.getD .skip
theorem impl_isTerm_1.eq (k : Nat) (x) : (impl_isTerm_1.s k).pf x = execF tab (impl_isTerm_1.E k) Try.f147 impl_isTerm_1.c (impl_isTerm_1.s k) impl_isTerm_1.L x := by kernel_rfl
theorem impl_isTerm_1.sound : ∀ k, Sound Try.prog 147 (impl_isTerm_1.s k) := sound_of mixed tab_ok (f := 147) (fn := Try.f147) (c := impl_isTerm_1.c) (by kernel_rfl) (by kernel_rfl) (by kernel_rfl) ⟨[⟨false, [.int .i64]⟩, ⟨false, [.ptr 0 0]⟩], [(0, .cbox [.lst (.int .i64), .int .i64, .lst tBlock])], false, [⟨false, [.bool]⟩], [], []⟩ (by kernel_rfl) (by kernel_rfl) (fun k => (impl_isTerm_1.s k).pf) impl_isTerm_1.E (fun k => (EntsOK.cons (impl_within.sound k) EntsOK.nil)) (fun k => impl_isTerm_1.L) (fun k => trivial) trivial (fun k => trivial) impl_isTerm_1.eq
end
end Go.Proofs.Ytkfehogikjcgkaa.V
namespace Go.Proofs.Ytkfehogikjcgkaa.V
open Go
set_option linter.unusedVariables false
noncomputable section
/-! ### impl.isTerm: function 101 -/
abbrev impl_isTerm.R := (((Bool × Unit) × Unit) × Unit)
def impl_isTerm.f (k : Nat) (a0 : tFuncD) (a1 : tTermD) (a2 : Int) : Option impl_isTerm.R := bif decide (a1.1 = 1) then (Option.bind (impl_within.f k a1.2.1 0 (IntKind.wrap .i64 (a2 - 1))) fun r1 => bif r1.1.1.1 then (bif decide (a1.2.2.1 = 0) then (some (((decide (a1.2.2.2.1 = 0), ()), ()), ())) else (some (((false, ()), ()), ()))) else (some (((false, ()), ()), ()))) else (bif decide (a1.1 = 2) then (bif decide (a1.2.1 = 0) then (Option.bind (impl_isTerm_1.f k a1.2.2.1 a0) fun r2 => bif r2.1.1.1 then (some (((decide (a1.2.2.2.1 = 0), ()), ()), ())) else (some (((false, ()), ()), ()))) else (some (((false, ()), ()), ()))) else (bif decide (a1.1 = 3) then (Option.bind (impl_within.f k a1.2.1 0 (IntKind.wrap .i64 (a2 - 1))) fun r3 => bif r3.1.1.1 then (Option.bind (impl_isTerm_1.f k a1.2.2.1 a0) fun r4 => bif r4.1.1.1 then (Option.bind (impl_isTerm_1.f k a1.2.2.2.1 a0) fun r5 => bif r5.1.1.1 then (some (((!decide (a1.2.2.1 = a1.2.2.2.1), ()), ()), ())) else (some (((false, ()), ()), ()))) else (some (((false, ()), ()), ()))) else (some (((false, ()), ()), ()))) else (bif decide (a1.1 = 4) then (bif decide (a1.2.1 = 0) then (bif decide (a1.2.2.1 = 0) then (some (((decide (a1.2.2.2.1 = 0), ()), ()), ())) else (some (((false, ()), ()), ()))) else (some (((false, ()), ()), ()))) else (some (((false, ()), ()), ())))))
def impl_isTerm.s (k : Nat) : FS := ⟨[⟨true, [.lst (.int .i64), .int .i64, .lst tBlock]⟩, ⟨true, [.int .i64, .int .i64, .int .i64, .int .i64]⟩, ⟨false, [.int .i64]⟩], [], false, [⟨false, [.bool]⟩], [], [], fun x => impl_isTerm.f k x.1.1 x.1.2.1 x.1.2.2.1.1⟩
def impl_isTerm.E (k : Nat) : Ents := [(⟨55, []⟩, impl_within.s k), (⟨147, []⟩, impl_isTerm_1.s k)]
def impl_isTerm.L : List (LS impl_isTerm.R) := []
def impl_isTerm.c : Code := Try.f101.body.getD .skip
theorem impl_isTerm.eq (k : Nat) (x) : (impl_isTerm.s k).pf x = execF tab (impl_isTerm.E k) Try.f101 impl_isTerm.c (impl_isTerm.s k) impl_isTerm.L x := by kernel_rfl
theorem impl_isTerm.sound : ∀ k, Sound Try.prog 101 (impl_isTerm.s k) := sound_of mixed tab_ok (f := 101) (fn := Try.f101) (c := impl_isTerm.c) (by kernel_rfl) (by kernel_rfl) (by kernel_rfl) ⟨[⟨true, [.lst (.int .i64), .int .i64, .lst tBlock]⟩, ⟨true, [.int .i64, .int .i64, .int .i64, .int .i64]⟩, ⟨false, [.int .i64]⟩], [], false, [⟨false, [.bool]⟩], [], []⟩ (by kernel_rfl) (by kernel_rfl) (fun k => (impl_isTerm.s k).pf) impl_isTerm.E (fun k => (EntsOK.cons (impl_within.sound k) (EntsOK.cons (impl_isTerm_1.sound k) EntsOK.nil))) (fun k => impl_isTerm.L) (fun k => trivial) trivial (fun k => trivial) impl_isTerm.eq
end
end Go.Proofs.Ytkfehogikjcgkaa.V
namespace Go.Proofs.Ytkfehogikjcgkaa.V
open Go
set_option linter.unusedVariables false
noncomputable section
/-! ### impl.isFunc: function 58 -/
abbrev impl_isFunc.R := (((Bool × Unit) × Unit) × Unit)
def impl_isFunc.l0_ (k : Nat) (l0 : (List tBlockD) → Int → Int → tFuncD → Int → Int → Option impl_isFunc.R) (a0 : List tBlockD) (a1 : Int) (a2 : Int) (a3 : tFuncD) (a4 : Int) (a5 : Int) : Option impl_isFunc.R := bif decide (a2 < a1) then (bif (decide (0 ≤ a2)) && (decide (a2 < ((List.length a0 : Nat) : Int))) then (Option.bind (slices_ContainsFunc_impl_Phi_impl_Phi.f k ((List.getD a0 (Int.toNat a2) tBlockZ).1) a5) fun r1 => bif r1.1.1.1 then (some (((false, ()), ()), ())) else (Option.bind (slices_ContainsFunc_impl_Inst_impl_Inst.f k ((List.getD a0 (Int.toNat a2) tBlockZ).2.1) a5 a4) fun r2 => bif r2.1.1.1 then (some (((false, ()), ()), ())) else (Option.bind (impl_isTerm.f k a3 ((List.getD a0 (Int.toNat a2) tBlockZ).2.2) a5) fun r3 => bif !r3.1.1.1 then (some (((false, ()), ()), ())) else (l0 a0 a1 (IntKind.wrap .i64 (a2 + 1)) a3 a4 a5)))) else none) else (some (((true, ()), ()), ()))
def impl_isFunc.all : Nat → ((List tBlockD) → Int → Int → tFuncD → Int → Int → Option impl_isFunc.R) × Unit
  | 0 => (fun _ _ _ _ _ _ => none, ())
  | k + 1 => (impl_isFunc.l0_ k (impl_isFunc.all k).1, ())
def impl_isFunc.l0 (k : Nat) : (List tBlockD) → Int → Int → tFuncD → Int → Int → Option impl_isFunc.R := (impl_isFunc.all k).1
def impl_isFunc.f (k : Nat) (a0 : tFuncD) (a1 : Int) : Option impl_isFunc.R := bif decide (4 < ((List.length a0.1 : Nat) : Int)) then (some (((false, ()), ()), ())) else (Option.bind (impl_WidthOk.f k a0.2.1) fun r1 => bif !r1.1.1.1 then (some (((false, ()), ()), ())) else (Option.bind (impl_within.f k ((List.length a0.2.2.1 : Nat) : Int) 1 10) fun r2 => bif !r2.1.1.1 then (some (((false, ()), ()), ())) else (Option.bind (slices_ContainsFunc_int64_int64.f k a0.1) fun r3 => bif r3.1.1.1 then (some (((false, ()), ()), ())) else (Option.bind (impl_CountOf.f k a0) fun r4 => bif decide (60 < r4.1.1.1) then (some (((false, ()), ()), ())) else (impl_isFunc.l0 k a0.2.2.1 ((List.length a0.2.2.1 : Nat) : Int) 0 a0 a1 r4.1.1.1)))))
def impl_isFunc.s (k : Nat) : FS := ⟨[⟨true, [.lst (.int .i64), .int .i64, .lst tBlock]⟩, ⟨false, [.int .i64]⟩], [], false, [⟨false, [.bool]⟩], [], [], fun x => impl_isFunc.f k x.1.1 x.1.2.1.1⟩
def impl_isFunc.E (k : Nat) : Ents := [(⟨93, []⟩, impl_WidthOk.s k), (⟨55, []⟩, impl_within.s k), (⟨69, [94]⟩, slices_ContainsFunc_int64_int64.s k), (⟨68, []⟩, impl_CountOf.s k), (⟨95, [96]⟩, slices_ContainsFunc_impl_Phi_impl_Phi.s k), (⟨98, [99]⟩, slices_ContainsFunc_impl_Inst_impl_Inst.s k), (⟨101, []⟩, impl_isTerm.s k)]
def impl_isFunc.L0 (l : (List tBlockD) → Int → Int → tFuncD → Int → Int → Option impl_isFunc.R) : LS impl_isFunc.R := ⟨[], [(2, ⟨false, [.ptr 100000 0]⟩), (3, ⟨false, [.ptr 100001 0]⟩), (5, ⟨false, [.ptr 100002 0]⟩), (35, ⟨false, [.lst tBlock]⟩), (36, ⟨false, [.int .i64]⟩), (37, ⟨false, [.int .i64]⟩)], [(100000, .box [.lst (.int .i64), .int .i64, .lst tBlock]), (100001, .box [.int .i64]), (100002, .box [.int .i64])], fun x => l x.1.2.2.2.1.1 x.1.2.2.2.2.1.1 x.1.2.2.2.2.2.1.1 x.2.1 x.2.2.1.1 x.2.2.2.1.1⟩
def impl_isFunc.L (l0 : (List tBlockD) → Int → Int → tFuncD → Int → Int → Option impl_isFunc.R) : List (LS impl_isFunc.R) := [impl_isFunc.L0 l0]
def impl_isFunc.c : Code := Try.f58.body.getD .skip
theorem impl_isFunc.eq (k : Nat) (x) : (impl_isFunc.s k).pf x = execF tab (impl_isFunc.E k) Try.f58 impl_isFunc.c (impl_isFunc.s k) (impl_isFunc.L (impl_isFunc.l0 k)) x := by kernel_rfl
theorem impl_isFunc.r0 (l0 : (List tBlockD) → Int → Int → tFuncD → Int → Int → Option impl_isFunc.R) (k : Nat) (x) : impl_isFunc.l0_ k l0 x.1.2.2.2.1.1 x.1.2.2.2.2.1.1 x.1.2.2.2.2.2.1.1 x.2.1 x.2.2.1.1 x.2.2.2.1.1 = roundOf tab (impl_isFunc.E k) (impl_isFunc.L l0) impl_isFunc.c (fin tab Try.f58 (impl_isFunc.s k)) 0 (impl_isFunc.L0 l0) x := by kernel_rfl
theorem impl_isFunc.sound : ∀ k, Sound Try.prog 58 (impl_isFunc.s k) := sound_of mixed tab_ok (f := 58) (fn := Try.f58) (c := impl_isFunc.c) (by kernel_rfl) (by kernel_rfl) (by kernel_rfl) ⟨[⟨true, [.lst (.int .i64), .int .i64, .lst tBlock]⟩, ⟨false, [.int .i64]⟩], [], false, [⟨false, [.bool]⟩], [], []⟩ (by kernel_rfl) (by kernel_rfl) (fun k => (impl_isFunc.s k).pf) impl_isFunc.E (fun k => (EntsOK.cons (impl_WidthOk.sound k) (EntsOK.cons (impl_within.sound k) (EntsOK.cons (slices_ContainsFunc_int64_int64.sound k) (EntsOK.cons (impl_CountOf.sound k) (EntsOK.cons (slices_ContainsFunc_impl_Phi_impl_Phi.sound k) (EntsOK.cons (slices_ContainsFunc_impl_Inst_impl_Inst.sound k) (EntsOK.cons (impl_isTerm.sound k) EntsOK.nil)))))))) (fun k => impl_isFunc.L (impl_isFunc.l0 k)) (fun k => ⟨rfl, trivial⟩) ⟨fun _ => rfl, trivial⟩ (fun k => ⟨⟨(impl_isFunc.L0 (impl_isFunc.l0 (k + 1))).l, rfl, fun x => impl_isFunc.r0 (impl_isFunc.l0 k) k x⟩, trivial⟩) impl_isFunc.eq
end
end Go.Proofs.Ytkfehogikjcgkaa.V
namespace Go.Proofs.Ytkfehogikjcgkaa.V
open Go
set_option linter.unusedVariables false
noncomputable section
/-! ### impl.ShapeOk$1: function 57 -/
abbrev impl_ShapeOk_1.R := (((Bool × Unit) × Unit) × Unit)
def impl_ShapeOk_1.f (k : Nat) (a0 : tFuncD) (a1 : Int) : Option impl_ShapeOk_1.R := Option.bind (impl_isFunc.f k a0 a1) fun r1 => some (((!r1.1.1.1, ()), ()), ())
def impl_ShapeOk_1.s (k : Nat) : FS := ⟨[⟨true, [.lst (.int .i64), .int .i64, .lst tBlock]⟩, ⟨false, [.ptr 0 0]⟩], [(0, .cbox [.int .i64])], false, [⟨false, [.bool]⟩], [], [], fun x => impl_ShapeOk_1.f k x.1.1 x.2.1.1⟩
def impl_ShapeOk_1.E (k : Nat) : Ents := [(⟨58, []⟩, impl_isFunc.s k)]
def impl_ShapeOk_1.L : List (LS impl_ShapeOk_1.R) := []
def impl_ShapeOk_1.c : Code := Try.f57.body.getD .skip
theorem impl_ShapeOk_1.eq (k : Nat) (x) : (impl_ShapeOk_1.s k).pf x = execF tab (impl_ShapeOk_1.E k) Try.f57 impl_ShapeOk_1.c (impl_ShapeOk_1.s k) impl_ShapeOk_1.L x := by kernel_rfl
theorem impl_ShapeOk_1.sound : ∀ k, Sound Try.prog 57 (impl_ShapeOk_1.s k) := sound_of mixed tab_ok (f := 57) (fn := Try.f57) (c := impl_ShapeOk_1.c) (by kernel_rfl) (by kernel_rfl) (by kernel_rfl) ⟨[⟨true, [.lst (.int .i64), .int .i64, .lst tBlock]⟩, ⟨false, [.ptr 0 0]⟩], [(0, .cbox [.int .i64])], false, [⟨false, [.bool]⟩], [], []⟩ (by kernel_rfl) (by kernel_rfl) (fun k => (impl_ShapeOk_1.s k).pf) impl_ShapeOk_1.E (fun k => (EntsOK.cons (impl_isFunc.sound k) EntsOK.nil)) (fun k => impl_ShapeOk_1.L) (fun k => trivial) trivial (fun k => trivial) impl_ShapeOk_1.eq
end
end Go.Proofs.Ytkfehogikjcgkaa.V
namespace Go.Proofs.Ytkfehogikjcgkaa.V
open Go
set_option linter.unusedVariables false
noncomputable section
/-! ### slices.IndexFunc[[]impl.Func,impl.Func]: function 92 -/
abbrev slices_IndexFunc_impl_Func_impl_Func.R := (((Int × Unit) × Unit) × Unit)
def slices_IndexFunc_impl_Func_impl_Func.l0_ (k : Nat) (l0 : (List tFuncD) → Int → Int → Int → Option slices_IndexFunc_impl_Func_impl_Func.R) (a0 : List tFuncD) (a1 : Int) (a2 : Int) (a3 : Int) : Option slices_IndexFunc_impl_Func_impl_Func.R := bif decide (a2 < a1) then (bif (decide (0 ≤ a2)) && (decide (a2 < ((List.length a0 : Nat) : Int))) then (Option.bind (impl_ShapeOk_1.f k (List.getD a0 (Int.toNat a2) tFuncZ) a3) fun r1 => bif r1.1.1.1 then (some (((a2, ()), ()), ())) else (l0 a0 a1 (IntKind.wrap .i64 (a2 + 1)) a3)) else none) else (some (((-1, ()), ()), ()))
def slices_IndexFunc_impl_Func_impl_Func.all : Nat → ((List tFuncD) → Int → Int → Int → Option slices_IndexFunc_impl_Func_impl_Func.R) × Unit
  | 0 => (fun _ _ _ _ => none, ())
  | k + 1 => (slices_IndexFunc_impl_Func_impl_Func.l0_ k (slices_IndexFunc_impl_Func_impl_Func.all k).1, ())
def slices_IndexFunc_impl_Func_impl_Func.l0 (k : Nat) : (List tFuncD) → Int → Int → Int → Option slices_IndexFunc_impl_Func_impl_Func.R := (slices_IndexFunc_impl_Func_impl_Func.all k).1
def slices_IndexFunc_impl_Func_impl_Func.f (k : Nat) (a0 : List tFuncD) (a1 : Int) : Option slices_IndexFunc_impl_Func_impl_Func.R := slices_IndexFunc_impl_Func_impl_Func.l0 k a0 ((List.length a0 : Nat) : Int) 0 a1
def slices_IndexFunc_impl_Func_impl_Func.s (k : Nat) : FS := ⟨[⟨false, [.lst tFunc]⟩, ⟨false, [.fn 57 [(0, 0)]]⟩], [(0, .cbox [.int .i64])], false, [⟨false, [.int .i64]⟩], [], [], fun x => slices_IndexFunc_impl_Func_impl_Func.f k x.1.1.1 x.2.1.1⟩
def slices_IndexFunc_impl_Func_impl_Func.E (k : Nat) : Ents := [(⟨57, []⟩, impl_ShapeOk_1.s k)]
def slices_IndexFunc_impl_Func_impl_Func.L0 (l : (List tFuncD) → Int → Int → Int → Option slices_IndexFunc_impl_Func_impl_Func.R) : LS slices_IndexFunc_impl_Func_impl_Func.R := ⟨[], [(0, ⟨false, [.lst tFunc]⟩), (1, ⟨false, [.fn 57 [(0, 0)]]⟩), (7, ⟨false, [.int .i64]⟩), (8, ⟨false, [.int .i64]⟩)], [(0, .cbox [.int .i64])], fun x => l x.1.1.1 x.1.2.2.1.1 x.1.2.2.2.1.1 x.2.1.1⟩
def slices_IndexFunc_impl_Func_impl_Func.L (l0 : (List tFuncD) → Int → Int → Int → Option slices_IndexFunc_impl_Func_impl_Func.R) : List (LS slices_IndexFunc_impl_Func_impl_Func.R) := [slices_IndexFunc_impl_Func_impl_Func.L0 l0]
def slices_IndexFunc_impl_Func_impl_Func.c : Code := Try.f92.body.getD .skip
theorem slices_IndexFunc_impl_Func_impl_Func.eq (k : Nat) (x) : (slices_IndexFunc_impl_Func_impl_Func.s k).pf x = execF tab (slices_IndexFunc_impl_Func_impl_Func.E k) Try.f92 slices_IndexFunc_impl_Func_impl_Func.c (slices_IndexFunc_impl_Func_impl_Func.s k) (slices_IndexFunc_impl_Func_impl_Func.L (slices_IndexFunc_impl_Func_impl_Func.l0 k)) x := by kernel_rfl
theorem slices_IndexFunc_impl_Func_impl_Func.r0 (l0 : (List tFuncD) → Int → Int → Int → Option slices_IndexFunc_impl_Func_impl_Func.R) (k : Nat) (x) : slices_IndexFunc_impl_Func_impl_Func.l0_ k l0 x.1.1.1 x.1.2.2.1.1 x.1.2.2.2.1.1 x.2.1.1 = roundOf tab (slices_IndexFunc_impl_Func_impl_Func.E k) (slices_IndexFunc_impl_Func_impl_Func.L l0) slices_IndexFunc_impl_Func_impl_Func.c (fin tab Try.f92 (slices_IndexFunc_impl_Func_impl_Func.s k)) 0 (slices_IndexFunc_impl_Func_impl_Func.L0 l0) x := by kernel_rfl
theorem slices_IndexFunc_impl_Func_impl_Func.sound : ∀ k, Sound Try.prog 92 (slices_IndexFunc_impl_Func_impl_Func.s k) := sound_of mixed tab_ok (f := 92) (fn := Try.f92) (c := slices_IndexFunc_impl_Func_impl_Func.c) (by kernel_rfl) (by kernel_rfl) (by kernel_rfl) ⟨[⟨false, [.lst tFunc]⟩, ⟨false, [.fn 57 [(0, 0)]]⟩], [(0, .cbox [.int .i64])], false, [⟨false, [.int .i64]⟩], [], []⟩ (by kernel_rfl) (by kernel_rfl) (fun k => (slices_IndexFunc_impl_Func_impl_Func.s k).pf) slices_IndexFunc_impl_Func_impl_Func.E (fun k => (EntsOK.cons (impl_ShapeOk_1.sound k) EntsOK.nil)) (fun k => slices_IndexFunc_impl_Func_impl_Func.L (slices_IndexFunc_impl_Func_impl_Func.l0 k)) (fun k => ⟨rfl, trivial⟩) ⟨fun _ => rfl, trivial⟩ (fun k => ⟨⟨(slices_IndexFunc_impl_Func_impl_Func.L0 (slices_IndexFunc_impl_Func_impl_Func.l0 (k + 1))).l, rfl, fun x => slices_IndexFunc_impl_Func_impl_Func.r0 (slices_IndexFunc_impl_Func_impl_Func.l0 k) k x⟩, trivial⟩) slices_IndexFunc_impl_Func_impl_Func.eq
end
end Go.Proofs.Ytkfehogikjcgkaa.V
namespace Go.Proofs.Ytkfehogikjcgkaa.V
open Go
set_option linter.unusedVariables false
noncomputable section
/-! ### slices.ContainsFunc[[]impl.Func,impl.Func]: function 56 -/
abbrev slices_ContainsFunc_impl_Func_impl_Func.R := (((Bool × Unit) × Unit) × Unit)
def slices_ContainsFunc_impl_Func_impl_Func.f (k : Nat) (a0 : List tFuncD) (a1 : Int) : Option slices_ContainsFunc_impl_Func_impl_Func.R := Option.bind (slices_IndexFunc_impl_Func_impl_Func.f k a0 a1) fun r1 => some (((decide (0 ≤ r1.1.1.1), ()), ()), ())
def slices_ContainsFunc_impl_Func_impl_Func.s (k : Nat) : FS := ⟨[⟨false, [.lst tFunc]⟩, ⟨false, [.fn 57 [(0, 0)]]⟩], [(0, .cbox [.int .i64])], false, [⟨false, [.bool]⟩], [], [], fun x => slices_ContainsFunc_impl_Func_impl_Func.f k x.1.1.1 x.2.1.1⟩
def slices_ContainsFunc_impl_Func_impl_Func.E (k : Nat) : Ents := [(⟨92, [57]⟩, slices_IndexFunc_impl_Func_impl_Func.s k)]
def slices_ContainsFunc_impl_Func_impl_Func.L : List (LS slices_ContainsFunc_impl_Func_impl_Func.R) := []
def slices_ContainsFunc_impl_Func_impl_Func.c : Code := Try.f56.body.getD .skip
theorem slices_ContainsFunc_impl_Func_impl_Func.eq (k : Nat) (x) : (slices_ContainsFunc_impl_Func_impl_Func.s k).pf x = execF tab (slices_ContainsFunc_impl_Func_impl_Func.E k) Try.f56 slices_ContainsFunc_impl_Func_impl_Func.c (slices_ContainsFunc_impl_Func_impl_Func.s k) slices_ContainsFunc_impl_Func_impl_Func.L x := by kernel_rfl
theorem slices_ContainsFunc_impl_Func_impl_Func.sound : ∀ k, Sound Try.prog 56 (slices_ContainsFunc_impl_Func_impl_Func.s k) := sound_of mixed tab_ok (f := 56) (fn := Try.f56) (c := slices_ContainsFunc_impl_Func_impl_Func.c) (by kernel_rfl) (by kernel_rfl) (by kernel_rfl) ⟨[⟨false, [.lst tFunc]⟩, ⟨false, [.fn 57 [(0, 0)]]⟩], [(0, .cbox [.int .i64])], false, [⟨false, [.bool]⟩], [], []⟩ (by kernel_rfl) (by kernel_rfl) (fun k => (slices_ContainsFunc_impl_Func_impl_Func.s k).pf) slices_ContainsFunc_impl_Func_impl_Func.E (fun k => (EntsOK.cons (slices_IndexFunc_impl_Func_impl_Func.sound k) EntsOK.nil)) (fun k => slices_ContainsFunc_impl_Func_impl_Func.L) (fun k => trivial) trivial (fun k => trivial) slices_ContainsFunc_impl_Func_impl_Func.eq
end
end Go.Proofs.Ytkfehogikjcgkaa.V
namespace Go.Proofs.Ytkfehogikjcgkaa.V
open Go
set_option linter.unusedVariables false
noncomputable section
/-! ### impl.ShapeOk: function 26 -/
abbrev impl_ShapeOk.R := (((Bool × Unit) × Unit) × Unit)
def impl_ShapeOk.f (k : Nat) (a0 : tModuleD) : Option impl_ShapeOk.R := Option.bind (impl_within.f k ((List.length a0.1 : Nat) : Int) 1 3) fun r1 => bif r1.1.1.1 then (Option.bind (slices_ContainsFunc_impl_Func_impl_Func.f k a0.1 ((List.length a0.1 : Nat) : Int)) fun r2 => some (((!r2.1.1.1, ()), ()), ())) else (some (((false, ()), ()), ()))
def impl_ShapeOk.s (k : Nat) : FS := ⟨[⟨true, [.lst tFunc]⟩], [], false, [⟨false, [.bool]⟩], [], [], fun x => impl_ShapeOk.f k x.1.1⟩
def impl_ShapeOk.E (k : Nat) : Ents := [(⟨55, []⟩, impl_within.s k), (⟨56, [57]⟩, slices_ContainsFunc_impl_Func_impl_Func.s k)]
def impl_ShapeOk.L : List (LS impl_ShapeOk.R) := []
def impl_ShapeOk.c : Code := Try.f26.body.getD .skip
theorem impl_ShapeOk.eq (k : Nat) (x) : (impl_ShapeOk.s k).pf x = execF tab (impl_ShapeOk.E k) Try.f26 impl_ShapeOk.c (impl_ShapeOk.s k) impl_ShapeOk.L x := by kernel_rfl
theorem impl_ShapeOk.sound : ∀ k, Sound Try.prog 26 (impl_ShapeOk.s k) := sound_of mixed tab_ok (f := 26) (fn := Try.f26) (c := impl_ShapeOk.c) (by kernel_rfl) (by kernel_rfl) (by kernel_rfl) ⟨[⟨true, [.lst tFunc]⟩], [], false, [⟨false, [.bool]⟩], [], []⟩ (by kernel_rfl) (by kernel_rfl) (fun k => (impl_ShapeOk.s k).pf) impl_ShapeOk.E (fun k => (EntsOK.cons (impl_within.sound k) (EntsOK.cons (slices_ContainsFunc_impl_Func_impl_Func.sound k) EntsOK.nil))) (fun k => impl_ShapeOk.L) (fun k => trivial) trivial (fun k => trivial) impl_ShapeOk.eq
end
end Go.Proofs.Ytkfehogikjcgkaa.V
namespace Go.Proofs.Ytkfehogikjcgkaa.V
open Go
set_option linter.unusedVariables false
noncomputable section
/-! ### impl.VarOf: function 149 -/
abbrev impl_VarOf.R := (((ByteArray × Unit) × Unit) × Unit)
def impl_VarOf.l0_ (k : Nat) (l0 : Int → (List Int) → Option impl_VarOf.R) (a0 : Int) (a1 : List Int) : Option impl_VarOf.R := bif decide (127 < a0) then (bif decide ((List.length a1 + List.length [IntKind.wrap .u8 (bor .i64 (band .i64 a0 127) 128)]) * 1 ≤ 140737488355328) then (bif decide (0 ≤ 7) then (l0 (V.shr .i64 a0 7) (a1 ++ [IntKind.wrap .u8 (bor .i64 (band .i64 a0 127) 128)])) else none) else none) else (bif decide ((List.length a1 + List.length [IntKind.wrap .u8 a0]) * 1 ≤ 140737488355328) then (some (((strOf (a1 ++ [IntKind.wrap .u8 a0]), ()), ()), ())) else none)
def impl_VarOf.all : Nat → (Int → (List Int) → Option impl_VarOf.R) × Unit
  | 0 => (fun _ _ => none, ())
  | k + 1 => (impl_VarOf.l0_ k (impl_VarOf.all k).1, ())
def impl_VarOf.l0 (k : Nat) : Int → (List Int) → Option impl_VarOf.R := (impl_VarOf.all k).1
def impl_VarOf.f (k : Nat) (a0 : Int) : Option impl_VarOf.R := Option.bind (impl_within.f k a0 0 4294967295) fun r1 => bif !r1.1.1.1 then (some (((ByteArray.empty, ()), ()), ())) else (impl_VarOf.l0 k a0 ([] : List Int))
def impl_VarOf.s (k : Nat) : FS := ⟨[⟨false, [.int .i64]⟩], [], false, [⟨false, [.str]⟩], [], [], fun x => impl_VarOf.f k x.1.1.1⟩
def impl_VarOf.E (k : Nat) : Ents := [(⟨55, []⟩, impl_within.s k)]
def impl_VarOf.L0 (l : Int → (List Int) → Option impl_VarOf.R) : LS impl_VarOf.R := ⟨[], [(0, ⟨false, [.int .i64]⟩), (3, ⟨false, [.own 100000]⟩)], [(100000, .row true (.int .u8))], fun x => l x.1.1.1 x.2.1⟩
def impl_VarOf.L (l0 : Int → (List Int) → Option impl_VarOf.R) : List (LS impl_VarOf.R) := [impl_VarOf.L0 l0]
def impl_VarOf.c : Code := Try.f149.body.getD .skip
theorem impl_VarOf.eq (k : Nat) (x) : (impl_VarOf.s k).pf x = execF tab (impl_VarOf.E k) Try.f149 impl_VarOf.c (impl_VarOf.s k) (impl_VarOf.L (impl_VarOf.l0 k)) x := by kernel_rfl
theorem impl_VarOf.r0 (l0 : Int → (List Int) → Option impl_VarOf.R) (k : Nat) (x) : impl_VarOf.l0_ k l0 x.1.1.1 x.2.1 = roundOf tab (impl_VarOf.E k) (impl_VarOf.L l0) impl_VarOf.c (fin tab Try.f149 (impl_VarOf.s k)) 0 (impl_VarOf.L0 l0) x := by kernel_rfl
theorem impl_VarOf.sound : ∀ k, Sound Try.prog 149 (impl_VarOf.s k) := sound_of mixed tab_ok (f := 149) (fn := Try.f149) (c := impl_VarOf.c) (by kernel_rfl) (by kernel_rfl) (by kernel_rfl) ⟨[⟨false, [.int .i64]⟩], [], false, [⟨false, [.str]⟩], [], []⟩ (by kernel_rfl) (by kernel_rfl) (fun k => (impl_VarOf.s k).pf) impl_VarOf.E (fun k => (EntsOK.cons (impl_within.sound k) EntsOK.nil)) (fun k => impl_VarOf.L (impl_VarOf.l0 k)) (fun k => ⟨rfl, trivial⟩) ⟨fun _ => rfl, trivial⟩ (fun k => ⟨⟨(impl_VarOf.L0 (impl_VarOf.l0 (k + 1))).l, rfl, fun x => impl_VarOf.r0 (impl_VarOf.l0 k) k x⟩, trivial⟩) impl_VarOf.eq
end
end Go.Proofs.Ytkfehogikjcgkaa.V
namespace Go.Proofs.Ytkfehogikjcgkaa.V
open Go
set_option linter.unusedVariables false
noncomputable section
/-! ### impl.vars: function 108 -/
abbrev impl_vars.R := (((ByteArray × Unit) × Unit) × Unit)
def impl_vars.l0_ (k : Nat) (l0 : (List Int) → Int → Int → ByteArray → Option impl_vars.R) (a0 : List Int) (a1 : Int) (a2 : Int) (a3 : ByteArray) : Option impl_vars.R := bif decide (a2 < a1) then (bif (decide (0 ≤ a2)) && (decide (a2 < ((List.length a0 : Nat) : Int))) then (Option.bind (impl_VarOf.f k (List.getD a0 (Int.toNat a2) 0)) fun r1 => Option.bind (strings_Builder_WriteString.f k r1.1.1.1 a3) fun r2 => l0 a0 a1 (IntKind.wrap .i64 (a2 + 1)) r2.2.1) else none) else (Option.bind (strings_Builder_String.f k a3) fun r3 => some (((r3.1.1.1, ()), ()), ()))
def impl_vars.all : Nat → ((List Int) → Int → Int → ByteArray → Option impl_vars.R) × Unit
  | 0 => (fun _ _ _ _ => none, ())
  | k + 1 => (impl_vars.l0_ k (impl_vars.all k).1, ())
def impl_vars.l0 (k : Nat) : (List Int) → Int → Int → ByteArray → Option impl_vars.R := (impl_vars.all k).1
def impl_vars.f (k : Nat) (a0 : List Int) : Option impl_vars.R := impl_vars.l0 k a0 ((List.length a0 : Nat) : Int) 0 ByteArray.empty
def impl_vars.s (k : Nat) : FS := ⟨[⟨false, [.lst (.int .i64)]⟩], [], false, [⟨false, [.str]⟩], [], [], fun x => impl_vars.f k x.1.1.1⟩
def impl_vars.E (k : Nat) : Ents := [(⟨149, []⟩, impl_VarOf.s k), (⟨107, []⟩, strings_Builder_WriteString.s k), (⟨111, []⟩, strings_Builder_String.s k)]
def impl_vars.L0 (l : (List Int) → Int → Int → ByteArray → Option impl_vars.R) : LS impl_vars.R := ⟨[], [(3, ⟨false, [.ptr 100000 0]⟩), (6, ⟨false, [.lst (.int .i64)]⟩), (7, ⟨false, [.int .i64]⟩), (8, ⟨false, [.int .i64]⟩)], [(100000, .bld 122 5)], fun x => l x.1.2.1.1 x.1.2.2.1.1 x.1.2.2.2.1.1 x.2.1⟩
def impl_vars.L (l0 : (List Int) → Int → Int → ByteArray → Option impl_vars.R) : List (LS impl_vars.R) := [impl_vars.L0 l0]
def impl_vars.c : Code := Try.f108.body.getD .skip
theorem impl_vars.eq (k : Nat) (x) : (impl_vars.s k).pf x = execF tab (impl_vars.E k) Try.f108 impl_vars.c (impl_vars.s k) (impl_vars.L (impl_vars.l0 k)) x := by kernel_rfl
theorem impl_vars.r0 (l0 : (List Int) → Int → Int → ByteArray → Option impl_vars.R) (k : Nat) (x) : impl_vars.l0_ k l0 x.1.2.1.1 x.1.2.2.1.1 x.1.2.2.2.1.1 x.2.1 = roundOf tab (impl_vars.E k) (impl_vars.L l0) impl_vars.c (fin tab Try.f108 (impl_vars.s k)) 0 (impl_vars.L0 l0) x := by kernel_rfl
theorem impl_vars.sound : ∀ k, Sound Try.prog 108 (impl_vars.s k) := sound_of mixed tab_ok (f := 108) (fn := Try.f108) (c := impl_vars.c) (by kernel_rfl) (by kernel_rfl) (by kernel_rfl) ⟨[⟨false, [.lst (.int .i64)]⟩], [], false, [⟨false, [.str]⟩], [], []⟩ (by kernel_rfl) (by kernel_rfl) (fun k => (impl_vars.s k).pf) impl_vars.E (fun k => (EntsOK.cons (impl_VarOf.sound k) (EntsOK.cons (strings_Builder_WriteString.sound k) (EntsOK.cons (strings_Builder_String.sound k) EntsOK.nil)))) (fun k => impl_vars.L (impl_vars.l0 k)) (fun k => ⟨rfl, trivial⟩) ⟨fun _ => rfl, trivial⟩ (fun k => ⟨⟨(impl_vars.L0 (impl_vars.l0 (k + 1))).l, rfl, fun x => impl_vars.r0 (impl_vars.l0 k) k x⟩, trivial⟩) impl_vars.eq
end
end Go.Proofs.Ytkfehogikjcgkaa.V
namespace Go.Proofs.Ytkfehogikjcgkaa.V
open Go
set_option linter.unusedVariables false
noncomputable section
/-! ### impl.list: function 109 -/
abbrev impl_list.R := (((ByteArray × Unit) × Unit) × Unit)
def impl_list.f (k : Nat) (a0 : List Int) : Option impl_list.R := Option.bind (impl_vars.f k [((List.length a0 : Nat) : Int)]) fun r1 => Option.bind (impl_vars.f k a0) fun r2 => bif decide (ByteArray.size r1.1.1.1 + ByteArray.size r2.1.1.1 ≤ big) then (some (((r1.1.1.1 ++ r2.1.1.1, ()), ()), ())) else none
def impl_list.s (k : Nat) : FS := ⟨[⟨false, [.lst (.int .i64)]⟩], [], false, [⟨false, [.str]⟩], [], [], fun x => impl_list.f k x.1.1.1⟩
def impl_list.E (k : Nat) : Ents := [(⟨108, []⟩, impl_vars.s k)]
def impl_list.L : List (LS impl_list.R) := []
def impl_list.c : Code := Try.f109.body.getD .skip
theorem impl_list.eq (k : Nat) (x) : (impl_list.s k).pf x = execF tab (impl_list.E k) Try.f109 impl_list.c (impl_list.s k) impl_list.L x := by kernel_rfl
theorem impl_list.sound : ∀ k, Sound Try.prog 109 (impl_list.s k) := sound_of mixed tab_ok (f := 109) (fn := Try.f109) (c := impl_list.c) (by kernel_rfl) (by kernel_rfl) (by kernel_rfl) ⟨[⟨false, [.lst (.int .i64)]⟩], [], false, [⟨false, [.str]⟩], [], []⟩ (by kernel_rfl) (by kernel_rfl) (fun k => (impl_list.s k).pf) impl_list.E (fun k => (EntsOK.cons (impl_vars.sound k) EntsOK.nil)) (fun k => impl_list.L) (fun k => trivial) trivial (fun k => trivial) impl_list.eq
end
end Go.Proofs.Ytkfehogikjcgkaa.V
namespace Go.Proofs.Ytkfehogikjcgkaa.V
open Go
set_option linter.unusedVariables false
noncomputable section
/-! ### impl.Crc: function 152 -/
abbrev impl_Crc.R := (((Int × Unit) × Unit) × Unit)
def impl_Crc.l0_ (k : Nat) (l0 : ByteArray → Int → Int → Int → Option impl_Crc.R) (l1 : ByteArray → Int → Int → Int → Int → Option impl_Crc.R) (a0 : ByteArray) (a1 : Int) (a2 : Int) (a3 : Int) : Option impl_Crc.R := bif decide (a3 < a2) then (bif (decide (0 ≤ a3)) && (decide (a3 < ((ByteArray.size a0 : Nat) : Int))) then (l1 a0 (bxor .u32 a1 (IntKind.wrap .u32 (byteAt a0 (Int.toNat a3)))) a2 a3 0) else none) else (some (((IntKind.wrap .i64 (bxor .u32 4294967295 a1), ()), ()), ()))
def impl_Crc.l1_ (k : Nat) (l0 : ByteArray → Int → Int → Int → Option impl_Crc.R) (l1 : ByteArray → Int → Int → Int → Int → Option impl_Crc.R) (a0 : ByteArray) (a1 : Int) (a2 : Int) (a3 : Int) (a4 : Int) : Option impl_Crc.R := bif decide (a4 < 8) then (bif decide (0 ≤ 1) then (bif decide (band .u32 a1 1 = 1) then (l1 a0 (bxor .u32 (V.shr .u32 a1 1) 3988292384) a2 a3 (IntKind.wrap .i64 (a4 + 1))) else (l1 a0 (V.shr .u32 a1 1) a2 a3 (IntKind.wrap .i64 (a4 + 1)))) else none) else (l0 a0 a1 a2 (IntKind.wrap .i64 (a3 + 1)))
def impl_Crc.all : Nat → (ByteArray → Int → Int → Int → Option impl_Crc.R) × (ByteArray → Int → Int → Int → Int → Option impl_Crc.R) × Unit
  | 0 => (fun _ _ _ _ => none, fun _ _ _ _ _ => none, ())
  | k + 1 => (impl_Crc.l0_ k (impl_Crc.all k).1 (impl_Crc.all k).2.1, impl_Crc.l1_ k (impl_Crc.all k).1 (impl_Crc.all k).2.1, ())
def impl_Crc.l0 (k : Nat) : ByteArray → Int → Int → Int → Option impl_Crc.R := (impl_Crc.all k).1
def impl_Crc.l1 (k : Nat) : ByteArray → Int → Int → Int → Int → Option impl_Crc.R := (impl_Crc.all k).2.1
def impl_Crc.f (k : Nat) (a0 : ByteArray) : Option impl_Crc.R := impl_Crc.l0 k a0 4294967295 ((ByteArray.size a0 : Nat) : Int) 0
def impl_Crc.s (k : Nat) : FS := ⟨[⟨false, [.str]⟩], [], false, [⟨false, [.int .i64]⟩], [], [], fun x => impl_Crc.f k x.1.1.1⟩
def impl_Crc.E (k : Nat) : Ents := []
def impl_Crc.L0 (l : ByteArray → Int → Int → Int → Option impl_Crc.R) : LS impl_Crc.R := ⟨[], [(0, ⟨false, [.str]⟩), (3, ⟨false, [.int .u32]⟩), (7, ⟨false, [.int .i64]⟩), (8, ⟨false, [.int .i64]⟩)], [], fun x => l x.1.1.1 x.1.2.1.1 x.1.2.2.1.1 x.1.2.2.2.1.1⟩
def impl_Crc.L1 (l : ByteArray → Int → Int → Int → Int → Option impl_Crc.R) : LS impl_Crc.R := ⟨[], [(0, ⟨false, [.str]⟩), (3, ⟨false, [.int .u32]⟩), (7, ⟨false, [.int .i64]⟩), (8, ⟨false, [.int .i64]⟩), (17, ⟨false, [.int .i64]⟩)], [], fun x => l x.1.1.1 x.1.2.1.1 x.1.2.2.1.1 x.1.2.2.2.1.1 x.1.2.2.2.2.1.1⟩
def impl_Crc.L (l0 : ByteArray → Int → Int → Int → Option impl_Crc.R) (l1 : ByteArray → Int → Int → Int → Int → Option impl_Crc.R) : List (LS impl_Crc.R) := [impl_Crc.L0 l0, impl_Crc.L1 l1]
def impl_Crc.c : Code := Try.f152.body.getD .skip
theorem impl_Crc.eq (k : Nat) (x) : (impl_Crc.s k).pf x = execF tab (impl_Crc.E k) Try.f152 impl_Crc.c (impl_Crc.s k) (impl_Crc.L (impl_Crc.l0 k) (impl_Crc.l1 k)) x := by kernel_rfl
theorem impl_Crc.r0 (l0 : ByteArray → Int → Int → Int → Option impl_Crc.R) (l1 : ByteArray → Int → Int → Int → Int → Option impl_Crc.R) (k : Nat) (x) : impl_Crc.l0_ k l0 l1 x.1.1.1 x.1.2.1.1 x.1.2.2.1.1 x.1.2.2.2.1.1 = roundOf tab (impl_Crc.E k) (impl_Crc.L l0 l1) impl_Crc.c (fin tab Try.f152 (impl_Crc.s k)) 0 (impl_Crc.L0 l0) x := by kernel_rfl
theorem impl_Crc.r1 (l0 : ByteArray → Int → Int → Int → Option impl_Crc.R) (l1 : ByteArray → Int → Int → Int → Int → Option impl_Crc.R) (k : Nat) (x) : impl_Crc.l1_ k l0 l1 x.1.1.1 x.1.2.1.1 x.1.2.2.1.1 x.1.2.2.2.1.1 x.1.2.2.2.2.1.1 = roundOf tab (impl_Crc.E k) (impl_Crc.L l0 l1) impl_Crc.c (fin tab Try.f152 (impl_Crc.s k)) 1 (impl_Crc.L1 l1) x := by kernel_rfl
theorem impl_Crc.sound : ∀ k, Sound Try.prog 152 (impl_Crc.s k) := sound_of mixed tab_ok (f := 152) (fn := Try.f152) (c := impl_Crc.c) (by kernel_rfl) (by kernel_rfl) (by kernel_rfl) ⟨[⟨false, [.str]⟩], [], false, [⟨false, [.int .i64]⟩], [], []⟩ (by kernel_rfl) (by kernel_rfl) (fun k => (impl_Crc.s k).pf) impl_Crc.E (fun k => EntsOK.nil) (fun k => impl_Crc.L (impl_Crc.l0 k) (impl_Crc.l1 k)) (fun k => ⟨rfl, rfl, trivial⟩) ⟨fun _ => rfl, fun _ => rfl, trivial⟩ (fun k => ⟨⟨(impl_Crc.L0 (impl_Crc.l0 (k + 1))).l, rfl, fun x => impl_Crc.r0 (impl_Crc.l0 k) (impl_Crc.l1 k) k x⟩, ⟨(impl_Crc.L1 (impl_Crc.l1 (k + 1))).l, rfl, fun x => impl_Crc.r1 (impl_Crc.l0 k) (impl_Crc.l1 k) k x⟩, trivial⟩) impl_Crc.eq
end
end Go.Proofs.Ytkfehogikjcgkaa.V
namespace Go.Proofs.Ytkfehogikjcgkaa.V
open Go
set_option linter.unusedVariables false
noncomputable section
/-! ### impl.crcBytes: function 112 -/
abbrev impl_crcBytes.R := (((ByteArray × Unit) × Unit) × Unit)
def impl_crcBytes.f (k : Nat) (a0 : ByteArray) : Option impl_crcBytes.R := Option.bind (impl_Crc.f k a0) fun r1 => bif decide (0 ≤ 24) then (bif decide (0 ≤ 16) then (bif decide (0 ≤ 8) then (some (((strOf [IntKind.wrap .u8 (V.shr .i64 r1.1.1.1 24), IntKind.wrap .u8 (V.shr .i64 r1.1.1.1 16), IntKind.wrap .u8 (V.shr .i64 r1.1.1.1 8), IntKind.wrap .u8 r1.1.1.1], ()), ()), ())) else none) else none) else none
def impl_crcBytes.s (k : Nat) : FS := ⟨[⟨false, [.str]⟩], [], false, [⟨false, [.str]⟩], [], [], fun x => impl_crcBytes.f k x.1.1.1⟩
def impl_crcBytes.E (k : Nat) : Ents := [(⟨152, []⟩, impl_Crc.s k)]
def impl_crcBytes.L : List (LS impl_crcBytes.R) := []
def impl_crcBytes.c : Code := Try.f112.body.getD .skip
theorem impl_crcBytes.eq (k : Nat) (x) : (impl_crcBytes.s k).pf x = execF tab (impl_crcBytes.E k) Try.f112 impl_crcBytes.c (impl_crcBytes.s k) impl_crcBytes.L x := by kernel_rfl
theorem impl_crcBytes.sound : ∀ k, Sound Try.prog 112 (impl_crcBytes.s k) := sound_of mixed tab_ok (f := 112) (fn := Try.f112) (c := impl_crcBytes.c) (by kernel_rfl) (by kernel_rfl) (by kernel_rfl) ⟨[⟨false, [.str]⟩], [], false, [⟨false, [.str]⟩], [], []⟩ (by kernel_rfl) (by kernel_rfl) (fun k => (impl_crcBytes.s k).pf) impl_crcBytes.E (fun k => (EntsOK.cons (impl_Crc.sound k) EntsOK.nil)) (fun k => impl_crcBytes.L) (fun k => trivial) trivial (fun k => trivial) impl_crcBytes.eq
end
end Go.Proofs.Ytkfehogikjcgkaa.V
namespace Go.Proofs.Ytkfehogikjcgkaa.V
open Go
set_option linter.unusedVariables false
noncomputable section
/-! ### impl.hasImm: function 150 -/
abbrev impl_hasImm.R := (((Bool × Unit) × Unit) × Unit)
def impl_hasImm.f (k : Nat) (a0 : Int) : Option impl_hasImm.R := bif decide (a0 = 21) then (some (((true, ()), ()), ())) else (some (((decide (a0 = 26), ()), ()), ()))
def impl_hasImm.s (k : Nat) : FS := ⟨[⟨false, [.int .i64]⟩], [], false, [⟨false, [.bool]⟩], [], [], fun x => impl_hasImm.f k x.1.1.1⟩
def impl_hasImm.E (k : Nat) : Ents := []
def impl_hasImm.L : List (LS impl_hasImm.R) := []
def impl_hasImm.c : Code := Try.f150.body.getD .skip
theorem impl_hasImm.eq (k : Nat) (x) : (impl_hasImm.s k).pf x = execF tab (impl_hasImm.E k) Try.f150 impl_hasImm.c (impl_hasImm.s k) impl_hasImm.L x := by kernel_rfl
theorem impl_hasImm.sound : ∀ k, Sound Try.prog 150 (impl_hasImm.s k) := sound_of mixed tab_ok (f := 150) (fn := Try.f150) (c := impl_hasImm.c) (by kernel_rfl) (by kernel_rfl) (by kernel_rfl) ⟨[⟨false, [.int .i64]⟩], [], false, [⟨false, [.bool]⟩], [], []⟩ (by kernel_rfl) (by kernel_rfl) (fun k => (impl_hasImm.s k).pf) impl_hasImm.E (fun k => EntsOK.nil) (fun k => impl_hasImm.L) (fun k => trivial) trivial (fun k => trivial) impl_hasImm.eq
end
end Go.Proofs.Ytkfehogikjcgkaa.V
namespace Go.Proofs.Ytkfehogikjcgkaa.V
open Go
set_option linter.unusedVariables false
noncomputable section
/-! ### impl.termBytes: function 151 -/
abbrev impl_termBytes.R := (((ByteArray × Unit) × Unit) × Unit)
def impl_termBytes.f (k : Nat) (a0 : tTermD) : Option impl_termBytes.R := bif decide (a0.1 = 1) then (Option.bind (impl_vars.f k [a0.1, a0.2.1]) fun r1 => some (((r1.1.1.1, ()), ()), ())) else (bif decide (a0.1 = 2) then (Option.bind (impl_vars.f k [a0.1, a0.2.2.1]) fun r2 => some (((r2.1.1.1, ()), ()), ())) else (bif decide (a0.1 = 3) then (Option.bind (impl_vars.f k [a0.1, a0.2.1, a0.2.2.1, a0.2.2.2.1]) fun r3 => some (((r3.1.1.1, ()), ()), ())) else (Option.bind (impl_vars.f k [a0.1]) fun r4 => some (((r4.1.1.1, ()), ()), ()))))
def impl_termBytes.s (k : Nat) : FS := ⟨[⟨true, [.int .i64, .int .i64, .int .i64, .int .i64]⟩], [], false, [⟨false, [.str]⟩], [], [], fun x => impl_termBytes.f k x.1.1⟩
def impl_termBytes.E (k : Nat) : Ents := [(⟨108, []⟩, impl_vars.s k)]
def impl_termBytes.L : List (LS impl_termBytes.R) := []
def impl_termBytes.c : Code := Try.f151.body.getD .skip
theorem impl_termBytes.eq (k : Nat) (x) : (impl_termBytes.s k).pf x = execF tab (impl_termBytes.E k) Try.f151 impl_termBytes.c (impl_termBytes.s k) impl_termBytes.L x := by kernel_rfl
theorem impl_termBytes.sound : ∀ k, Sound Try.prog 151 (impl_termBytes.s k) := sound_of mixed tab_ok (f := 151) (fn := Try.f151) (c := impl_termBytes.c) (by kernel_rfl) (by kernel_rfl) (by kernel_rfl) ⟨[⟨true, [.int .i64, .int .i64, .int .i64, .int .i64]⟩], [], false, [⟨false, [.str]⟩], [], []⟩ (by kernel_rfl) (by kernel_rfl) (fun k => (impl_termBytes.s k).pf) impl_termBytes.E (fun k => (EntsOK.cons (impl_vars.sound k) EntsOK.nil)) (fun k => impl_termBytes.L) (fun k => trivial) trivial (fun k => trivial) impl_termBytes.eq
end
end Go.Proofs.Ytkfehogikjcgkaa.V
namespace Go.Proofs.Ytkfehogikjcgkaa.V
open Go
set_option linter.unusedVariables false
noncomputable section
/-! ### impl.blockBytes: function 110 -/
abbrev impl_blockBytes.R := (((ByteArray × Unit) × Unit) × Unit)
def impl_blockBytes.l0_ (k : Nat) (l0 : (List tPhiD) → Int → Int → tBlockD → ByteArray → Option impl_blockBytes.R) (l1 : (List tInstD) → Int → Int → tBlockD → ByteArray → Option impl_blockBytes.R) (a0 : List tPhiD) (a1 : Int) (a2 : Int) (a3 : tBlockD) (a4 : ByteArray) : Option impl_blockBytes.R := bif decide (a2 < a1) then (bif (decide (0 ≤ a2)) && (decide (a2 < ((List.length a0 : Nat) : Int))) then (Option.bind (impl_vars.f k [(List.getD a0 (Int.toNat a2) tPhiZ).1]) fun r1 => Option.bind (impl_list.f k ((List.getD a0 (Int.toNat a2) tPhiZ).2.1)) fun r2 => bif decide (ByteArray.size r1.1.1.1 + ByteArray.size r2.1.1.1 ≤ big) then (Option.bind (strings_Builder_WriteString.f k (r1.1.1.1 ++ r2.1.1.1) a4) fun r3 => l0 a0 a1 (IntKind.wrap .i64 (a2 + 1)) a3 r3.2.1) else none) else none) else (Option.bind (impl_vars.f k [((List.length a3.2.1 : Nat) : Int)]) fun r4 => Option.bind (strings_Builder_WriteString.f k r4.1.1.1 a4) fun r5 => l1 a3.2.1 ((List.length a3.2.1 : Nat) : Int) 0 a3 r5.2.1)
def impl_blockBytes.l1_ (k : Nat) (l0 : (List tPhiD) → Int → Int → tBlockD → ByteArray → Option impl_blockBytes.R) (l1 : (List tInstD) → Int → Int → tBlockD → ByteArray → Option impl_blockBytes.R) (a0 : List tInstD) (a1 : Int) (a2 : Int) (a3 : tBlockD) (a4 : ByteArray) : Option impl_blockBytes.R := bif decide (a2 < a1) then (bif (decide (0 ≤ a2)) && (decide (a2 < ((List.length a0 : Nat) : Int))) then (Option.bind (impl_vars.f k [(List.getD a0 (Int.toNat a2) tInstZ).1, (List.getD a0 (Int.toNat a2) tInstZ).2.1]) fun r1 => Option.bind (strings_Builder_WriteString.f k r1.1.1.1 a4) fun r2 => Option.bind (impl_hasImm.f k ((List.getD a0 (Int.toNat a2) tInstZ).1)) fun r3 => bif r3.1.1.1 then (Option.bind (impl_vars.f k [(List.getD a0 (Int.toNat a2) tInstZ).2.2.2.2.2.1]) fun r4 => Option.bind (strings_Builder_WriteString.f k r4.1.1.1 r2.2.1) fun r5 => Option.bind (impl_OperandsOf.f k (List.getD a0 (Int.toNat a2) tInstZ)) fun r6 => Option.bind (impl_list.f k r6.2.1) fun r7 => Option.bind (strings_Builder_WriteString.f k r7.1.1.1 r5.2.1) fun r8 => l1 a0 a1 (IntKind.wrap .i64 (a2 + 1)) a3 r8.2.1) else (Option.bind (impl_OperandsOf.f k (List.getD a0 (Int.toNat a2) tInstZ)) fun r9 => Option.bind (impl_list.f k r9.2.1) fun r10 => Option.bind (strings_Builder_WriteString.f k r10.1.1.1 r2.2.1) fun r11 => l1 a0 a1 (IntKind.wrap .i64 (a2 + 1)) a3 r11.2.1)) else none) else (Option.bind (strings_Builder_String.f k a4) fun r12 => Option.bind (impl_termBytes.f k a3.2.2) fun r13 => bif decide (ByteArray.size r12.1.1.1 + ByteArray.size r13.1.1.1 ≤ big) then (some (((r12.1.1.1 ++ r13.1.1.1, ()), ()), ())) else none)
def impl_blockBytes.all : Nat → ((List tPhiD) → Int → Int → tBlockD → ByteArray → Option impl_blockBytes.R) × ((List tInstD) → Int → Int → tBlockD → ByteArray → Option impl_blockBytes.R) × Unit
  | 0 => (fun _ _ _ _ _ => none, fun _ _ _ _ _ => none, ())
  | k + 1 => (impl_blockBytes.l0_ k (impl_blockBytes.all k).1 (impl_blockBytes.all k).2.1, impl_blockBytes.l1_ k (impl_blockBytes.all k).1 (impl_blockBytes.all k).2.1, ())
def impl_blockBytes.l0 (k : Nat) : (List tPhiD) → Int → Int → tBlockD → ByteArray → Option impl_blockBytes.R := (impl_blockBytes.all k).1
def impl_blockBytes.l1 (k : Nat) : (List tInstD) → Int → Int → tBlockD → ByteArray → Option impl_blockBytes.R := (impl_blockBytes.all k).2.1
def impl_blockBytes.f (k : Nat) (a0 : tBlockD) : Option impl_blockBytes.R := Option.bind (impl_vars.f k [((List.length a0.1 : Nat) : Int)]) fun r1 => Option.bind (strings_Builder_WriteString.f k r1.1.1.1 ByteArray.empty) fun r2 => impl_blockBytes.l0 k a0.1 ((List.length a0.1 : Nat) : Int) 0 a0 r2.2.1
def impl_blockBytes.s (k : Nat) : FS := ⟨[⟨true, [.lst tPhi, .lst tInst, .int .i64, .int .i64, .int .i64, .int .i64]⟩], [], false, [⟨false, [.str]⟩], [], [], fun x => impl_blockBytes.f k x.1.1⟩
def impl_blockBytes.E (k : Nat) : Ents := [(⟨108, []⟩, impl_vars.s k), (⟨107, []⟩, strings_Builder_WriteString.s k), (⟨109, []⟩, impl_list.s k), (⟨150, []⟩, impl_hasImm.s k), (⟨142, []⟩, impl_OperandsOf.s k), (⟨111, []⟩, strings_Builder_String.s k), (⟨151, []⟩, impl_termBytes.s k)]
def impl_blockBytes.L0 (l : (List tPhiD) → Int → Int → tBlockD → ByteArray → Option impl_blockBytes.R) : LS impl_blockBytes.R := ⟨[], [(1, ⟨false, [.ptr 100000 0]⟩), (3, ⟨false, [.ptr 100001 0]⟩), (15, ⟨false, [.lst tPhi]⟩), (16, ⟨false, [.int .i64]⟩), (17, ⟨false, [.int .i64]⟩)], [(100000, .box [.lst tPhi, .lst tInst, .int .i64, .int .i64, .int .i64, .int .i64]), (100001, .bld 122 5)], fun x => l x.1.2.2.1.1 x.1.2.2.2.1.1 x.1.2.2.2.2.1.1 x.2.1 x.2.2.1⟩
def impl_blockBytes.L1 (l : (List tInstD) → Int → Int → tBlockD → ByteArray → Option impl_blockBytes.R) : LS impl_blockBytes.R := ⟨[], [(1, ⟨false, [.ptr 100000 0]⟩), (3, ⟨false, [.ptr 100001 0]⟩), (38, ⟨false, [.lst tInst]⟩), (39, ⟨false, [.int .i64]⟩), (40, ⟨false, [.int .i64]⟩)], [(100000, .box [.lst tPhi, .lst tInst, .int .i64, .int .i64, .int .i64, .int .i64]), (100001, .bld 122 5)], fun x => l x.1.2.2.1.1 x.1.2.2.2.1.1 x.1.2.2.2.2.1.1 x.2.1 x.2.2.1⟩
def impl_blockBytes.L (l0 : (List tPhiD) → Int → Int → tBlockD → ByteArray → Option impl_blockBytes.R) (l1 : (List tInstD) → Int → Int → tBlockD → ByteArray → Option impl_blockBytes.R) : List (LS impl_blockBytes.R) := [impl_blockBytes.L0 l0, impl_blockBytes.L1 l1]
def impl_blockBytes.c : Code := Try.f110.body.getD .skip
theorem impl_blockBytes.eq (k : Nat) (x) : (impl_blockBytes.s k).pf x = execF tab (impl_blockBytes.E k) Try.f110 impl_blockBytes.c (impl_blockBytes.s k) (impl_blockBytes.L (impl_blockBytes.l0 k) (impl_blockBytes.l1 k)) x := by kernel_rfl
theorem impl_blockBytes.r0 (l0 : (List tPhiD) → Int → Int → tBlockD → ByteArray → Option impl_blockBytes.R) (l1 : (List tInstD) → Int → Int → tBlockD → ByteArray → Option impl_blockBytes.R) (k : Nat) (x) : impl_blockBytes.l0_ k l0 l1 x.1.2.2.1.1 x.1.2.2.2.1.1 x.1.2.2.2.2.1.1 x.2.1 x.2.2.1 = roundOf tab (impl_blockBytes.E k) (impl_blockBytes.L l0 l1) impl_blockBytes.c (fin tab Try.f110 (impl_blockBytes.s k)) 0 (impl_blockBytes.L0 l0) x := by kernel_rfl
theorem impl_blockBytes.r1 (l0 : (List tPhiD) → Int → Int → tBlockD → ByteArray → Option impl_blockBytes.R) (l1 : (List tInstD) → Int → Int → tBlockD → ByteArray → Option impl_blockBytes.R) (k : Nat) (x) : impl_blockBytes.l1_ k l0 l1 x.1.2.2.1.1 x.1.2.2.2.1.1 x.1.2.2.2.2.1.1 x.2.1 x.2.2.1 = roundOf tab (impl_blockBytes.E k) (impl_blockBytes.L l0 l1) impl_blockBytes.c (fin tab Try.f110 (impl_blockBytes.s k)) 1 (impl_blockBytes.L1 l1) x := by kernel_rfl
theorem impl_blockBytes.sound : ∀ k, Sound Try.prog 110 (impl_blockBytes.s k) := sound_of mixed tab_ok (f := 110) (fn := Try.f110) (c := impl_blockBytes.c) (by kernel_rfl) (by kernel_rfl) (by kernel_rfl) ⟨[⟨true, [.lst tPhi, .lst tInst, .int .i64, .int .i64, .int .i64, .int .i64]⟩], [], false, [⟨false, [.str]⟩], [], []⟩ (by kernel_rfl) (by kernel_rfl) (fun k => (impl_blockBytes.s k).pf) impl_blockBytes.E (fun k => (EntsOK.cons (impl_vars.sound k) (EntsOK.cons (strings_Builder_WriteString.sound k) (EntsOK.cons (impl_list.sound k) (EntsOK.cons (impl_hasImm.sound k) (EntsOK.cons (impl_OperandsOf.sound k) (EntsOK.cons (strings_Builder_String.sound k) (EntsOK.cons (impl_termBytes.sound k) EntsOK.nil)))))))) (fun k => impl_blockBytes.L (impl_blockBytes.l0 k) (impl_blockBytes.l1 k)) (fun k => ⟨rfl, rfl, trivial⟩) ⟨fun _ => rfl, fun _ => rfl, trivial⟩ (fun k => ⟨⟨(impl_blockBytes.L0 (impl_blockBytes.l0 (k + 1))).l, rfl, fun x => impl_blockBytes.r0 (impl_blockBytes.l0 k) (impl_blockBytes.l1 k) k x⟩, ⟨(impl_blockBytes.L1 (impl_blockBytes.l1 (k + 1))).l, rfl, fun x => impl_blockBytes.r1 (impl_blockBytes.l0 k) (impl_blockBytes.l1 k) k x⟩, trivial⟩) impl_blockBytes.eq
end
end Go.Proofs.Ytkfehogikjcgkaa.V
namespace Go.Proofs.Ytkfehogikjcgkaa.V
open Go
set_option linter.unusedVariables false
noncomputable section
/-! ### impl.moduleBytes: function 62 -/
abbrev impl_moduleBytes.R := (((ByteArray × Unit) × Unit) × Unit)
def impl_moduleBytes.l0_ (k : Nat) (l0 : (List tFuncD) → Int → Int → ByteArray → Option impl_moduleBytes.R) (l1 : (List tFuncD) → Int → Int → (List tBlockD) → Int → Int → ByteArray → Option impl_moduleBytes.R) (a0 : List tFuncD) (a1 : Int) (a2 : Int) (a3 : ByteArray) : Option impl_moduleBytes.R := bif decide (a2 < a1) then (bif (decide (0 ≤ a2)) && (decide (a2 < ((List.length a0 : Nat) : Int))) then (Option.bind (impl_vars.f k [(List.getD a0 (Int.toNat a2) tFuncZ).2.1]) fun r1 => Option.bind (impl_list.f k ((List.getD a0 (Int.toNat a2) tFuncZ).1)) fun r2 => bif decide (ByteArray.size r1.1.1.1 + ByteArray.size r2.1.1.1 ≤ big) then (Option.bind (impl_vars.f k [((List.length ((List.getD a0 (Int.toNat a2) tFuncZ).2.2.1) : Nat) : Int)]) fun r3 => bif decide (ByteArray.size (r1.1.1.1 ++ r2.1.1.1) + ByteArray.size r3.1.1.1 ≤ big) then (Option.bind (strings_Builder_WriteString.f k ((r1.1.1.1 ++ r2.1.1.1) ++ r3.1.1.1) a3) fun r4 => l1 a0 a1 a2 ((List.getD a0 (Int.toNat a2) tFuncZ).2.2.1) ((List.length ((List.getD a0 (Int.toNat a2) tFuncZ).2.2.1) : Nat) : Int) 0 r4.2.1) else none) else none) else none) else (Option.bind (strings_Builder_String.f k a3) fun r5 => Option.bind (strings_Builder_String.f k r5.2.1) fun r6 => Option.bind (impl_crcBytes.f k r6.1.1.1) fun r7 => bif decide (ByteArray.size r5.1.1.1 + ByteArray.size r7.1.1.1 ≤ big) then (some (((r5.1.1.1 ++ r7.1.1.1, ()), ()), ())) else none)
def impl_moduleBytes.l1_ (k : Nat) (l0 : (List tFuncD) → Int → Int → ByteArray → Option impl_moduleBytes.R) (l1 : (List tFuncD) → Int → Int → (List tBlockD) → Int → Int → ByteArray → Option impl_moduleBytes.R) (a0 : List tFuncD) (a1 : Int) (a2 : Int) (a3 : List tBlockD) (a4 : Int) (a5 : Int) (a6 : ByteArray) : Option impl_moduleBytes.R := bif decide (a5 < a4) then (bif (decide (0 ≤ a5)) && (decide (a5 < ((List.length a3 : Nat) : Int))) then (Option.bind (impl_blockBytes.f k (List.getD a3 (Int.toNat a5) tBlockZ)) fun r1 => Option.bind (strings_Builder_WriteString.f k r1.1.1.1 a6) fun r2 => l1 a0 a1 a2 a3 a4 (IntKind.wrap .i64 (a5 + 1)) r2.2.1) else none) else (l0 a0 a1 (IntKind.wrap .i64 (a2 + 1)) a6)
def impl_moduleBytes.all : Nat → ((List tFuncD) → Int → Int → ByteArray → Option impl_moduleBytes.R) × ((List tFuncD) → Int → Int → (List tBlockD) → Int → Int → ByteArray → Option impl_moduleBytes.R) × Unit
  | 0 => (fun _ _ _ _ => none, fun _ _ _ _ _ _ _ => none, ())
  | k + 1 => (impl_moduleBytes.l0_ k (impl_moduleBytes.all k).1 (impl_moduleBytes.all k).2.1, impl_moduleBytes.l1_ k (impl_moduleBytes.all k).1 (impl_moduleBytes.all k).2.1, ())
def impl_moduleBytes.l0 (k : Nat) : (List tFuncD) → Int → Int → ByteArray → Option impl_moduleBytes.R := (impl_moduleBytes.all k).1
def impl_moduleBytes.l1 (k : Nat) : (List tFuncD) → Int → Int → (List tBlockD) → Int → Int → ByteArray → Option impl_moduleBytes.R := (impl_moduleBytes.all k).2.1
def impl_moduleBytes.f (k : Nat) (a0 : tModuleD) : Option impl_moduleBytes.R := Option.bind (impl_vars.f k [((List.length a0.1 : Nat) : Int)]) fun r1 => bif decide (ByteArray.size (ByteArray.mk #[83, 83, 65, 49]) + ByteArray.size r1.1.1.1 ≤ big) then (Option.bind (strings_Builder_WriteString.f k ((ByteArray.mk #[83, 83, 65, 49]) ++ r1.1.1.1) ByteArray.empty) fun r2 => impl_moduleBytes.l0 k a0.1 ((List.length a0.1 : Nat) : Int) 0 r2.2.1) else none
def impl_moduleBytes.s (k : Nat) : FS := ⟨[⟨true, [.lst tFunc]⟩], [], false, [⟨false, [.str]⟩], [], [], fun x => impl_moduleBytes.f k x.1.1⟩
def impl_moduleBytes.E (k : Nat) : Ents := [(⟨108, []⟩, impl_vars.s k), (⟨107, []⟩, strings_Builder_WriteString.s k), (⟨109, []⟩, impl_list.s k), (⟨111, []⟩, strings_Builder_String.s k), (⟨112, []⟩, impl_crcBytes.s k), (⟨110, []⟩, impl_blockBytes.s k)]
def impl_moduleBytes.L0 (l : (List tFuncD) → Int → Int → ByteArray → Option impl_moduleBytes.R) : LS impl_moduleBytes.R := ⟨[], [(3, ⟨false, [.ptr 100000 0]⟩), (16, ⟨false, [.lst tFunc]⟩), (17, ⟨false, [.int .i64]⟩), (18, ⟨false, [.int .i64]⟩)], [(100000, .bld 122 5)], fun x => l x.1.2.1.1 x.1.2.2.1.1 x.1.2.2.2.1.1 x.2.1⟩
def impl_moduleBytes.L1 (l : (List tFuncD) → Int → Int → (List tBlockD) → Int → Int → ByteArray → Option impl_moduleBytes.R) : LS impl_moduleBytes.R := ⟨[], [(3, ⟨false, [.ptr 100000 0]⟩), (16, ⟨false, [.lst tFunc]⟩), (17, ⟨false, [.int .i64]⟩), (18, ⟨false, [.int .i64]⟩), (38, ⟨false, [.lst tBlock]⟩), (39, ⟨false, [.int .i64]⟩), (40, ⟨false, [.int .i64]⟩)], [(100000, .bld 122 5)], fun x => l x.1.2.1.1 x.1.2.2.1.1 x.1.2.2.2.1.1 x.1.2.2.2.2.1.1 x.1.2.2.2.2.2.1.1 x.1.2.2.2.2.2.2.1.1 x.2.1⟩
def impl_moduleBytes.L (l0 : (List tFuncD) → Int → Int → ByteArray → Option impl_moduleBytes.R) (l1 : (List tFuncD) → Int → Int → (List tBlockD) → Int → Int → ByteArray → Option impl_moduleBytes.R) : List (LS impl_moduleBytes.R) := [impl_moduleBytes.L0 l0, impl_moduleBytes.L1 l1]
def impl_moduleBytes.c : Code := Try.f62.body.getD .skip
theorem impl_moduleBytes.eq (k : Nat) (x) : (impl_moduleBytes.s k).pf x = execF tab (impl_moduleBytes.E k) Try.f62 impl_moduleBytes.c (impl_moduleBytes.s k) (impl_moduleBytes.L (impl_moduleBytes.l0 k) (impl_moduleBytes.l1 k)) x := by kernel_rfl
theorem impl_moduleBytes.r0 (l0 : (List tFuncD) → Int → Int → ByteArray → Option impl_moduleBytes.R) (l1 : (List tFuncD) → Int → Int → (List tBlockD) → Int → Int → ByteArray → Option impl_moduleBytes.R) (k : Nat) (x) : impl_moduleBytes.l0_ k l0 l1 x.1.2.1.1 x.1.2.2.1.1 x.1.2.2.2.1.1 x.2.1 = roundOf tab (impl_moduleBytes.E k) (impl_moduleBytes.L l0 l1) impl_moduleBytes.c (fin tab Try.f62 (impl_moduleBytes.s k)) 0 (impl_moduleBytes.L0 l0) x := by kernel_rfl
theorem impl_moduleBytes.r1 (l0 : (List tFuncD) → Int → Int → ByteArray → Option impl_moduleBytes.R) (l1 : (List tFuncD) → Int → Int → (List tBlockD) → Int → Int → ByteArray → Option impl_moduleBytes.R) (k : Nat) (x) : impl_moduleBytes.l1_ k l0 l1 x.1.2.1.1 x.1.2.2.1.1 x.1.2.2.2.1.1 x.1.2.2.2.2.1.1 x.1.2.2.2.2.2.1.1 x.1.2.2.2.2.2.2.1.1 x.2.1 = roundOf tab (impl_moduleBytes.E k) (impl_moduleBytes.L l0 l1) impl_moduleBytes.c (fin tab Try.f62 (impl_moduleBytes.s k)) 1 (impl_moduleBytes.L1 l1) x := by kernel_rfl
theorem impl_moduleBytes.sound : ∀ k, Sound Try.prog 62 (impl_moduleBytes.s k) := sound_of mixed tab_ok (f := 62) (fn := Try.f62) (c := impl_moduleBytes.c) (by kernel_rfl) (by kernel_rfl) (by kernel_rfl) ⟨[⟨true, [.lst tFunc]⟩], [], false, [⟨false, [.str]⟩], [], []⟩ (by kernel_rfl) (by kernel_rfl) (fun k => (impl_moduleBytes.s k).pf) impl_moduleBytes.E (fun k => (EntsOK.cons (impl_vars.sound k) (EntsOK.cons (strings_Builder_WriteString.sound k) (EntsOK.cons (impl_list.sound k) (EntsOK.cons (strings_Builder_String.sound k) (EntsOK.cons (impl_crcBytes.sound k) (EntsOK.cons (impl_blockBytes.sound k) EntsOK.nil))))))) (fun k => impl_moduleBytes.L (impl_moduleBytes.l0 k) (impl_moduleBytes.l1 k)) (fun k => ⟨rfl, rfl, trivial⟩) ⟨fun _ => rfl, fun _ => rfl, trivial⟩ (fun k => ⟨⟨(impl_moduleBytes.L0 (impl_moduleBytes.l0 (k + 1))).l, rfl, fun x => impl_moduleBytes.r0 (impl_moduleBytes.l0 k) (impl_moduleBytes.l1 k) k x⟩, ⟨(impl_moduleBytes.L1 (impl_moduleBytes.l1 (k + 1))).l, rfl, fun x => impl_moduleBytes.r1 (impl_moduleBytes.l0 k) (impl_moduleBytes.l1 k) k x⟩, trivial⟩) impl_moduleBytes.eq
end
end Go.Proofs.Ytkfehogikjcgkaa.V
namespace Go.Proofs.Ytkfehogikjcgkaa.V
open Go
set_option linter.unusedVariables false
noncomputable section
/-! ### impl.ModuleBytes: function 29 -/
abbrev impl_ModuleBytes.R := (((ByteArray × Unit) × Unit) × Unit)
def impl_ModuleBytes.f (k : Nat) (a0 : tModuleD) : Option impl_ModuleBytes.R := Option.bind (impl_ShapeOk.f k (a0.1, ())) fun r1 => bif !r1.1.1.1 then (some (((ByteArray.empty, ()), ()), ())) else (Option.bind (impl_moduleBytes.f k (a0.1, ())) fun r2 => some (((r2.1.1.1, ()), ()), ()))
def impl_ModuleBytes.s (k : Nat) : FS := ⟨[⟨true, [.lst tFunc]⟩], [], false, [⟨false, [.str]⟩], [], [], fun x => impl_ModuleBytes.f k x.1.1⟩
def impl_ModuleBytes.E (k : Nat) : Ents := [(⟨26, []⟩, impl_ShapeOk.s k), (⟨62, []⟩, impl_moduleBytes.s k)]
def impl_ModuleBytes.L : List (LS impl_ModuleBytes.R) := []
def impl_ModuleBytes.c : Code := Try.f29.body.getD .skip
theorem impl_ModuleBytes.eq (k : Nat) (x) : (impl_ModuleBytes.s k).pf x = execF tab (impl_ModuleBytes.E k) Try.f29 impl_ModuleBytes.c (impl_ModuleBytes.s k) impl_ModuleBytes.L x := by kernel_rfl
theorem impl_ModuleBytes.sound : ∀ k, Sound Try.prog 29 (impl_ModuleBytes.s k) := sound_of mixed tab_ok (f := 29) (fn := Try.f29) (c := impl_ModuleBytes.c) (by kernel_rfl) (by kernel_rfl) (by kernel_rfl) ⟨[⟨true, [.lst tFunc]⟩], [], false, [⟨false, [.str]⟩], [], []⟩ (by kernel_rfl) (by kernel_rfl) (fun k => (impl_ModuleBytes.s k).pf) impl_ModuleBytes.E (fun k => (EntsOK.cons (impl_ShapeOk.sound k) (EntsOK.cons (impl_moduleBytes.sound k) EntsOK.nil))) (fun k => impl_ModuleBytes.L) (fun k => trivial) trivial (fun k => trivial) impl_ModuleBytes.eq
end
end Go.Proofs.Ytkfehogikjcgkaa.V
namespace Go.Proofs.Ytkfehogikjcgkaa.V
open Go
set_option linter.unusedVariables false
noncomputable section
/-! ### laws.eqInt64S: function 14 -/
abbrev laws_eqInt64S.R := (((Bool × Unit) × Unit) × Unit)
def laws_eqInt64S.l0_ (k : Nat) (l0 : (List Int) → (List Int) → Int → Option laws_eqInt64S.R) (a0 : List Int) (a1 : List Int) (a2 : Int) : Option laws_eqInt64S.R := bif decide (a2 < ((List.length a0 : Nat) : Int)) then (bif (decide (0 ≤ a2)) && (decide (a2 < ((List.length a0 : Nat) : Int))) then (bif (decide (0 ≤ a2)) && (decide (a2 < ((List.length a1 : Nat) : Int))) then (bif !decide (List.getD a0 (Int.toNat a2) 0 = List.getD a1 (Int.toNat a2) 0) then (some (((false, ()), ()), ())) else (l0 a0 a1 (IntKind.wrap .i64 (a2 + 1)))) else none) else none) else (some (((true, ()), ()), ()))
def laws_eqInt64S.all : Nat → ((List Int) → (List Int) → Int → Option laws_eqInt64S.R) × Unit
  | 0 => (fun _ _ _ => none, ())
  | k + 1 => (laws_eqInt64S.l0_ k (laws_eqInt64S.all k).1, ())
def laws_eqInt64S.l0 (k : Nat) : (List Int) → (List Int) → Int → Option laws_eqInt64S.R := (laws_eqInt64S.all k).1
def laws_eqInt64S.f (k : Nat) (a0 : List Int) (a1 : List Int) : Option laws_eqInt64S.R := bif !decide (((List.length a0 : Nat) : Int) = ((List.length a1 : Nat) : Int)) then (some (((false, ()), ()), ())) else (laws_eqInt64S.l0 k a0 a1 0)
def laws_eqInt64S.s (k : Nat) : FS := ⟨[⟨false, [.lst (.int .i64)]⟩, ⟨false, [.lst (.int .i64)]⟩], [], false, [⟨false, [.bool]⟩], [], [], fun x => laws_eqInt64S.f k x.1.1.1 x.1.2.1.1⟩
def laws_eqInt64S.E (k : Nat) : Ents := []
def laws_eqInt64S.L0 (l : (List Int) → (List Int) → Int → Option laws_eqInt64S.R) : LS laws_eqInt64S.R := ⟨[], [(0, ⟨false, [.lst (.int .i64)]⟩), (1, ⟨false, [.lst (.int .i64)]⟩), (5, ⟨false, [.int .i64]⟩)], [], fun x => l x.1.1.1 x.1.2.1.1 x.1.2.2.1.1⟩
def laws_eqInt64S.L (l0 : (List Int) → (List Int) → Int → Option laws_eqInt64S.R) : List (LS laws_eqInt64S.R) := [laws_eqInt64S.L0 l0]
def laws_eqInt64S.c : Code := Try.f14.body.getD .skip
theorem laws_eqInt64S.eq (k : Nat) (x) : (laws_eqInt64S.s k).pf x = execF tab (laws_eqInt64S.E k) Try.f14 laws_eqInt64S.c (laws_eqInt64S.s k) (laws_eqInt64S.L (laws_eqInt64S.l0 k)) x := by kernel_rfl
theorem laws_eqInt64S.r0 (l0 : (List Int) → (List Int) → Int → Option laws_eqInt64S.R) (k : Nat) (x) : laws_eqInt64S.l0_ k l0 x.1.1.1 x.1.2.1.1 x.1.2.2.1.1 = roundOf tab (laws_eqInt64S.E k) (laws_eqInt64S.L l0) laws_eqInt64S.c (fin tab Try.f14 (laws_eqInt64S.s k)) 0 (laws_eqInt64S.L0 l0) x := by kernel_rfl
theorem laws_eqInt64S.sound : ∀ k, Sound Try.prog 14 (laws_eqInt64S.s k) := sound_of mixed tab_ok (f := 14) (fn := Try.f14) (c := laws_eqInt64S.c) (by kernel_rfl) (by kernel_rfl) (by kernel_rfl) ⟨[⟨false, [.lst (.int .i64)]⟩, ⟨false, [.lst (.int .i64)]⟩], [], false, [⟨false, [.bool]⟩], [], []⟩ (by kernel_rfl) (by kernel_rfl) (fun k => (laws_eqInt64S.s k).pf) laws_eqInt64S.E (fun k => EntsOK.nil) (fun k => laws_eqInt64S.L (laws_eqInt64S.l0 k)) (fun k => ⟨rfl, trivial⟩) ⟨fun _ => rfl, trivial⟩ (fun k => ⟨⟨(laws_eqInt64S.L0 (laws_eqInt64S.l0 (k + 1))).l, rfl, fun x => laws_eqInt64S.r0 (laws_eqInt64S.l0 k) k x⟩, trivial⟩) laws_eqInt64S.eq
end
end Go.Proofs.Ytkfehogikjcgkaa.V
namespace Go.Proofs.Ytkfehogikjcgkaa.V
open Go
set_option linter.unusedVariables false
noncomputable section
/-! ### laws.eqPhi: function 167 -/
abbrev laws_eqPhi.R := (((Bool × Unit) × Unit) × Unit)
def laws_eqPhi.f (k : Nat) (a0 : tPhiD) (a1 : tPhiD) : Option laws_eqPhi.R := bif !decide (a0.1 = a1.1) then (some (((false, ()), ()), ())) else (Option.bind (laws_eqInt64S.f k a0.2.1 a1.2.1) fun r1 => bif !r1.1.1.1 then (some (((false, ()), ()), ())) else (some (((true, ()), ()), ())))
def laws_eqPhi.s (k : Nat) : FS := ⟨[⟨true, [.int .i64, .lst (.int .i64)]⟩, ⟨true, [.int .i64, .lst (.int .i64)]⟩], [], false, [⟨false, [.bool]⟩], [], [], fun x => laws_eqPhi.f k x.1.1 x.1.2.1⟩
def laws_eqPhi.E (k : Nat) : Ents := [(⟨14, []⟩, laws_eqInt64S.s k)]
def laws_eqPhi.L : List (LS laws_eqPhi.R) := []
def laws_eqPhi.c : Code := Try.f167.body.getD .skip
theorem laws_eqPhi.eq (k : Nat) (x) : (laws_eqPhi.s k).pf x = execF tab (laws_eqPhi.E k) Try.f167 laws_eqPhi.c (laws_eqPhi.s k) laws_eqPhi.L x := by kernel_rfl
theorem laws_eqPhi.sound : ∀ k, Sound Try.prog 167 (laws_eqPhi.s k) := sound_of mixed tab_ok (f := 167) (fn := Try.f167) (c := laws_eqPhi.c) (by kernel_rfl) (by kernel_rfl) (by kernel_rfl) ⟨[⟨true, [.int .i64, .lst (.int .i64)]⟩, ⟨true, [.int .i64, .lst (.int .i64)]⟩], [], false, [⟨false, [.bool]⟩], [], []⟩ (by kernel_rfl) (by kernel_rfl) (fun k => (laws_eqPhi.s k).pf) laws_eqPhi.E (fun k => (EntsOK.cons (laws_eqInt64S.sound k) EntsOK.nil)) (fun k => laws_eqPhi.L) (fun k => trivial) trivial (fun k => trivial) laws_eqPhi.eq
end
end Go.Proofs.Ytkfehogikjcgkaa.V
namespace Go.Proofs.Ytkfehogikjcgkaa.V
open Go
set_option linter.unusedVariables false
noncomputable section
/-! ### laws.eqPhiS: function 135 -/
abbrev laws_eqPhiS.R := (((Bool × Unit) × Unit) × Unit)
def laws_eqPhiS.l0_ (k : Nat) (l0 : (List tPhiD) → (List tPhiD) → Int → Option laws_eqPhiS.R) (a0 : List tPhiD) (a1 : List tPhiD) (a2 : Int) : Option laws_eqPhiS.R := bif decide (a2 < ((List.length a0 : Nat) : Int)) then (bif (decide (0 ≤ a2)) && (decide (a2 < ((List.length a0 : Nat) : Int))) then (bif (decide (0 ≤ a2)) && (decide (a2 < ((List.length a1 : Nat) : Int))) then (Option.bind (laws_eqPhi.f k (List.getD a0 (Int.toNat a2) tPhiZ) (List.getD a1 (Int.toNat a2) tPhiZ)) fun r1 => bif !r1.1.1.1 then (some (((false, ()), ()), ())) else (l0 a0 a1 (IntKind.wrap .i64 (a2 + 1)))) else none) else none) else (some (((true, ()), ()), ()))
def laws_eqPhiS.all : Nat → ((List tPhiD) → (List tPhiD) → Int → Option laws_eqPhiS.R) × Unit
  | 0 => (fun _ _ _ => none, ())
  | k + 1 => (laws_eqPhiS.l0_ k (laws_eqPhiS.all k).1, ())
def laws_eqPhiS.l0 (k : Nat) : (List tPhiD) → (List tPhiD) → Int → Option laws_eqPhiS.R := (laws_eqPhiS.all k).1
def laws_eqPhiS.f (k : Nat) (a0 : List tPhiD) (a1 : List tPhiD) : Option laws_eqPhiS.R := bif !decide (((List.length a0 : Nat) : Int) = ((List.length a1 : Nat) : Int)) then (some (((false, ()), ()), ())) else (laws_eqPhiS.l0 k a0 a1 0)
def laws_eqPhiS.s (k : Nat) : FS := ⟨[⟨false, [.lst tPhi]⟩, ⟨false, [.lst tPhi]⟩], [], false, [⟨false, [.bool]⟩], [], [], fun x => laws_eqPhiS.f k x.1.1.1 x.1.2.1.1⟩
def laws_eqPhiS.E (k : Nat) : Ents := [(⟨167, []⟩, laws_eqPhi.s k)]
def laws_eqPhiS.L0 (l : (List tPhiD) → (List tPhiD) → Int → Option laws_eqPhiS.R) : LS laws_eqPhiS.R := ⟨[], [(0, ⟨false, [.lst tPhi]⟩), (1, ⟨false, [.lst tPhi]⟩), (5, ⟨false, [.int .i64]⟩)], [], fun x => l x.1.1.1 x.1.2.1.1 x.1.2.2.1.1⟩
def laws_eqPhiS.L (l0 : (List tPhiD) → (List tPhiD) → Int → Option laws_eqPhiS.R) : List (LS laws_eqPhiS.R) := [laws_eqPhiS.L0 l0]
def laws_eqPhiS.c : Code := Try.f135.body.getD .skip
theorem laws_eqPhiS.eq (k : Nat) (x) : (laws_eqPhiS.s k).pf x = execF tab (laws_eqPhiS.E k) Try.f135 laws_eqPhiS.c (laws_eqPhiS.s k) (laws_eqPhiS.L (laws_eqPhiS.l0 k)) x := by kernel_rfl
theorem laws_eqPhiS.r0 (l0 : (List tPhiD) → (List tPhiD) → Int → Option laws_eqPhiS.R) (k : Nat) (x) : laws_eqPhiS.l0_ k l0 x.1.1.1 x.1.2.1.1 x.1.2.2.1.1 = roundOf tab (laws_eqPhiS.E k) (laws_eqPhiS.L l0) laws_eqPhiS.c (fin tab Try.f135 (laws_eqPhiS.s k)) 0 (laws_eqPhiS.L0 l0) x := by kernel_rfl
theorem laws_eqPhiS.sound : ∀ k, Sound Try.prog 135 (laws_eqPhiS.s k) := sound_of mixed tab_ok (f := 135) (fn := Try.f135) (c := laws_eqPhiS.c) (by kernel_rfl) (by kernel_rfl) (by kernel_rfl) ⟨[⟨false, [.lst tPhi]⟩, ⟨false, [.lst tPhi]⟩], [], false, [⟨false, [.bool]⟩], [], []⟩ (by kernel_rfl) (by kernel_rfl) (fun k => (laws_eqPhiS.s k).pf) laws_eqPhiS.E (fun k => (EntsOK.cons (laws_eqPhi.sound k) EntsOK.nil)) (fun k => laws_eqPhiS.L (laws_eqPhiS.l0 k)) (fun k => ⟨rfl, trivial⟩) ⟨fun _ => rfl, trivial⟩ (fun k => ⟨⟨(laws_eqPhiS.L0 (laws_eqPhiS.l0 (k + 1))).l, rfl, fun x => laws_eqPhiS.r0 (laws_eqPhiS.l0 k) k x⟩, trivial⟩) laws_eqPhiS.eq
end
end Go.Proofs.Ytkfehogikjcgkaa.V
namespace Go.Proofs.Ytkfehogikjcgkaa.V
open Go
set_option linter.unusedVariables false
noncomputable section
/-! ### laws.eqInst: function 168 -/
abbrev laws_eqInst.R := (((Bool × Unit) × Unit) × Unit)
def laws_eqInst.f (k : Nat) (a0 : tInstD) (a1 : tInstD) : Option laws_eqInst.R := bif !decide (a0.1 = a1.1) then (some (((false, ()), ()), ())) else (bif !decide (a0.2.1 = a1.2.1) then (some (((false, ()), ()), ())) else (bif !decide (a0.2.2.1 = a1.2.2.1) then (some (((false, ()), ()), ())) else (bif !decide (a0.2.2.2.1 = a1.2.2.2.1) then (some (((false, ()), ()), ())) else (bif !decide (a0.2.2.2.2.1 = a1.2.2.2.2.1) then (some (((false, ()), ()), ())) else (bif !decide (a0.2.2.2.2.2.1 = a1.2.2.2.2.2.1) then (some (((false, ()), ()), ())) else (Option.bind (laws_eqInt64S.f k a0.2.2.2.2.2.2.1 a1.2.2.2.2.2.2.1) fun r1 => bif !r1.1.1.1 then (some (((false, ()), ()), ())) else (some (((true, ()), ()), ()))))))))
def laws_eqInst.s (k : Nat) : FS := ⟨[⟨true, [.int .i64, .int .i64, .int .i64, .int .i64, .int .i64, .int .i64, .lst (.int .i64)]⟩, ⟨true, [.int .i64, .int .i64, .int .i64, .int .i64, .int .i64, .int .i64, .lst (.int .i64)]⟩], [], false, [⟨false, [.bool]⟩], [], [], fun x => laws_eqInst.f k x.1.1 x.1.2.1⟩
def laws_eqInst.E (k : Nat) : Ents := [(⟨14, []⟩, laws_eqInt64S.s k)]
def laws_eqInst.L : List (LS laws_eqInst.R) := []
def laws_eqInst.c : Code := Try.f168.body.getD .skip
theorem laws_eqInst.eq (k : Nat) (x) : (laws_eqInst.s k).pf x = execF tab (laws_eqInst.E k) Try.f168 laws_eqInst.c (laws_eqInst.s k) laws_eqInst.L x := by kernel_rfl
theorem laws_eqInst.sound : ∀ k, Sound Try.prog 168 (laws_eqInst.s k) := sound_of mixed tab_ok (f := 168) (fn := Try.f168) (c := laws_eqInst.c) (by kernel_rfl) (by kernel_rfl) (by kernel_rfl) ⟨[⟨true, [.int .i64, .int .i64, .int .i64, .int .i64, .int .i64, .int .i64, .lst (.int .i64)]⟩, ⟨true, [.int .i64, .int .i64, .int .i64, .int .i64, .int .i64, .int .i64, .lst (.int .i64)]⟩], [], false, [⟨false, [.bool]⟩], [], []⟩ (by kernel_rfl) (by kernel_rfl) (fun k => (laws_eqInst.s k).pf) laws_eqInst.E (fun k => (EntsOK.cons (laws_eqInt64S.sound k) EntsOK.nil)) (fun k => laws_eqInst.L) (fun k => trivial) trivial (fun k => trivial) laws_eqInst.eq
end
end Go.Proofs.Ytkfehogikjcgkaa.V
namespace Go.Proofs.Ytkfehogikjcgkaa.V
open Go
set_option linter.unusedVariables false
noncomputable section
/-! ### laws.eqInstS: function 136 -/
abbrev laws_eqInstS.R := (((Bool × Unit) × Unit) × Unit)
def laws_eqInstS.l0_ (k : Nat) (l0 : (List tInstD) → (List tInstD) → Int → Option laws_eqInstS.R) (a0 : List tInstD) (a1 : List tInstD) (a2 : Int) : Option laws_eqInstS.R := bif decide (a2 < ((List.length a0 : Nat) : Int)) then (bif (decide (0 ≤ a2)) && (decide (a2 < ((List.length a0 : Nat) : Int))) then (bif (decide (0 ≤ a2)) && (decide (a2 < ((List.length a1 : Nat) : Int))) then (Option.bind (laws_eqInst.f k (List.getD a0 (Int.toNat a2) tInstZ) (List.getD a1 (Int.toNat a2) tInstZ)) fun r1 => bif !r1.1.1.1 then (some (((false, ()), ()), ())) else (l0 a0 a1 (IntKind.wrap .i64 (a2 + 1)))) else none) else none) else (some (((true, ()), ()), ()))
def laws_eqInstS.all : Nat → ((List tInstD) → (List tInstD) → Int → Option laws_eqInstS.R) × Unit
  | 0 => (fun _ _ _ => none, ())
  | k + 1 => (laws_eqInstS.l0_ k (laws_eqInstS.all k).1, ())
def laws_eqInstS.l0 (k : Nat) : (List tInstD) → (List tInstD) → Int → Option laws_eqInstS.R := (laws_eqInstS.all k).1
def laws_eqInstS.f (k : Nat) (a0 : List tInstD) (a1 : List tInstD) : Option laws_eqInstS.R := bif !decide (((List.length a0 : Nat) : Int) = ((List.length a1 : Nat) : Int)) then (some (((false, ()), ()), ())) else (laws_eqInstS.l0 k a0 a1 0)
def laws_eqInstS.s (k : Nat) : FS := ⟨[⟨false, [.lst tInst]⟩, ⟨false, [.lst tInst]⟩], [], false, [⟨false, [.bool]⟩], [], [], fun x => laws_eqInstS.f k x.1.1.1 x.1.2.1.1⟩
def laws_eqInstS.E (k : Nat) : Ents := [(⟨168, []⟩, laws_eqInst.s k)]
def laws_eqInstS.L0 (l : (List tInstD) → (List tInstD) → Int → Option laws_eqInstS.R) : LS laws_eqInstS.R := ⟨[], [(0, ⟨false, [.lst tInst]⟩), (1, ⟨false, [.lst tInst]⟩), (5, ⟨false, [.int .i64]⟩)], [], fun x => l x.1.1.1 x.1.2.1.1 x.1.2.2.1.1⟩
def laws_eqInstS.L (l0 : (List tInstD) → (List tInstD) → Int → Option laws_eqInstS.R) : List (LS laws_eqInstS.R) := [laws_eqInstS.L0 l0]
def laws_eqInstS.c : Code := Try.f136.body.getD .skip
theorem laws_eqInstS.eq (k : Nat) (x) : (laws_eqInstS.s k).pf x = execF tab (laws_eqInstS.E k) Try.f136 laws_eqInstS.c (laws_eqInstS.s k) (laws_eqInstS.L (laws_eqInstS.l0 k)) x := by kernel_rfl
theorem laws_eqInstS.r0 (l0 : (List tInstD) → (List tInstD) → Int → Option laws_eqInstS.R) (k : Nat) (x) : laws_eqInstS.l0_ k l0 x.1.1.1 x.1.2.1.1 x.1.2.2.1.1 = roundOf tab (laws_eqInstS.E k) (laws_eqInstS.L l0) laws_eqInstS.c (fin tab Try.f136 (laws_eqInstS.s k)) 0 (laws_eqInstS.L0 l0) x := by kernel_rfl
theorem laws_eqInstS.sound : ∀ k, Sound Try.prog 136 (laws_eqInstS.s k) := sound_of mixed tab_ok (f := 136) (fn := Try.f136) (c := laws_eqInstS.c) (by kernel_rfl) (by kernel_rfl) (by kernel_rfl) ⟨[⟨false, [.lst tInst]⟩, ⟨false, [.lst tInst]⟩], [], false, [⟨false, [.bool]⟩], [], []⟩ (by kernel_rfl) (by kernel_rfl) (fun k => (laws_eqInstS.s k).pf) laws_eqInstS.E (fun k => (EntsOK.cons (laws_eqInst.sound k) EntsOK.nil)) (fun k => laws_eqInstS.L (laws_eqInstS.l0 k)) (fun k => ⟨rfl, trivial⟩) ⟨fun _ => rfl, trivial⟩ (fun k => ⟨⟨(laws_eqInstS.L0 (laws_eqInstS.l0 (k + 1))).l, rfl, fun x => laws_eqInstS.r0 (laws_eqInstS.l0 k) k x⟩, trivial⟩) laws_eqInstS.eq
end
end Go.Proofs.Ytkfehogikjcgkaa.V
namespace Go.Proofs.Ytkfehogikjcgkaa.V
open Go
set_option linter.unusedVariables false
noncomputable section
/-! ### laws.eqTerm: function 137 -/
abbrev laws_eqTerm.R := (((Bool × Unit) × Unit) × Unit)
def laws_eqTerm.f (k : Nat) (a0 : tTermD) (a1 : tTermD) : Option laws_eqTerm.R := bif !decide (a0.1 = a1.1) then (some (((false, ()), ()), ())) else (bif !decide (a0.2.1 = a1.2.1) then (some (((false, ()), ()), ())) else (bif !decide (a0.2.2.1 = a1.2.2.1) then (some (((false, ()), ()), ())) else (bif !decide (a0.2.2.2.1 = a1.2.2.2.1) then (some (((false, ()), ()), ())) else (some (((true, ()), ()), ())))))
def laws_eqTerm.s (k : Nat) : FS := ⟨[⟨true, [.int .i64, .int .i64, .int .i64, .int .i64]⟩, ⟨true, [.int .i64, .int .i64, .int .i64, .int .i64]⟩], [], false, [⟨false, [.bool]⟩], [], [], fun x => laws_eqTerm.f k x.1.1 x.1.2.1⟩
def laws_eqTerm.E (k : Nat) : Ents := []
def laws_eqTerm.L : List (LS laws_eqTerm.R) := []
def laws_eqTerm.c : Code := Try.f137.body.getD .skip
theorem laws_eqTerm.eq (k : Nat) (x) : (laws_eqTerm.s k).pf x = execF tab (laws_eqTerm.E k) Try.f137 laws_eqTerm.c (laws_eqTerm.s k) laws_eqTerm.L x := by kernel_rfl
theorem laws_eqTerm.sound : ∀ k, Sound Try.prog 137 (laws_eqTerm.s k) := sound_of mixed tab_ok (f := 137) (fn := Try.f137) (c := laws_eqTerm.c) (by kernel_rfl) (by kernel_rfl) (by kernel_rfl) ⟨[⟨true, [.int .i64, .int .i64, .int .i64, .int .i64]⟩, ⟨true, [.int .i64, .int .i64, .int .i64, .int .i64]⟩], [], false, [⟨false, [.bool]⟩], [], []⟩ (by kernel_rfl) (by kernel_rfl) (fun k => (laws_eqTerm.s k).pf) laws_eqTerm.E (fun k => EntsOK.nil) (fun k => laws_eqTerm.L) (fun k => trivial) trivial (fun k => trivial) laws_eqTerm.eq
end
end Go.Proofs.Ytkfehogikjcgkaa.V
namespace Go.Proofs.Ytkfehogikjcgkaa.V
open Go
set_option linter.unusedVariables false
noncomputable section
/-! ### laws.eqBlock: function 81 -/
abbrev laws_eqBlock.R := (((Bool × Unit) × Unit) × Unit)
def laws_eqBlock.f (k : Nat) (a0 : tBlockD) (a1 : tBlockD) : Option laws_eqBlock.R := Option.bind (laws_eqPhiS.f k a0.1 a1.1) fun r1 => bif !r1.1.1.1 then (some (((false, ()), ()), ())) else (Option.bind (laws_eqInstS.f k a0.2.1 a1.2.1) fun r2 => bif !r2.1.1.1 then (some (((false, ()), ()), ())) else (Option.bind (laws_eqTerm.f k a0.2.2 a1.2.2) fun r3 => bif !r3.1.1.1 then (some (((false, ()), ()), ())) else (some (((true, ()), ()), ()))))
def laws_eqBlock.s (k : Nat) : FS := ⟨[⟨true, [.lst tPhi, .lst tInst, .int .i64, .int .i64, .int .i64, .int .i64]⟩, ⟨true, [.lst tPhi, .lst tInst, .int .i64, .int .i64, .int .i64, .int .i64]⟩], [], false, [⟨false, [.bool]⟩], [], [], fun x => laws_eqBlock.f k x.1.1 x.1.2.1⟩
def laws_eqBlock.E (k : Nat) : Ents := [(⟨135, []⟩, laws_eqPhiS.s k), (⟨136, []⟩, laws_eqInstS.s k), (⟨137, []⟩, laws_eqTerm.s k)]
def laws_eqBlock.L : List (LS laws_eqBlock.R) := []
def laws_eqBlock.c : Code := Try.f81.body.getD .skip
theorem laws_eqBlock.eq (k : Nat) (x) : (laws_eqBlock.s k).pf x = execF tab (laws_eqBlock.E k) Try.f81 laws_eqBlock.c (laws_eqBlock.s k) laws_eqBlock.L x := by kernel_rfl
theorem laws_eqBlock.sound : ∀ k, Sound Try.prog 81 (laws_eqBlock.s k) := sound_of mixed tab_ok (f := 81) (fn := Try.f81) (c := laws_eqBlock.c) (by kernel_rfl) (by kernel_rfl) (by kernel_rfl) ⟨[⟨true, [.lst tPhi, .lst tInst, .int .i64, .int .i64, .int .i64, .int .i64]⟩, ⟨true, [.lst tPhi, .lst tInst, .int .i64, .int .i64, .int .i64, .int .i64]⟩], [], false, [⟨false, [.bool]⟩], [], []⟩ (by kernel_rfl) (by kernel_rfl) (fun k => (laws_eqBlock.s k).pf) laws_eqBlock.E (fun k => (EntsOK.cons (laws_eqPhiS.sound k) (EntsOK.cons (laws_eqInstS.sound k) (EntsOK.cons (laws_eqTerm.sound k) EntsOK.nil)))) (fun k => laws_eqBlock.L) (fun k => trivial) trivial (fun k => trivial) laws_eqBlock.eq
end
end Go.Proofs.Ytkfehogikjcgkaa.V
namespace Go.Proofs.Ytkfehogikjcgkaa.V
open Go
set_option linter.unusedVariables false
noncomputable section
/-! ### laws.eqBlockS: function 43 -/
abbrev laws_eqBlockS.R := (((Bool × Unit) × Unit) × Unit)
def laws_eqBlockS.l0_ (k : Nat) (l0 : (List tBlockD) → (List tBlockD) → Int → Option laws_eqBlockS.R) (a0 : List tBlockD) (a1 : List tBlockD) (a2 : Int) : Option laws_eqBlockS.R := bif decide (a2 < ((List.length a0 : Nat) : Int)) then (bif (decide (0 ≤ a2)) && (decide (a2 < ((List.length a0 : Nat) : Int))) then (bif (decide (0 ≤ a2)) && (decide (a2 < ((List.length a1 : Nat) : Int))) then (Option.bind (laws_eqBlock.f k (List.getD a0 (Int.toNat a2) tBlockZ) (List.getD a1 (Int.toNat a2) tBlockZ)) fun r1 => bif !r1.1.1.1 then (some (((false, ()), ()), ())) else (l0 a0 a1 (IntKind.wrap .i64 (a2 + 1)))) else none) else none) else (some (((true, ()), ()), ()))
def laws_eqBlockS.all : Nat → ((List tBlockD) → (List tBlockD) → Int → Option laws_eqBlockS.R) × Unit
  | 0 => (fun _ _ _ => none, ())
  | k + 1 => (laws_eqBlockS.l0_ k (laws_eqBlockS.all k).1, ())
def laws_eqBlockS.l0 (k : Nat) : (List tBlockD) → (List tBlockD) → Int → Option laws_eqBlockS.R := (laws_eqBlockS.all k).1
def laws_eqBlockS.f (k : Nat) (a0 : List tBlockD) (a1 : List tBlockD) : Option laws_eqBlockS.R := bif !decide (((List.length a0 : Nat) : Int) = ((List.length a1 : Nat) : Int)) then (some (((false, ()), ()), ())) else (laws_eqBlockS.l0 k a0 a1 0)
def laws_eqBlockS.s (k : Nat) : FS := ⟨[⟨false, [.lst tBlock]⟩, ⟨false, [.lst tBlock]⟩], [], false, [⟨false, [.bool]⟩], [], [], fun x => laws_eqBlockS.f k x.1.1.1 x.1.2.1.1⟩
def laws_eqBlockS.E (k : Nat) : Ents := [(⟨81, []⟩, laws_eqBlock.s k)]
def laws_eqBlockS.L0 (l : (List tBlockD) → (List tBlockD) → Int → Option laws_eqBlockS.R) : LS laws_eqBlockS.R := ⟨[], [(0, ⟨false, [.lst tBlock]⟩), (1, ⟨false, [.lst tBlock]⟩), (5, ⟨false, [.int .i64]⟩)], [], fun x => l x.1.1.1 x.1.2.1.1 x.1.2.2.1.1⟩
def laws_eqBlockS.L (l0 : (List tBlockD) → (List tBlockD) → Int → Option laws_eqBlockS.R) : List (LS laws_eqBlockS.R) := [laws_eqBlockS.L0 l0]
def laws_eqBlockS.c : Code := Try.f43.body.getD .skip
theorem laws_eqBlockS.eq (k : Nat) (x) : (laws_eqBlockS.s k).pf x = execF tab (laws_eqBlockS.E k) Try.f43 laws_eqBlockS.c (laws_eqBlockS.s k) (laws_eqBlockS.L (laws_eqBlockS.l0 k)) x := by kernel_rfl
theorem laws_eqBlockS.r0 (l0 : (List tBlockD) → (List tBlockD) → Int → Option laws_eqBlockS.R) (k : Nat) (x) : laws_eqBlockS.l0_ k l0 x.1.1.1 x.1.2.1.1 x.1.2.2.1.1 = roundOf tab (laws_eqBlockS.E k) (laws_eqBlockS.L l0) laws_eqBlockS.c (fin tab Try.f43 (laws_eqBlockS.s k)) 0 (laws_eqBlockS.L0 l0) x := by kernel_rfl
theorem laws_eqBlockS.sound : ∀ k, Sound Try.prog 43 (laws_eqBlockS.s k) := sound_of mixed tab_ok (f := 43) (fn := Try.f43) (c := laws_eqBlockS.c) (by kernel_rfl) (by kernel_rfl) (by kernel_rfl) ⟨[⟨false, [.lst tBlock]⟩, ⟨false, [.lst tBlock]⟩], [], false, [⟨false, [.bool]⟩], [], []⟩ (by kernel_rfl) (by kernel_rfl) (fun k => (laws_eqBlockS.s k).pf) laws_eqBlockS.E (fun k => (EntsOK.cons (laws_eqBlock.sound k) EntsOK.nil)) (fun k => laws_eqBlockS.L (laws_eqBlockS.l0 k)) (fun k => ⟨rfl, trivial⟩) ⟨fun _ => rfl, trivial⟩ (fun k => ⟨⟨(laws_eqBlockS.L0 (laws_eqBlockS.l0 (k + 1))).l, rfl, fun x => laws_eqBlockS.r0 (laws_eqBlockS.l0 k) k x⟩, trivial⟩) laws_eqBlockS.eq
end
end Go.Proofs.Ytkfehogikjcgkaa.V
namespace Go.Proofs.Ytkfehogikjcgkaa.V
open Go
set_option linter.unusedVariables false
noncomputable section
/-! ### laws.eqFunc: function 15 -/
abbrev laws_eqFunc.R := (((Bool × Unit) × Unit) × Unit)
def laws_eqFunc.f (k : Nat) (a0 : tFuncD) (a1 : tFuncD) : Option laws_eqFunc.R := Option.bind (laws_eqInt64S.f k a0.1 a1.1) fun r1 => bif !r1.1.1.1 then (some (((false, ()), ()), ())) else (bif !decide (a0.2.1 = a1.2.1) then (some (((false, ()), ()), ())) else (Option.bind (laws_eqBlockS.f k a0.2.2.1 a1.2.2.1) fun r2 => bif !r2.1.1.1 then (some (((false, ()), ()), ())) else (some (((true, ()), ()), ()))))
def laws_eqFunc.s (k : Nat) : FS := ⟨[⟨true, [.lst (.int .i64), .int .i64, .lst tBlock]⟩, ⟨true, [.lst (.int .i64), .int .i64, .lst tBlock]⟩], [], false, [⟨false, [.bool]⟩], [], [], fun x => laws_eqFunc.f k x.1.1 x.1.2.1⟩
def laws_eqFunc.E (k : Nat) : Ents := [(⟨14, []⟩, laws_eqInt64S.s k), (⟨43, []⟩, laws_eqBlockS.s k)]
def laws_eqFunc.L : List (LS laws_eqFunc.R) := []
def laws_eqFunc.c : Code := Try.f15.body.getD .skip
theorem laws_eqFunc.eq (k : Nat) (x) : (laws_eqFunc.s k).pf x = execF tab (laws_eqFunc.E k) Try.f15 laws_eqFunc.c (laws_eqFunc.s k) laws_eqFunc.L x := by kernel_rfl
theorem laws_eqFunc.sound : ∀ k, Sound Try.prog 15 (laws_eqFunc.s k) := sound_of mixed tab_ok (f := 15) (fn := Try.f15) (c := laws_eqFunc.c) (by kernel_rfl) (by kernel_rfl) (by kernel_rfl) ⟨[⟨true, [.lst (.int .i64), .int .i64, .lst tBlock]⟩, ⟨true, [.lst (.int .i64), .int .i64, .lst tBlock]⟩], [], false, [⟨false, [.bool]⟩], [], []⟩ (by kernel_rfl) (by kernel_rfl) (fun k => (laws_eqFunc.s k).pf) laws_eqFunc.E (fun k => (EntsOK.cons (laws_eqInt64S.sound k) (EntsOK.cons (laws_eqBlockS.sound k) EntsOK.nil))) (fun k => laws_eqFunc.L) (fun k => trivial) trivial (fun k => trivial) laws_eqFunc.eq
end
end Go.Proofs.Ytkfehogikjcgkaa.V
namespace Go.Proofs.Ytkfehogikjcgkaa.V
open Go
set_option linter.unusedVariables false
noncomputable section
/-! ### laws.eqFuncS: function 59 -/
abbrev laws_eqFuncS.R := (((Bool × Unit) × Unit) × Unit)
def laws_eqFuncS.l0_ (k : Nat) (l0 : (List tFuncD) → (List tFuncD) → Int → Option laws_eqFuncS.R) (a0 : List tFuncD) (a1 : List tFuncD) (a2 : Int) : Option laws_eqFuncS.R := bif decide (a2 < ((List.length a0 : Nat) : Int)) then (bif (decide (0 ≤ a2)) && (decide (a2 < ((List.length a0 : Nat) : Int))) then (bif (decide (0 ≤ a2)) && (decide (a2 < ((List.length a1 : Nat) : Int))) then (Option.bind (laws_eqFunc.f k (List.getD a0 (Int.toNat a2) tFuncZ) (List.getD a1 (Int.toNat a2) tFuncZ)) fun r1 => bif !r1.1.1.1 then (some (((false, ()), ()), ())) else (l0 a0 a1 (IntKind.wrap .i64 (a2 + 1)))) else none) else none) else (some (((true, ()), ()), ()))
def laws_eqFuncS.all : Nat → ((List tFuncD) → (List tFuncD) → Int → Option laws_eqFuncS.R) × Unit
  | 0 => (fun _ _ _ => none, ())
  | k + 1 => (laws_eqFuncS.l0_ k (laws_eqFuncS.all k).1, ())
def laws_eqFuncS.l0 (k : Nat) : (List tFuncD) → (List tFuncD) → Int → Option laws_eqFuncS.R := (laws_eqFuncS.all k).1
def laws_eqFuncS.f (k : Nat) (a0 : List tFuncD) (a1 : List tFuncD) : Option laws_eqFuncS.R := bif !decide (((List.length a0 : Nat) : Int) = ((List.length a1 : Nat) : Int)) then (some (((false, ()), ()), ())) else (laws_eqFuncS.l0 k a0 a1 0)
def laws_eqFuncS.s (k : Nat) : FS := ⟨[⟨false, [.lst tFunc]⟩, ⟨false, [.lst tFunc]⟩], [], false, [⟨false, [.bool]⟩], [], [], fun x => laws_eqFuncS.f k x.1.1.1 x.1.2.1.1⟩
def laws_eqFuncS.E (k : Nat) : Ents := [(⟨15, []⟩, laws_eqFunc.s k)]
def laws_eqFuncS.L0 (l : (List tFuncD) → (List tFuncD) → Int → Option laws_eqFuncS.R) : LS laws_eqFuncS.R := ⟨[], [(0, ⟨false, [.lst tFunc]⟩), (1, ⟨false, [.lst tFunc]⟩), (5, ⟨false, [.int .i64]⟩)], [], fun x => l x.1.1.1 x.1.2.1.1 x.1.2.2.1.1⟩
def laws_eqFuncS.L (l0 : (List tFuncD) → (List tFuncD) → Int → Option laws_eqFuncS.R) : List (LS laws_eqFuncS.R) := [laws_eqFuncS.L0 l0]
def laws_eqFuncS.c : Code := Try.f59.body.getD .skip
theorem laws_eqFuncS.eq (k : Nat) (x) : (laws_eqFuncS.s k).pf x = execF tab (laws_eqFuncS.E k) Try.f59 laws_eqFuncS.c (laws_eqFuncS.s k) (laws_eqFuncS.L (laws_eqFuncS.l0 k)) x := by kernel_rfl
theorem laws_eqFuncS.r0 (l0 : (List tFuncD) → (List tFuncD) → Int → Option laws_eqFuncS.R) (k : Nat) (x) : laws_eqFuncS.l0_ k l0 x.1.1.1 x.1.2.1.1 x.1.2.2.1.1 = roundOf tab (laws_eqFuncS.E k) (laws_eqFuncS.L l0) laws_eqFuncS.c (fin tab Try.f59 (laws_eqFuncS.s k)) 0 (laws_eqFuncS.L0 l0) x := by kernel_rfl
theorem laws_eqFuncS.sound : ∀ k, Sound Try.prog 59 (laws_eqFuncS.s k) := sound_of mixed tab_ok (f := 59) (fn := Try.f59) (c := laws_eqFuncS.c) (by kernel_rfl) (by kernel_rfl) (by kernel_rfl) ⟨[⟨false, [.lst tFunc]⟩, ⟨false, [.lst tFunc]⟩], [], false, [⟨false, [.bool]⟩], [], []⟩ (by kernel_rfl) (by kernel_rfl) (fun k => (laws_eqFuncS.s k).pf) laws_eqFuncS.E (fun k => (EntsOK.cons (laws_eqFunc.sound k) EntsOK.nil)) (fun k => laws_eqFuncS.L (laws_eqFuncS.l0 k)) (fun k => ⟨rfl, trivial⟩) ⟨fun _ => rfl, trivial⟩ (fun k => ⟨⟨(laws_eqFuncS.L0 (laws_eqFuncS.l0 (k + 1))).l, rfl, fun x => laws_eqFuncS.r0 (laws_eqFuncS.l0 k) k x⟩, trivial⟩) laws_eqFuncS.eq
end
end Go.Proofs.Ytkfehogikjcgkaa.V
namespace Go.Proofs.Ytkfehogikjcgkaa.V
open Go
set_option linter.unusedVariables false
noncomputable section
/-! ### laws.eqModule: function 27 -/
abbrev laws_eqModule.R := (((Bool × Unit) × Unit) × Unit)
def laws_eqModule.f (k : Nat) (a0 : tModuleD) (a1 : tModuleD) : Option laws_eqModule.R := Option.bind (laws_eqFuncS.f k a0.1 a1.1) fun r1 => bif !r1.1.1.1 then (some (((false, ()), ()), ())) else (some (((true, ()), ()), ()))
def laws_eqModule.s (k : Nat) : FS := ⟨[⟨true, [.lst tFunc]⟩, ⟨true, [.lst tFunc]⟩], [], false, [⟨false, [.bool]⟩], [], [], fun x => laws_eqModule.f k x.1.1 x.1.2.1⟩
def laws_eqModule.E (k : Nat) : Ents := [(⟨59, []⟩, laws_eqFuncS.s k)]
def laws_eqModule.L : List (LS laws_eqModule.R) := []
def laws_eqModule.c : Code := Try.f27.body.getD .skip
theorem laws_eqModule.eq (k : Nat) (x) : (laws_eqModule.s k).pf x = execF tab (laws_eqModule.E k) Try.f27 laws_eqModule.c (laws_eqModule.s k) laws_eqModule.L x := by kernel_rfl
theorem laws_eqModule.sound : ∀ k, Sound Try.prog 27 (laws_eqModule.s k) := sound_of mixed tab_ok (f := 27) (fn := Try.f27) (c := laws_eqModule.c) (by kernel_rfl) (by kernel_rfl) (by kernel_rfl) ⟨[⟨true, [.lst tFunc]⟩, ⟨true, [.lst tFunc]⟩], [], false, [⟨false, [.bool]⟩], [], []⟩ (by kernel_rfl) (by kernel_rfl) (fun k => (laws_eqModule.s k).pf) laws_eqModule.E (fun k => (EntsOK.cons (laws_eqFuncS.sound k) EntsOK.nil)) (fun k => laws_eqModule.L) (fun k => trivial) trivial (fun k => trivial) laws_eqModule.eq
end
end Go.Proofs.Ytkfehogikjcgkaa.V
namespace Go.Proofs.Ytkfehogikjcgkaa.V
open Go
set_option linter.unusedVariables false
noncomputable section
/-! ### laws.FnExactModuleBytes: function 7 -/
abbrev laws_FnExactModuleBytes.R := (((Bool × Unit) × Unit) × Unit)
def laws_FnExactModuleBytes.f (k : Nat) (a0 : tModuleD) : Option laws_FnExactModuleBytes.R := Option.bind (laws_szModule.f k (a0.1, ()) 1048576) fun r1 => bif decide (r1.1.1.1 < 0) then (some (((true, ()), ()), ())) else (Option.bind (laws_toModule.f k (a0.1, ())) fun r2 => Option.bind (spec_ModuleBytes.f k (r2.2.1, ())) fun r3 => Option.bind (laws_toModule.f k (a0.1, ())) fun r4 => Option.bind (impl_ModuleBytes.f k (r4.2.1, ())) fun r5 => bif !strEq r5.1.1.1 r3.1.1.1 then (some (((false, ()), ()), ())) else (Option.bind (laws_toModule.f k (a0.1, ())) fun r6 => Option.bind (laws_eqModule.f k (r4.2.1, ()) (r6.2.1, ())) fun r7 => bif !r7.1.1.1 then (some (((false, ()), ()), ())) else (some (((true, ()), ()), ()))))
def laws_FnExactModuleBytes.s (k : Nat) : FS := ⟨[⟨true, [.lst tFunc]⟩], [], false, [⟨false, [.bool]⟩], [], [], fun x => laws_FnExactModuleBytes.f k x.1.1⟩
def laws_FnExactModuleBytes.E (k : Nat) : Ents := [(⟨23, []⟩, laws_szModule.s k), (⟨25, []⟩, laws_toModule.s k), (⟨28, []⟩, spec_ModuleBytes.s k), (⟨29, []⟩, impl_ModuleBytes.s k), (⟨27, []⟩, laws_eqModule.s k)]
def laws_FnExactModuleBytes.L : List (LS laws_FnExactModuleBytes.R) := []
def laws_FnExactModuleBytes.c : Code := Try.f7.body.getD .skip
theorem laws_FnExactModuleBytes.eq (k : Nat) (x) : (laws_FnExactModuleBytes.s k).pf x = execF tab (laws_FnExactModuleBytes.E k) Try.f7 laws_FnExactModuleBytes.c (laws_FnExactModuleBytes.s k) laws_FnExactModuleBytes.L x := by kernel_rfl
theorem laws_FnExactModuleBytes.sound : ∀ k, Sound Try.prog 7 (laws_FnExactModuleBytes.s k) := sound_of mixed tab_ok (f := 7) (fn := Try.f7) (c := laws_FnExactModuleBytes.c) (by kernel_rfl) (by kernel_rfl) (by kernel_rfl) ⟨[⟨true, [.lst tFunc]⟩], [], false, [⟨false, [.bool]⟩], [], []⟩ (by kernel_rfl) (by kernel_rfl) (fun k => (laws_FnExactModuleBytes.s k).pf) laws_FnExactModuleBytes.E (fun k => (EntsOK.cons (laws_szModule.sound k) (EntsOK.cons (laws_toModule.sound k) (EntsOK.cons (spec_ModuleBytes.sound k) (EntsOK.cons (impl_ModuleBytes.sound k) (EntsOK.cons (laws_eqModule.sound k) EntsOK.nil)))))) (fun k => laws_FnExactModuleBytes.L) (fun k => trivial) trivial (fun k => trivial) laws_FnExactModuleBytes.eq
end
end Go.Proofs.Ytkfehogikjcgkaa.V
namespace Go.Proofs.Ytkfehogikjcgkaa.V
open Go Go.Deep Go.RowKit
set_option linter.unusedVariables false
set_option linter.unusedSimpArgs false
/-- What is known of a datum that was read. -/
def Wf : (t : T) → t.Den → Prop
  | .int k, n => (Lit.int k n).wf = true
  | .bool, _ => True
  | .str, s => ByteArray.size s ≤ 9223372036854775807
  | .list t, xs => List.length (α := t.Den) xs ≤ 9223372036854775807 ∧ ∀ x : t.Den, List.Mem (α := t.Den) x xs → Wf t x
  | .pair a b, x => Wf a (Prod.fst (α := a.Den) (β := b.Den) x) ∧ Wf b (Prod.snd (α := a.Den) (β := b.Den) x)
  | .unit, _ => True
def OpensC (P : Program) (ty : TypeId) (t r : T) : Prop :=
  ∀ (H : Type) (enc : TypeId × Value → H) (w : World) (base : Nat) (spare : Nat → Bool) (held : Bool) (fuel : Nat) (cs : List Value) (x : DataW H × List MemPlace), DataW.trod enc P w base spare held fuel ty cs = some x →
    ∀ (y : r.Den) (us : List Value), Rd (fun b => b < w.heap.size) w r y us → Wf r y → ∃ a : t.Den, Rd (fun b => b < w.heap.size) w t a (cs ++ us) ∧ Wf t a
def Opens (P : Program) (ty : TypeId) (t : T) : Prop :=
  ∀ (H : Type) (enc : TypeId × Value → H) (w : World) (base : Nat) (spare : Nat → Bool) (held : Bool) (fuel : Nat) (cs : List Value) (x : DataW H × List MemPlace), DataW.trod enc P w base spare held fuel ty cs = some x →
    ∃ a : t.Den, Rd (fun b => b < w.heap.size) w t a cs ∧ Wf t a
theorem OpensC.whole {P : Program} {ty : TypeId} {t : T} (h : OpensC P ty t .unit) : Opens P ty t := by
  intro H enc w base spare held fuel cs x hx
  obtain ⟨a, h1, h2⟩ := h H enc w base spare held fuel cs x hx () [] rfl trivial
  rw [List.append_nil] at h1
  exact ⟨a, h1, h2⟩
theorem OpensC.one {P : Program} {ty : TypeId} {e : T} (h : OpensC P ty (.pair e .unit) .unit) : Opens P ty e := by
  intro H enc w base spare held fuel cs x hx
  obtain ⟨a, ⟨us, ws, h0, h1, h2⟩, h3⟩ := h H enc w base spare held fuel cs x hx () [] rfl trivial
  simp only [Rd] at h2
  subst h2
  simp only [List.append_nil] at h0
  subst h0
  exact ⟨_, h1, h3.1⟩
theorem OpensC.leaf {P : Program} {ty : TypeId} {e r : T} (h : Opens P ty e) : OpensC P ty (.pair e r) r := by
  intro H enc w base spare held fuel cs x hx y us hy hw
  obtain ⟨a, h1, h2⟩ := h H enc w base spare held fuel cs x hx
  exact ⟨(a, y), ⟨cs, us, rfl, h1, hy⟩, h2, hw⟩
theorem opens_list {P : Program} {ty el : TypeId} {e : T} (hu : P.underlying ty = some (.slice el)) (hc : P.cellsOf el = e.sz) (h1 : 1 ≤ e.sz) (h : Opens P el e) : Opens P ty (.list e) := by
  intro H enc w base spare held fuel cs x hx
  rcases open_slice hu hx with ⟨rfl, -⟩ | ⟨a, len, cap, m, n, D, Pl, rfl, hb, hl, hm, hmm, -, hel⟩
  · exact ⟨([] : List e.Den), ⟨none, 0, rfl, Nat.le_refl _, fun h => absurd rfl h⟩, Nat.zero_le _, fun _ h => (List.not_mem_nil h).elim⟩
  · have hlm : len ≤ m := by rw [hmm]; split <;> omega
    have hspot : len ≠ 0 → a.spot = none ∧ a.block < w.heap.size := by
      intro hn
      obtain ⟨cs', c1, c2⟩ := hel 0 (by omega)
      obtain ⟨-, l1, l2⟩ := World.cells?_some c1
      rw [hc] at l1 l2
      have h0 := l2 0 (by omega)
      simp only [Nat.zero_mul, Addr.add, if_true] at h0
      rw [List.getElem?_eq_getElem (by omega)] at h0
      unfold World.cell? at h0
      split at h0
      · rename_i hh
        refine ⟨?_, (Array.getElem?_eq_some_iff.1 hh).1⟩
        split at h0
        · cases h0
        · rename_i hs
          simpa using hs
      · cases h0
    have hadd : len ≠ 0 → ∀ n, a.add n = ⟨a.block, a.off + n, none⟩ := by
      intro hn n
      have hs := (hspot hn).1
      unfold Addr.add
      split
      · rename_i h0
        subst h0
        cases a
        simp only at hs
        subst hs
        rfl
      · rfl
    have each : ∀ n, n ≤ len → ∃ (xs : List e.Den) (us : List Value), xs.length = n ∧ (∀ x ∈ xs, Wf e x) ∧ At w a.block a.off us ∧ ELs (Rd (fun b => b < w.heap.size) w e) e.sz xs us := by
      intro n
      induction n with
      | zero => exact fun _ => ⟨[], [], rfl, fun _ h => (List.not_mem_nil h).elim, fun j v hj => by simp at hj, rfl⟩
      | succ n ih =>
        intro hn
        obtain ⟨xs, us, i1, i2, i4, i5⟩ := ih (by omega)
        obtain ⟨cs', c1, c2⟩ := hel n (by omega)
        obtain ⟨y, y1, y2⟩ := h H enc w base spare held _ cs' _ c2
        obtain ⟨-, l1, l2⟩ := World.cells?_some c1
        rw [hc] at l1 l2
        have hcell : ∀ j, j < e.sz → w.cell? ⟨a.block, a.off + (n * e.sz + j), none⟩ = cs'[j]? := by
          intro j hj
          have := l2 j hj
          rw [Deep.add_add, hadd (by omega)] at this
          exact this
        refine ⟨xs ++ [y], us ++ cs', by simp [i1], fun x hx => ?_, fun j v hj => ?_, ?_⟩
        · rcases List.mem_append.1 hx with hx | hx
          · exact i2 x hx
          · simp only [List.mem_singleton] at hx; subst hx; exact y2
        · have hul : us.length = n * e.sz := by have := i5.length; rw [i1] at this; exact this
          rcases Nat.lt_or_ge j us.length with hlt | hge
          · rw [List.getElem?_append_left hlt] at hj
            exact i4 j v hj
          · rw [List.getElem?_append_right hge] at hj
            have hlt := (List.getElem?_eq_some_iff.1 hj).1
            have := hcell (j - us.length) (by omega)
            rw [hj, show a.off + (n * e.sz + (j - us.length)) = a.off + j by omega] at this
            exact this
        · refine i5.app ⟨cs', [], by simp, l1, y1, rfl⟩
    obtain ⟨xs, us, i1, i2, i4, i5⟩ := each len (Nat.le_refl _)
    refine ⟨xs, ⟨some a, cap, by rw [i1], by omega, fun hne => ?_⟩, ?_, i2⟩
    · have hn : len ≠ 0 := fun h0 => hne (List.length_eq_zero_iff.1 (by omega))
      obtain ⟨s1, s2⟩ := hspot hn
      refine ⟨a.block, a.off, us, ?_, s2, i4, i5⟩
      cases a
      simp only at s1
      subst s1
      rfl
    · have : cap ≤ maxLen := hm
      unfold maxLen at this
      show xs.length ≤ _
      omega
theorem opens_int {P : Program} {t : TypeId} {k : IntKind} (hu : P.underlying t = some (.int k)) : Opens P t (.int k) := by
  intro H enc w base spare held fuel cs x h
  obtain ⟨n, rfl, -, hw⟩ := DataW.trod_int hu h
  exact ⟨n, rfl, hw⟩
/-- Fields from place o on, of m cells. -/
def OpensF (P : Program) (o m : Nat) (fs : List Field) (t r : T) : Prop :=
  ∀ (H : Type) (enc : TypeId × Value → H) (w : World) (base : Nat) (spare : Nat → Bool) (held : Bool) (fuel : Nat) (cs : List Value),
    (∀ f ∈ fs, ∃ x, DataW.trod enc P w base spare held fuel f.type ((cs.drop f.offset).take (P.cellsOf f.type)) = some x) → cs.length = o + m →
    ∀ (y : r.Den) (us : List Value), Rd (fun b => b < w.heap.size) w r y us → Wf r y → ∃ a : t.Den, Rd (fun b => b < w.heap.size) w t a (cs.drop o ++ us) ∧ Wf t a
theorem opensF_nil {P : Program} {o : Nat} {t : T} : OpensF P o 0 [] t t := by
  intro H enc w base spare held fuel cs h hl y us hy hw
  refine ⟨y, ?_, hw⟩
  rw [List.drop_eq_nil_of_le (by omega), List.nil_append]
  exact hy
theorem opensF_cons {P : Program} {o m n : Nat} {f : Field} {fs : List Field} {t t1 r : T} (ho : f.offset = o) (hc : P.cellsOf f.type = m) (hd : OpensC P f.type t t1) (hs : OpensF P (o + m) n fs t1 r) : OpensF P o (m + n) (f :: fs) t r := by
  intro H enc w base spare held fuel cs h hl y us hy hw
  obtain ⟨x, hx⟩ := h f (by simp)
  obtain ⟨a1, q1, q2⟩ := hs H enc w base spare held fuel cs (fun f hf => h f (by simp [hf])) (by omega) y us hy hw
  rw [ho, hc] at hx
  obtain ⟨a, q3, q4⟩ := hd H enc w base spare held fuel _ _ hx a1 _ q1 q2
  refine ⟨a, ?_, q4⟩
  rw [← List.append_assoc, ← List.drop_drop, List.take_append_drop] at q3
  exact q3
theorem opensC_struct {P : Program} {ty : TypeId} {fs : Array Field} {m : Nat} {t r : T} (hu : P.underlying ty = some (.struct fs)) (hc : P.cellsOf ty = m) (hd : OpensF P 0 m fs.toList t r) : OpensC P ty t r := by
  intro H enc w base spare held fuel cs x h y us hy hw
  obtain ⟨xs, n, -, -, hl, hxs, hf⟩ := DataW.trod_struct hu h
  have := hd H enc w base spare held n cs (fun f hm => by
    obtain ⟨i, hi, rfl⟩ := List.getElem_of_mem hm
    have hi' : i < fs.size := by simpa using hi
    have := hf i fs[i] (by simp [hi'])
    rw [List.getElem?_eq_getElem (by omega)] at this
    exact ⟨_, by simpa using this⟩) (by rw [hl, hc, Nat.zero_add]) y us hy hw
  simpa using this
/-! ### a law -/
def gh0 (W : World) : Gh := ⟨fun _ => none, fun _ => none, fun b => b < W.heap.size⟩
theorem rval_struct {W : World} {t : T} {a : t.Den} {cs : Array Value} (h : Rd (fun b => b < W.heap.size) W t a cs.toList) : RVal (gh0 W) [] W true (cellsOf t a) (.agg cs) :=
  ⟨cs, rfl, rcs_cells (g := gh0 W) h⟩
theorem law_calls {P : Program} {f : FuncId} {ins : List VS} {pf : DenV ins × DenO [] → Option (DenV [⟨false, [.bool]⟩] × DenO [])} (hs : Sound P f ⟨ins, [], false, [⟨false, [.bool]⟩], [], [], pf⟩) {x : DenV ins} (hx : pf (x, ()) = some (((true, ()), ()), ())) {W : World} {args : Array Value}
    (h : RVals (gh0 W) [] W (instV ins x) args.toList) : Calls P f args W fun e W' => e = .returned (.bool true) ∧ Below W.heap.size W W' := by
  have hG : RelG (gh0 W) [] W := ⟨fun o ob h => (by cases h), fun b o h => (by cases h), fun b h => h⟩
  refine (hs.2 (x, ()) (((true, ()), ()), ()) hx (gh0 W) W args hG h).mono fun e W' he => ?_
  cases e with
  | returned v =>
    obtain ⟨g', O⟩ := he
    have hv : RVal g' [] W' false [.bool true] v := O.val
    obtain ⟨u, us, e, h1, h2⟩ := hv
    obtain ⟨rfl, rfl⟩ : u = v ∧ us = [] := by simpa using e.symm
    have h3 : u = .bool true := h1.2
    refine ⟨by rw [h3], O.ext.os, O.ext.tape, O.ext.output, O.ext.size, fun k hk => O.ext.block k hk (by simp [gh0])⟩
  | panicked c => exact he.elim
  | outgrown => exact he.elim
end Go.Proofs.Ytkfehogikjcgkaa.V
namespace Go.Proofs.Ytkfehogikjcgkaa.V
open Go
set_option linter.unusedVariables false
theorem opensC165 (r : T) : OpensC Try.prog 165 (.pair (.int .i64) (.pair (.list (.int .i64)) r)) r := opensC_struct Try.underlying165 (by kernel_rfl) (opensF_cons (o := 0) (m := 1) (n := 1) rfl (by kernel_rfl) (OpensC.leaf (opens_int Try.underlying2)) (opensF_cons (o := 1) (m := 1) (n := 0) rfl (by kernel_rfl) (OpensC.leaf (opens_list Try.underlying22 (by kernel_rfl) (by decide) (opens_int Try.underlying2))) opensF_nil))
theorem opensC167 (r : T) : OpensC Try.prog 167 (.pair (.int .i64) (.pair (.int .i64) (.pair (.int .i64) (.pair (.int .i64) (.pair (.int .i64) (.pair (.int .i64) (.pair (.list (.int .i64)) r))))))) r := opensC_struct Try.underlying167 (by kernel_rfl) (opensF_cons (o := 0) (m := 1) (n := 6) rfl (by kernel_rfl) (OpensC.leaf (opens_int Try.underlying2)) (opensF_cons (o := 1) (m := 1) (n := 5) rfl (by kernel_rfl) (OpensC.leaf (opens_int Try.underlying2)) (opensF_cons (o := 2) (m := 1) (n := 4) rfl (by kernel_rfl) (OpensC.leaf (opens_int Try.underlying2)) (opensF_cons (o := 3) (m := 1) (n := 3) rfl (by kernel_rfl) (OpensC.leaf (opens_int Try.underlying2)) (opensF_cons (o := 4) (m := 1) (n := 2) rfl (by kernel_rfl) (OpensC.leaf (opens_int Try.underlying2)) (opensF_cons (o := 5) (m := 1) (n := 1) rfl (by kernel_rfl) (OpensC.leaf (opens_int Try.underlying2)) (opensF_cons (o := 6) (m := 1) (n := 0) rfl (by kernel_rfl) (OpensC.leaf (opens_list Try.underlying22 (by kernel_rfl) (by decide) (opens_int Try.underlying2))) opensF_nil)))))))
theorem opensC84 (r : T) : OpensC Try.prog 84 (.pair (.int .i64) (.pair (.int .i64) (.pair (.int .i64) (.pair (.int .i64) r)))) r := opensC_struct Try.underlying84 (by kernel_rfl) (opensF_cons (o := 0) (m := 1) (n := 3) rfl (by kernel_rfl) (OpensC.leaf (opens_int Try.underlying2)) (opensF_cons (o := 1) (m := 1) (n := 2) rfl (by kernel_rfl) (OpensC.leaf (opens_int Try.underlying2)) (opensF_cons (o := 2) (m := 1) (n := 1) rfl (by kernel_rfl) (OpensC.leaf (opens_int Try.underlying2)) (opensF_cons (o := 3) (m := 1) (n := 0) rfl (by kernel_rfl) (OpensC.leaf (opens_int Try.underlying2)) opensF_nil))))
theorem opensC86 (r : T) : OpensC Try.prog 86 (.pair (.list tPhi) (.pair (.list tInst) (.pair (.int .i64) (.pair (.int .i64) (.pair (.int .i64) (.pair (.int .i64) r)))))) r := opensC_struct Try.underlying86 (by kernel_rfl) (opensF_cons (o := 0) (m := 1) (n := 5) rfl (by kernel_rfl) (OpensC.leaf (opens_list Try.underlying81 (by kernel_rfl) (by decide) (OpensC.whole (opensC165 _)))) (opensF_cons (o := 1) (m := 1) (n := 4) rfl (by kernel_rfl) (OpensC.leaf (opens_list Try.underlying82 (by kernel_rfl) (by decide) (OpensC.whole (opensC167 _)))) (opensF_cons (o := 2) (m := 4) (n := 0) rfl (by kernel_rfl) (opensC84 _) opensF_nil)))
theorem opensC25 (r : T) : OpensC Try.prog 25 (.pair (.list (.int .i64)) (.pair (.int .i64) (.pair (.list tBlock) r))) r := opensC_struct Try.underlying25 (by kernel_rfl) (opensF_cons (o := 0) (m := 1) (n := 2) rfl (by kernel_rfl) (OpensC.leaf (opens_list Try.underlying22 (by kernel_rfl) (by decide) (opens_int Try.underlying2))) (opensF_cons (o := 1) (m := 1) (n := 1) rfl (by kernel_rfl) (OpensC.leaf (opens_int Try.underlying2)) (opensF_cons (o := 2) (m := 1) (n := 0) rfl (by kernel_rfl) (OpensC.leaf (opens_list Try.underlying23 (by kernel_rfl) (by decide) (OpensC.whole (opensC86 _)))) opensF_nil)))
theorem opensC41 (r : T) : OpensC Try.prog 41 (.pair (.list tFunc) r) r := opensC_struct Try.underlying41 (by kernel_rfl) (opensF_cons (o := 0) (m := 1) (n := 0) rfl (by kernel_rfl) (OpensC.leaf (opens_list Try.underlying39 (by kernel_rfl) (by decide) (OpensC.whole (opensC25 _)))) opensF_nil)
end Go.Proofs.Ytkfehogikjcgkaa.V
namespace Go.Proofs.Ytkfehogikjcgkaa.V
open Go
set_option linter.unusedVariables false
set_option linter.unusedSimpArgs false
def Ev {R : Type} (g : Nat → Option R) (r : R) : Prop := ∃ n, ∀ k, n ≤ k → g k = some r
abbrev one {α : Type} (x : α) : ((α × Unit) × Unit) × Unit := (((x, ()), ()), ())
abbrev rowR {α : Type} (xs : α) : ((Unit × Unit) × Unit) × (α × Unit) := ((((), ()), ()), (xs, ()))
section
variable {R S : Type}
theorem Ev.cst {o : Option R} {r : R} (h : o = some r) : Ev (fun _ => o) r := ⟨0, fun _ _ => h⟩
theorem Ev.all {g : Nat → Option R} {r : R} (h : ∀ k, g k = some r) : Ev g r := ⟨0, fun k _ => h k⟩
theorem Ev.congr {g g' : Nat → Option R} {r : R} (h : Ev g' r) (e : ∀ k, g k = g' k) : Ev g r := by
  obtain ⟨n, h⟩ := h
  exact ⟨n, fun k hk => by rw [e, h k hk]⟩
theorem Ev.step {g g' : Nat → Option R} {r : R} (h : Ev g' r) (e : ∀ k, g (k + 1) = g' k) : Ev g r := by
  obtain ⟨n, h⟩ := h
  refine ⟨n + 1, fun k hk => ?_⟩
  obtain ⟨k, rfl⟩ : ∃ j, k = j + 1 := ⟨k - 1, by omega⟩
  rw [e, h k (by omega)]
theorem Ev.bind {g : Nat → Option S} {f : Nat → S → Option R} {a : S} {r : R} (h : Ev g a) (k : Ev (fun n => f n a) r) : Ev (fun n => Option.bind (g n) (f n)) r := by
  obtain ⟨n, h⟩ := h
  obtain ⟨m, k⟩ := k
  exact ⟨max n m, fun j hj => by show Option.bind (g j) (f j) = some r; rw [h j (by omega), Option.bind_some]; exact k j (by omega)⟩
theorem Ev.rw {g : Nat → Option R} {r s : R} (h : Ev g r) (e : r = s) : Ev g s := e ▸ h
theorem Ev.pos {c : Bool} {f g : Nat → Option R} {r : R} (hc : c = true) (h : Ev f r) : Ev (fun k => bif c then f k else g k) r := h.congr fun k => by rw [hc]; rfl
theorem Ev.neg {c : Bool} {f g : Nat → Option R} {r : R} (hc : c = false) (h : Ev g r) : Ev (fun k => bif c then f k else g k) r := h.congr fun k => by rw [hc]; rfl
theorem Ev.ex {g : Nat → Option R} {r : R} (h : Ev g r) : ∃ k, g k = some r := by
  obtain ⟨n, h⟩ := h
  exact ⟨n, h n (Nat.le_refl _)⟩
end
def W (x : Int) : Int := IntKind.wrap .i64 x
theorem wrap_id {x : Int} (h0 : -9223372036854775808 ≤ x) (h1 : x ≤ 9223372036854775807) : IntKind.wrap .i64 x = x := by
  have e : IntKind.wrap .i64 x = if (true && decide (x % 18446744073709551616 ≥ 9223372036854775808)) = true then x % 18446744073709551616 - 18446744073709551616 else x % 18446744073709551616 := rfl
  rw [e]
  simp only [Bool.true_and, decide_eq_true_eq]
  split <;> omega
theorem wrap_nat {i : Nat} (h : i < 9223372036854775807) : IntKind.wrap .i64 ((i : Int) + 1) = ((i + 1 : Nat) : Int) := by
  rw [wrap_id (by omega) (by omega)]; omega
theorem getD_at {α : Type} (l : List α) (z : α) (j : Nat) (h : j < l.length) : l.getD j z = l[j] := by simp [List.getD, List.getElem?_eq_getElem h]
theorem dpos {c : Prop} [Decidable c] (h : c) : decide c = true := by simp [h]
theorem dneg {c : Prop} [Decidable c] (h : ¬ c) : decide c = false := by simp [h]
theorem Ev.dp {R : Type} {p : Prop} [Decidable p] {f g : Nat → Option R} {r : R} (h : p) (e : Ev f r) : Ev (fun k => bif decide p then f k else g k) r := Ev.pos (dpos h) e
theorem Ev.dn {R : Type} {p : Prop} [Decidable p] {f g : Nat → Option R} {r : R} (h : ¬ p) (e : Ev g r) : Ev (fun k => bif decide p then f k else g k) r := Ev.neg (dneg h) e
theorem Ev.dd {R : Type} {p q : Prop} [Decidable p] [Decidable q] {f g : Nat → Option R} {r : R} (h : p) (h' : q) (e : Ev f r) : Ev (fun k => bif decide p && decide q then f k else g k) r := Ev.pos (by rw [dpos h, dpos h']; rfl) e
theorem Ev.succ {R : Type} {g : Nat → Option R} {r : R} (h : Ev (fun k => g (k + 1)) r) : Ev g r := Ev.step h fun _ => rfl
/-- A loop over places 0 .. n, backwards. -/
theorem Ev.down {R : Type} {G : Nat → Nat → Option R} {V : Nat → R} (n : Nat) (hend : Ev (G n) (V n)) (hstep : ∀ i, i < n → Ev (G (i + 1)) (V (i + 1)) → Ev (G i) (V i)) : ∀ i, i ≤ n → Ev (G i) (V i) := by
  intro i hi
  obtain ⟨d, rfl⟩ : ∃ d, i = n - d := ⟨n - i, by omega⟩
  clear hi
  induction d with
  | zero => exact hend
  | succ d ih =>
    by_cases h : d < n
    · have e : n - (d + 1) + 1 = n - d := by omega
      exact hstep (n - (d + 1)) (by omega) (by rw [e]; exact ih)
    · have e : n - (d + 1) = n - d := by omega
      rw [e]; exact ih
section
variable {α R : Type} {z : α} {l : List α}
/-- What a loop's head asks: is the place one of the list? -/
theorem head_in {i : Nat} (h : i < l.length) : (decide ((i : Int) < (l.length : Int))) = true := dpos (by omega)
theorem head_0 {i : Nat} : (decide (0 ≤ (i : Int))) = true := dpos (by omega)
theorem head_end : (decide ((l.length : Int) < (l.length : Int))) = false := dneg (by omega)
theorem get_in {i : Nat} (h : i < l.length) : l.getD (Int.toNat (i : Int)) z = l[i] := by rw [Int.toNat_natCast]; exact getD_at l z i h
/-- The loops that ask something of each element. -/
theorem each_ev {L : Nat → Int → Option R} {q : Nat → α → (Nat → Option R) → Option R} {tail : Nat → Option R} {V : List α → R} (hlen : l.length ≤ 9223372036854775807)
    (hL : ∀ k a, L (k + 1) a = bif decide (a < (l.length : Int)) then (bif decide (0 ≤ a) && decide (a < (l.length : Int)) then q k (l.getD a.toNat z) (fun j => L j (IntKind.wrap .i64 (a + 1))) else none) else tail k)
    (hend : Ev tail (V [])) (hstep : ∀ x m (g : Nat → Option R), x ∈ l → Ev g (V m) → Ev (fun k => q k x g) (V (x :: m))) : Ev (fun k => L k 0) (V l) := by
  have := Ev.down (G := fun i k => L k (i : Int)) (V := fun i => V (l.drop i)) l.length ?_ ?_ 0 (Nat.zero_le _)
  · exact this
  · rw [List.drop_length]
    refine hend.step fun k => ?_
    rw [hL, head_end]; rfl
  · intro i hi ih
    rw [List.drop_eq_getElem_cons hi]
    refine (hstep l[i] (l.drop (i + 1)) (fun j => L j (((i + 1 : Nat)) : Int)) (List.getElem_mem hi) ih).step fun k => ?_
    show L (k + 1) (i : Int) = _
    rw [hL]
    simp only [head_in hi, head_0, Bool.and_self, cond_true, get_in hi, wrap_nat (show i < 9223372036854775807 by omega)]
/-- slices.IndexFunc. -/
def ixF (p : α → Bool) : List α → Nat → Int
  | [], _ => -1
  | x :: l, i => bif p x then (i : Int) else ixF p l (i + 1)
theorem ixF_any (p : α → Bool) : ∀ (l : List α) (i : Nat), decide (0 ≤ ixF p l i) = l.any p
  | [], i => by simp [ixF]
  | x :: l, i => by
    have ih := ixF_any p l (i + 1)
    rw [List.any_cons]
    unfold ixF
    rcases Bool.eq_false_or_eq_true (p x) with h | h
    · simp only [h, cond_true, Bool.true_or]; exact dpos (by omega)
    · simp only [h, cond_false, Bool.false_or]; exact ih
theorem index_ev {p : α → Bool} {q : Nat → α → Option (((Bool × Unit) × Unit) × Unit)} {L : Nat → Int → Int → Option (((Int × Unit) × Unit) × Unit)} (hlen : l.length ≤ 9223372036854775807)
    (hL : ∀ k b a, L (k + 1) b a = bif decide (a < b) then (bif decide (0 ≤ a) && decide (a < (l.length : Int)) then (Option.bind (q k (l.getD a.toNat z)) fun r1 => bif r1.1.1.1 then some (((a, ()), ()), ()) else L k b (IntKind.wrap .i64 (a + 1))) else none) else some (((-1, ()), ()), ()))
    (hq : ∀ x ∈ l, Ev (fun k => q k x) (one (p x))) : Ev (fun k => Option.bind (L k (l.length : Int) 0) fun r1 => some (((decide (0 ≤ r1.1.1.1), ()), ()), ())) (one (l.any p)) := by
  have := Ev.down (G := fun i k => L k (l.length : Int) (i : Int)) (V := fun i => one (ixF p (l.drop i) i)) l.length ?_ ?_ 0 (Nat.zero_le _)
  · refine (Ev.bind (f := fun _ r1 => some (((decide (0 ≤ r1.1.1.1), ()), ()), ())) this (Ev.cst rfl)).rw ?_
    show one (decide (0 ≤ ixF p l 0)) = _
    rw [ixF_any]
  · rw [List.drop_length]
    refine Ev.step (g' := fun _ => some (((-1, ()), ()), ())) (Ev.cst rfl) fun k => ?_
    show L (k + 1) _ _ = _
    rw [hL, head_end]; rfl
  · intro i hi ih
    rw [List.drop_eq_getElem_cons hi]
    have h1 := hq l[i] (List.getElem_mem hi)
    refine Ev.step (g' := fun k => Option.bind (q k l[i]) fun r1 => bif r1.1.1.1 then some ((((i : Int), ()), ()), ()) else L k (l.length : Int) ((i + 1 : Nat) : Int)) ?_ fun k => ?_
    · refine Ev.bind h1 ?_
      simp only [ixF]
      cases p l[i] with
      | true => exact Ev.cst rfl
      | false => exact ih
    · show L (k + 1) _ _ = _
      rw [hL]
      simp only [head_in hi, head_0, Bool.and_self, cond_true, get_in hi, wrap_nat (show i < 9223372036854775807 by omega)]
end
end Go.Proofs.Ytkfehogikjcgkaa.V
namespace Go.Proofs.Ytkfehogikjcgkaa.V
open Go
set_option linter.unusedVariables false
set_option linter.unusedSimpArgs false
/-- All lists are short. -/
def Small : (t : T) → t.Den → Prop
  | .list t, xs => List.length (α := t.Den) xs ≤ 1048576 ∧ ∀ x : t.Den, List.Mem (α := t.Den) x xs → Small t x
  | .pair a b, x => Small a (Prod.fst (α := a.Den) (β := b.Den) x) ∧ Small b (Prod.snd (α := a.Den) (β := b.Den) x)
  | _, _ => True
abbrev IR := (((Int × Unit) × Unit) × Unit)
abbrev BR := (((Bool × Unit) × Unit) × Unit)
def SzP {α : Type} (wf small : α → Prop) (f : Nat → α → Int → Option IR) : Prop := ∀ (x : α), wf x → ∀ n : Int, 0 ≤ n → n ≤ 1048576 → ∃ s, Ev (fun k => f k x n) (one s) ∧ -1 ≤ s ∧ s ≤ n ∧ (0 ≤ s → small x)
abbrev SzOK (t : T) (f : Nat → t.Den → Int → Option IR) : Prop := SzP (Wf t) (Small t) f
theorem sz_list {α : Type} {wf small : α → Prop} {z : α} {f : Nat → α → Int → Option IR} (hf : SzP wf small f) {L : Nat → List α → Int → Int → Option IR} {F : Nat → List α → Int → Option IR}
    (hL : ∀ k l a1 a2, L (k + 1) l a1 a2 = bif decide (a2 < (l.length : Int)) then (bif decide (0 ≤ a2) && decide (a2 < (l.length : Int)) then (Option.bind (f k (l.getD a2.toNat z) a1) fun r1 => bif decide (r1.1.1.1 < 0) then some (((-1, ()), ()), ()) else L k l r1.1.1.1 (IntKind.wrap .i64 (a2 + 1))) else none) else some (((a1, ()), ()), ()))
    (hF : ∀ k l a, F k l a = bif decide (IntKind.wrap .i64 (a - (l.length : Int)) < 0) then some (((-1, ()), ()), ()) else L k l (IntKind.wrap .i64 (a - (l.length : Int))) 0) : SzP (fun l : List α => l.length ≤ 9223372036854775807 ∧ ∀ x ∈ l, wf x) (fun l : List α => l.length ≤ 1048576 ∧ ∀ x ∈ l, small x) F := by
  intro l hw n h0 h1
  obtain ⟨hlen, hel⟩ := hw
  have key : ∀ (d i : Nat) (n : Int), i + d = l.length → 0 ≤ n → n ≤ 1048576 → ∃ s, Ev (fun k => L k l n (i : Int)) (one s) ∧ -1 ≤ s ∧ s ≤ n ∧ (0 ≤ s → ∀ x ∈ l.drop i, small x) := by
    intro d
    induction d with
    | zero =>
      intro i n hi h0 h1
      have hi' : i = l.length := by omega
      subst hi'
      refine ⟨n, Ev.step (g' := fun _ => some (one n)) (Ev.cst rfl) fun k => ?_, by omega, Int.le_refl _, fun _ x hx => by rw [List.drop_length] at hx; cases hx⟩
      rw [hL, head_end]; rfl
    | succ d ih =>
      intro i n hi h0 h1
      have hi' : i < l.length := by omega
      have hmem : l[i] ∈ l := List.getElem_mem hi'
      obtain ⟨s, e1, e2, e3, e4⟩ := hf (l[i]) (hel _ hmem) n h0 h1
      have hstep : ∀ k, L (k + 1) l n (i : Int) = Option.bind (f k (l[i]) n) fun r1 => bif decide (r1.1.1.1 < 0) then some (((-1, ()), ()), ()) else L k l r1.1.1.1 ((i + 1 : Nat) : Int) := fun k => by
        rw [hL]
        simp only [head_in hi', head_0, Bool.and_self, cond_true, get_in hi', wrap_nat (show i < 9223372036854775807 by omega)]
      rcases Int.lt_or_le s 0 with hs | hs
      · refine ⟨-1, Ev.step (Ev.bind (f := fun k r1 => bif decide (r1.1.1.1 < 0) then some (((-1, ()), ()), ()) else L k l r1.1.1.1 ((i + 1 : Nat) : Int)) e1 ?_) hstep, by omega, by omega, fun h => by omega⟩
        exact Ev.pos (dpos hs) (Ev.cst rfl)
      · obtain ⟨s', q1, q2, q3, q4⟩ := ih (i + 1) s (by omega) hs (by omega)
        refine ⟨s', Ev.step (Ev.bind (f := fun k r1 => bif decide (r1.1.1.1 < 0) then some (((-1, ()), ()), ()) else L k l r1.1.1.1 ((i + 1 : Nat) : Int)) e1 (Ev.neg (dneg (show ¬ s < 0 by omega)) q1)) hstep, q2, by omega, fun h x hx => ?_⟩
        rw [List.drop_eq_getElem_cons hi'] at hx
        rcases List.mem_cons.1 hx with rfl | hx
        · exact e4 hs
        · exact q4 h x hx
  have hw : IntKind.wrap .i64 (n - (l.length : Int)) = n - (l.length : Int) := wrap_id (by omega) (by omega)
  rcases Int.lt_or_le (n - (l.length : Int)) 0 with hs | hs
  · refine ⟨-1, (Ev.cst rfl : Ev (fun _ => some (one (-1 : Int))) _).congr fun k => ?_, by omega, by omega, fun h => by omega⟩
    rw [hF, hw, dpos hs]; rfl
  · obtain ⟨s, q1, q2, q3, q4⟩ := key (l.length) 0 _ (by omega) hs (by omega)
    refine ⟨s, q1.congr fun k => ?_, q2, by omega, fun h => ⟨by omega, fun x hx => q4 h x (by simpa using hx)⟩⟩
    rw [hF, hw, dneg (by omega)]; rfl
/-- A copy, element by element. -/
theorem to_list {α R : Type} {z : α} {L : Nat → List α → Int → List α → Option (((Unit × Unit) × Unit) × (List α × Unit))} {q : Nat → α → (α → Option (((Unit × Unit) × Unit) × (List α × Unit))) → Option (((Unit × Unit) × Unit) × (List α × Unit))} {F : Nat → List α → Option (((Unit × Unit) × Unit) × (List α × Unit))} {b : Int}
    (hL : ∀ k l a1 a2, L (k + 1) l a1 a2 = bif decide (a1 < (l.length : Int)) then (bif decide (0 ≤ a1) && decide (a1 < (l.length : Int)) then q k (l.getD a1.toNat z) (fun y => bif decide (0 ≤ a1) && decide (a1 < (a2.length : Int)) then L k l (IntKind.wrap .i64 (a1 + 1)) (a2.set a1.toNat y) else none) else none) else some ((((), ()), ()), (a2, ())))
    (hF : ∀ k l, F k l = bif decide ((l.length : Int) = (l.length : Int)) && decide (0 ≤ (l.length : Int)) && decide ((l.length : Int) * b ≤ 281474976710656) then L k l 0 (List.replicate (Int.toNat (l.length : Int)) z) else none)
    {l : List α} (hlen : l.length ≤ 1048576) (hb0 : 0 ≤ b) (hb : b ≤ 1000) (hq : ∀ x ∈ l, ∀ (h : Nat → α → Option (((Unit × Unit) × Unit) × (List α × Unit))) r, Ev (fun k => h k x) r → Ev (fun k => q k x (h k)) r) : Ev (fun k => F k l) (rowR l) := by
  have h1 := Ev.down (G := fun i k => L k l (i : Int) (l.take i ++ List.replicate (l.length - i) z)) (V := fun _ => rowR l) l.length ?_ ?_ 0 (Nat.zero_le _)
  · refine h1.congr fun k => ?_
    have hsz : (l.length : Int) * b ≤ 281474976710656 := by
      have : (l.length : Int) * b ≤ 1048576 * 1000 := Int.mul_le_mul (by omega) hb hb0 (by omega)
      omega
    rw [hF, dpos rfl, dpos (show 0 ≤ (l.length : Int) by omega), dpos hsz]
    simp
  · refine Ev.step (g' := fun _ => some (rowR l)) (Ev.cst rfl) fun k => ?_
    show L (k + 1) l _ _ = _
    rw [hL, head_end]
    simp
  · intro i hi ih
    refine Ev.step (g' := fun k => q k l[i] (fun y => bif decide (0 ≤ (i : Int)) && decide ((i : Int) < (((l.take i ++ List.replicate (l.length - i) z).length : Nat) : Int)) then L k l ((i + 1 : Nat) : Int) ((l.take i ++ List.replicate (l.length - i) z).set i y) else none)) (hq _ (List.getElem_mem hi) (fun k y => bif decide (0 ≤ (i : Int)) && decide ((i : Int) < (((l.take i ++ List.replicate (l.length - i) z).length : Nat) : Int)) then L k l ((i + 1 : Nat) : Int) ((l.take i ++ List.replicate (l.length - i) z).set i y) else none) _ ?_) fun k => ?_
    · refine Ev.pos ?_ (ih.congr fun k => ?_)
      · rw [dpos (by omega), dpos (by simp; omega)]; rfl
      · congr 1
        rw [List.set_append_right _ _ (by simp; omega)]
        have e1 : i - (l.take i).length = 0 := by simp; omega
        have e2 : l.length - i = (l.length - (i + 1)) + 1 := by omega
        rw [e1, e2, List.replicate_succ, List.set_cons_zero, List.take_succ_eq_append_getElem hi, List.append_assoc]
        rfl
    · show L (k + 1) l _ _ = _
      rw [hL]
      simp only [head_in hi, head_0, Bool.and_self, cond_true, get_in hi, wrap_nat (show i < 9223372036854775807 by omega), Int.toNat_natCast]
      rw [getD_at l z i hi]
/-- A list compared with itself. -/
theorem eq_list {α : Type} {z : α} {L : Nat → List α → List α → Int → Option BR} {q : Nat → α → α → Option BR → Option BR} {F : Nat → List α → List α → Option BR}
    (hL : ∀ k l m a, L (k + 1) l m a = bif decide (a < (l.length : Int)) then (bif decide (0 ≤ a) && decide (a < (l.length : Int)) then (bif decide (0 ≤ a) && decide (a < (m.length : Int)) then q k (l.getD a.toNat z) (m.getD a.toNat z) (L k l m (IntKind.wrap .i64 (a + 1))) else none) else none) else some (((true, ()), ()), ()))
    (hF : ∀ k l m, F k l m = bif !decide ((l.length : Int) = (m.length : Int)) then some (((false, ()), ()), ()) else L k l m 0)
    {l : List α} (hlen : l.length ≤ 1048576) (hq : ∀ x ∈ l, ∀ (g : Nat → Option BR) r, Ev g r → Ev (fun k => q k x x (g k)) r) : Ev (fun k => F k l l) (one true) := by
  have h1 := Ev.down (G := fun i k => L k l l (i : Int)) (V := fun _ => one true) l.length ?_ ?_ 0 (Nat.zero_le _)
  · refine h1.congr fun k => ?_
    rw [hF, dpos rfl]; rfl
  · refine Ev.step (g' := fun _ => some (one true)) (Ev.cst rfl) fun k => ?_
    show L (k + 1) l l _ = _
    rw [hL, head_end]; rfl
  · intro i hi ih
    refine Ev.step (hq _ (List.getElem_mem hi) (fun k => L k l l ((i + 1 : Nat) : Int)) _ ih) fun k => ?_
    show L (k + 1) l l _ = _
    rw [hL]
    simp only [head_in hi, head_0, Bool.and_self, cond_true, get_in hi, wrap_nat (show i < 9223372036854775807 by omega)]
end Go.Proofs.Ytkfehogikjcgkaa.V
namespace Go.Proofs.Ytkfehogikjcgkaa.V
open Go
set_option linter.unusedVariables false
set_option linter.unusedSimpArgs false
/-! ### how much there is -/
theorem sz_then {n s : Int} {g : Nat → Option IR} (h : Ev g (one s)) : Ev (fun k => Option.bind (g k) fun r1 => bif decide (r1.1.1.1 < 0) then some (((-1, ()), ()), ()) else some (((r1.1.1.1, ()), ()), ())) (one (if s < 0 then -1 else s)) := by
  refine Ev.bind h ?_
  by_cases hs : s < 0
  · rw [if_pos hs]; exact Ev.pos (dpos hs) (Ev.cst rfl)
  · rw [if_neg hs]; exact Ev.neg (dneg hs) (Ev.cst rfl)
theorem szInts : SzOK (.list (.int .i64)) laws_szInt64S.f := by
  intro l hw n h0 h1
  have hlen : List.length (α := Int) l ≤ 9223372036854775807 := hw.1
  have hwr : IntKind.wrap .i64 (n - (List.length (α := Int) l : Int)) = n - (List.length (α := Int) l : Int) := wrap_id (by omega) (by omega)
  have he : ∀ k, laws_szInt64S.f k l n = bif decide (n - (List.length (α := Int) l : Int) < 0) then some (one (-1)) else some (one (n - (List.length (α := Int) l : Int))) := fun k => by
    show (bif decide (IntKind.wrap .i64 (n - (List.length (α := Int) l : Int)) < 0) then _ else _) = _
    rw [hwr]
  by_cases hs : n - (List.length (α := Int) l : Int) < 0
  · exact ⟨-1, Ev.all fun k => by rw [he, dpos hs]; rfl, by omega, by omega, fun h => by omega⟩
  · exact ⟨_, Ev.all fun k => by rw [he, dneg hs]; rfl, by omega, by omega, fun h => ⟨by show List.length (α := Int) l ≤ _; omega, fun _ _ => trivial⟩⟩
theorem szPhi : SzOK tPhi laws_szPhi.f := by
  intro x hw n h0 h1
  obtain ⟨s, e, a, b, c⟩ := szInts _ hw.2.1 n h0 h1
  exact ⟨_, sz_then (n := n) e, by split <;> omega, by split <;> omega, fun h => ⟨trivial, c (by split at h <;> omega), trivial⟩⟩
theorem szPhiS : SzOK (.list tPhi) laws_szPhiS.f := sz_list (z := tPhiZ) szPhi (L := laws_szPhiS.l0) (fun k l a b => rfl) fun k l a => rfl
theorem szInst : SzOK tInst laws_szInst.f := by
  intro x hw n h0 h1
  obtain ⟨s, e, a, b, c⟩ := szInts _ hw.2.2.2.2.2.2.1 n h0 h1
  exact ⟨_, sz_then (n := n) e, by split <;> omega, by split <;> omega, fun h => ⟨trivial, trivial, trivial, trivial, trivial, trivial, c (by split at h <;> omega), trivial⟩⟩
theorem szInstS : SzOK (.list tInst) laws_szInstS.f := sz_list (z := tInstZ) szInst (L := laws_szInstS.l0) (fun k l a b => rfl) fun k l a => rfl
theorem sz_two {n s : Int} {g : Nat → Option IR} {f : Nat → Int → Option IR} {r : Int} (h : Ev g (one s)) (h' : 0 ≤ s → Ev (fun k => f k s) (one r)) (hr : s < 0 → r = -1) : Ev (fun k => Option.bind (g k) fun r1 => bif decide (r1.1.1.1 < 0) then some (((-1, ()), ()), ()) else f k r1.1.1.1) (one r) := by
  refine Ev.bind h ?_
  by_cases hs : s < 0
  · rw [hr hs]; exact Ev.pos (dpos hs) (Ev.cst rfl)
  · exact Ev.neg (dneg hs) (h' (by omega))
theorem szBlock : SzOK tBlock laws_szBlock.f := by
  intro x hw n h0 h1
  obtain ⟨s, e, a, b, c⟩ := szPhiS _ hw.1 n h0 h1
  by_cases hs : s < 0
  · exact ⟨-1, sz_two (n := n) (f := fun k s => Option.bind (laws_szInstS.f k x.2.1 s) fun r1 => bif decide (r1.1.1.1 < 0) then some (((-1, ()), ()), ()) else some (((r1.1.1.1, ()), ()), ())) e (fun h => by omega) (fun _ => rfl), by omega, by omega, fun h => by omega⟩
  · obtain ⟨s', e', a', b', c'⟩ := szInstS _ hw.2.1 s (by omega) (by omega)
    exact ⟨_, sz_two (n := n) (f := fun k s => Option.bind (laws_szInstS.f k x.2.1 s) fun r1 => bif decide (r1.1.1.1 < 0) then some (((-1, ()), ()), ()) else some (((r1.1.1.1, ()), ()), ())) e (fun _ => sz_then (n := n) e') (fun h => by omega), by split <;> omega, by split <;> omega, fun h => ⟨c (by omega), c' (by split at h <;> omega), trivial, trivial, trivial, trivial, trivial⟩⟩
theorem szBlockS : SzOK (.list tBlock) laws_szBlockS.f := sz_list (z := tBlockZ) szBlock (L := laws_szBlockS.l0) (fun k l a b => rfl) fun k l a => rfl
theorem szFunc : SzOK tFunc laws_szFunc.f := by
  intro x hw n h0 h1
  obtain ⟨s, e, a, b, c⟩ := szInts _ hw.1 n h0 h1
  by_cases hs : s < 0
  · exact ⟨-1, sz_two (n := n) (f := fun k s => Option.bind (laws_szBlockS.f k x.2.2.1 s) fun r1 => bif decide (r1.1.1.1 < 0) then some (((-1, ()), ()), ()) else some (((r1.1.1.1, ()), ()), ())) e (fun h => by omega) (fun _ => rfl), by omega, by omega, fun h => by omega⟩
  · obtain ⟨s', e', a', b', c'⟩ := szBlockS _ hw.2.2.1 s (by omega) (by omega)
    exact ⟨_, sz_two (n := n) (f := fun k s => Option.bind (laws_szBlockS.f k x.2.2.1 s) fun r1 => bif decide (r1.1.1.1 < 0) then some (((-1, ()), ()), ()) else some (((r1.1.1.1, ()), ()), ())) e (fun _ => sz_then (n := n) e') (fun h => by omega), by split <;> omega, by split <;> omega, fun h => ⟨c (by omega), trivial, c' (by split at h <;> omega), trivial⟩⟩
/-! ### a copy -/
theorem toInts {l : List Int} (h : Small (.list (.int .i64)) l) : Ev (fun k => laws_toInt64S.f k l) (rowR l) :=
  to_list (z := 0) (L := laws_toInt64S.l0) (q := fun k x h => h x) (b := 8) (R := Unit) (fun k l a b => rfl) (fun k l => rfl) h.1 (by omega) (by omega) fun x _ h r hh => hh
theorem toPhi {x : tPhiD} (h : Small tPhi x) : Ev (fun k => laws_toPhi.f k x) (((x.1, (), ()), ()), (x.2.1, ())) := Ev.bind (toInts h.2.1) (Ev.cst rfl)
theorem toPhiS {l : List tPhiD} (h : Small (.list tPhi) l) : Ev (fun k => laws_toPhiS.f k l) (rowR l) :=
  to_list (z := tPhiZ) (L := laws_toPhiS.l0) (q := fun k x h => Option.bind (laws_toPhi.f k x) fun r1 => h (r1.1.1.1, r1.2.1, ())) (b := 32) (R := Unit) (fun k l a b => rfl) (fun k l => rfl) h.1 (by omega) (by omega) fun x hx g r hh => Ev.bind (toPhi (h.2 x hx)) hh
theorem toInst {x : tInstD} (h : Small tInst x) : Ev (fun k => laws_toInst.f k x) (((x.1, x.2.1, x.2.2.1, x.2.2.2.1, x.2.2.2.2.1, x.2.2.2.2.2.1, (), ()), ()), (x.2.2.2.2.2.2.1, ())) := Ev.bind (toInts h.2.2.2.2.2.2.1) (Ev.cst rfl)
theorem toInstS {l : List tInstD} (h : Small (.list tInst) l) : Ev (fun k => laws_toInstS.f k l) (rowR l) :=
  to_list (z := tInstZ) (L := laws_toInstS.l0) (q := fun k x h => Option.bind (laws_toInst.f k x) fun r1 => h (r1.1.1.1, r1.1.1.2.1, r1.1.1.2.2.1, r1.1.1.2.2.2.1, r1.1.1.2.2.2.2.1, r1.1.1.2.2.2.2.2.1, r1.2.1, ())) (b := 72) (R := Unit) (fun k l a b => rfl) (fun k l => rfl) h.1 (by omega) (by omega) fun x hx g r hh => Ev.bind (toInst (h.2 x hx)) hh
theorem toBlock {x : tBlockD} (h : Small tBlock x) : Ev (fun k => laws_toBlock.f k x) ((((), (), x.2.2.1, x.2.2.2.1, x.2.2.2.2.1, x.2.2.2.2.2.1, ()), ()), (x.1, x.2.1, ())) := Ev.bind (toPhiS h.1) (Ev.bind (toInstS h.2.1) (Ev.cst rfl))
theorem toBlockS {l : List tBlockD} (h : Small (.list tBlock) l) : Ev (fun k => laws_toBlockS.f k l) (rowR l) :=
  to_list (z := tBlockZ) (L := laws_toBlockS.l0) (q := fun k x h => Option.bind (laws_toBlock.f k x) fun r1 => h (r1.2.1, r1.2.2.1, r1.1.1.2.2.1, r1.1.1.2.2.2.1, r1.1.1.2.2.2.2.1, r1.1.1.2.2.2.2.2.1, ())) (b := 80) (R := Unit) (fun k l a b => rfl) (fun k l => rfl) h.1 (by omega) (by omega) fun x hx g r hh => Ev.bind (toBlock (h.2 x hx)) hh
theorem toFunc {x : tFuncD} (h : Small tFunc x) : Ev (fun k => laws_toFunc.f k x) ((((), x.2.1, (), ()), ()), (x.1, x.2.2.1, ())) := Ev.bind (toInts h.1) (Ev.bind (toBlockS h.2.2.1) (Ev.cst rfl))
/-! ### a thing compared with itself -/
theorem eqInts {l : List Int} (h : Small (.list (.int .i64)) l) : Ev (fun k => laws_eqInt64S.f k l l) (one true) :=
  eq_list (z := 0) (L := laws_eqInt64S.l0) (q := fun k x y g => bif !decide (x = y) then some (((false, ()), ()), ()) else g) (fun k l m a => rfl) (fun k l m => rfl) h.1 fun x _ g r hh => Ev.neg (by rw [dpos rfl]; rfl) hh
theorem Ev.skip {R : Type} {n : Int} {o : Option R} {g : Nat → Option R} {r : R} (h : Ev g r) : Ev (fun k => bif !decide (n = n) then o else g k) r := Ev.neg (by rw [dpos rfl]; rfl) h
theorem Ev.yes {g : Nat → Option BR} {f : Nat → Option BR} {o : Option BR} {r : BR} (h : Ev g (one true)) (hf : Ev f r) : Ev (fun k => Option.bind (g k) fun r1 => bif !r1.1.1.1 then o else f k) r := Ev.bind h (Ev.neg rfl hf)
theorem eqPhi {x : tPhiD} (h : Small tPhi x) : Ev (fun k => laws_eqPhi.f k x x) (one true) := Ev.skip (Ev.yes (eqInts h.2.1) (Ev.cst rfl))
theorem eqPhiS {l : List tPhiD} (h : Small (.list tPhi) l) : Ev (fun k => laws_eqPhiS.f k l l) (one true) :=
  eq_list (z := tPhiZ) (L := laws_eqPhiS.l0) (q := fun k x y g => Option.bind (laws_eqPhi.f k x y) fun r1 => bif !r1.1.1.1 then some (((false, ()), ()), ()) else g) (fun k l m a => rfl) (fun k l m => rfl) h.1 fun x hx g r hh => Ev.yes (eqPhi (h.2 x hx)) hh
theorem eqInst {x : tInstD} (h : Small tInst x) : Ev (fun k => laws_eqInst.f k x x) (one true) := Ev.skip (Ev.skip (Ev.skip (Ev.skip (Ev.skip (Ev.skip (Ev.yes (eqInts h.2.2.2.2.2.2.1) (Ev.cst rfl)))))))
theorem eqInstS {l : List tInstD} (h : Small (.list tInst) l) : Ev (fun k => laws_eqInstS.f k l l) (one true) :=
  eq_list (z := tInstZ) (L := laws_eqInstS.l0) (q := fun k x y g => Option.bind (laws_eqInst.f k x y) fun r1 => bif !r1.1.1.1 then some (((false, ()), ()), ()) else g) (fun k l m a => rfl) (fun k l m => rfl) h.1 fun x hx g r hh => Ev.yes (eqInst (h.2 x hx)) hh
theorem eqTerm {x : tTermD} : Ev (fun k => laws_eqTerm.f k x x) (one true) := Ev.skip (Ev.skip (Ev.skip (Ev.skip (Ev.cst rfl))))
theorem eqBlock {x : tBlockD} (h : Small tBlock x) : Ev (fun k => laws_eqBlock.f k x x) (one true) := Ev.yes (eqPhiS h.1) (Ev.yes (eqInstS h.2.1) (Ev.yes eqTerm (Ev.cst rfl)))
theorem eqBlockS {l : List tBlockD} (h : Small (.list tBlock) l) : Ev (fun k => laws_eqBlockS.f k l l) (one true) :=
  eq_list (z := tBlockZ) (L := laws_eqBlockS.l0) (q := fun k x y g => Option.bind (laws_eqBlock.f k x y) fun r1 => bif !r1.1.1.1 then some (((false, ()), ()), ()) else g) (fun k l m a => rfl) (fun k l m => rfl) h.1 fun x hx g r hh => Ev.yes (eqBlock (h.2 x hx)) hh
theorem eqFunc {x : tFuncD} (h : Small tFunc x) : Ev (fun k => laws_eqFunc.f k x x) (one true) := Ev.yes (eqInts h.1) (Ev.skip (Ev.yes (eqBlockS h.2.2.1) (Ev.cst rfl)))
end Go.Proofs.Ytkfehogikjcgkaa.V
namespace Go.Proofs.Ytkfehogikjcgkaa.V
open Go
set_option linter.unusedVariables false
set_option linter.unusedSimpArgs false
theorem szFuncS : SzOK (.list tFunc) laws_szFuncS.f := sz_list (z := tFuncZ) szFunc (L := laws_szFuncS.l0) (fun k l a b => rfl) fun k l a => rfl
theorem szModule : SzOK tModule laws_szModule.f := by
  intro x hw n h0 h1
  obtain ⟨s, e, a, b, c⟩ := szFuncS _ hw.1 n h0 h1
  exact ⟨_, sz_then (n := n) e, by split <;> omega, by split <;> omega, fun h => ⟨c (by split at h <;> omega), trivial⟩⟩
theorem toFuncS {l : List tFuncD} (h : Small (.list tFunc) l) : Ev (fun k => laws_toFuncS.f k l) (rowR l) :=
  to_list (z := tFuncZ) (L := laws_toFuncS.l0) (q := fun k x h => Option.bind (laws_toFunc.f k x) fun r1 => h (r1.2.1, r1.1.1.2.1, r1.2.2.1, ())) (b := 56) (R := Unit) (fun k l a b => rfl) (fun k l => rfl) h.1 (by omega) (by omega) fun x hx g r hh => Ev.bind (toFunc (h.2 x hx)) hh
theorem toModule {x : tModuleD} (h : Small tModule x) : Ev (fun k => laws_toModule.f k x) ((((), ()), ()), (x.1, ())) := Ev.bind (toFuncS h.1) (Ev.cst rfl)
theorem eqFuncS {l : List tFuncD} (h : Small (.list tFunc) l) : Ev (fun k => laws_eqFuncS.f k l l) (one true) :=
  eq_list (z := tFuncZ) (L := laws_eqFuncS.l0) (q := fun k x y g => Option.bind (laws_eqFunc.f k x y) fun r1 => bif !r1.1.1.1 then some (((false, ()), ()), ()) else g) (fun k l m a => rfl) (fun k l m => rfl) h.1 fun x hx g r hh => Ev.yes (eqFunc (h.2 x hx)) hh
theorem eqModule {x : tModuleD} (h : Small tModule x) : Ev (fun k => laws_eqModule.f k x x) (one true) := Ev.yes (eqFuncS h.1) (Ev.cst rfl)
/-! ### a law over a module -/
theorem law_frame {a : tModuleD} (hw : Wf tModule a) {g : Nat → Option BR} (h : Small tModule a → Ev g (one true)) : Ev (fun k => Option.bind (laws_szModule.f k (a.1, ()) 1048576) fun r1 => bif decide (r1.1.1.1 < 0) then some (((true, ()), ()), ()) else g k) (one true) := by
  obtain ⟨s, e, _, _, c⟩ := szModule a hw 1048576 (by omega) (by omega)
  refine Ev.bind (f := fun k r1 => bif decide (r1.1.1.1 < 0) then some (((true, ()), ()), ()) else g k) e ?_
  by_cases hs : s < 0
  · exact Ev.pos (dpos hs) (Ev.cst rfl)
  · exact Ev.neg (dneg hs) (h (c (by omega)))
/-- What comes behind the two answers: the module that went in is as it was. -/
theorem law_end {a : tModuleD} (h : Small tModule a) : Ev (fun k => Option.bind (laws_toModule.f k (a.1, ())) fun r6 => Option.bind (laws_eqModule.f k (a.1, ()) (r6.2.1, ())) fun r7 => bif !r7.1.1.1 then some (((false, ()), ()), ()) else some (((true, ()), ()), ())) (one true) :=
  Ev.bind (f := fun k r6 => Option.bind (laws_eqModule.f k (a.1, ()) (r6.2.1, ())) fun r7 => bif !r7.1.1.1 then some (((false, ()), ()), ()) else some (((true, ()), ()), ())) (toModule h) (Ev.yes (eqModule h) (Ev.cst rfl))
end Go.Proofs.Ytkfehogikjcgkaa.V
namespace Go.Proofs.Ytkfehogikjcgkaa.V
open Go
set_option linter.unusedVariables false
set_option linter.unusedSimpArgs false
def inB (lo hi x : Int) : Bool := decide (lo ≤ x) && decide (x ≤ hi)
def wOk (w : Int) : Bool := decide (w = 1) || decide (w = 8) || decide (w = 16) || decide (w = 32)
def opsB (i : tInstD) : List Int :=
  bif inB 1 17 i.1 then [i.2.2.1, i.2.2.2.1] else bif decide (i.1 = 24) then [i.2.2.1, i.2.2.2.1] else bif inB 18 20 i.1 then [i.2.2.1] else bif decide (i.1 = 23) then [i.2.2.1] else bif decide (i.1 = 25) then [i.2.2.1] else bif decide (i.1 = 27) then [i.2.2.1] else
  bif decide (i.1 = 22) then [i.2.2.1, i.2.2.2.1, i.2.2.2.2.1] else bif decide (i.1 = 26) then i.2.2.2.2.2.2.1 else []
theorem specIn (k : Nat) (a lo hi : Int) : spec_l1In.f k a lo hi = some (one (inB lo hi a)) := by
  unfold spec_l1In.f inB
  cases decide (lo ≤ a) <;> rfl
theorem implIn (k : Nat) (a lo hi : Int) : impl_within.f k a lo hi = some (one (inB lo hi a)) := by
  unfold impl_within.f inB
  cases decide (lo ≤ a) <;> rfl
theorem specW (k : Nat) (a : Int) : spec_WidthOk.f k a = some (one (wOk a)) := by
  unfold spec_WidthOk.f wOk
  cases decide (a = 1) <;> cases decide (a = 8) <;> cases decide (a = 16) <;> rfl
theorem implW (k : Nat) (a : Int) : impl_WidthOk.f k a = some (one (wOk a)) := by
  unfold impl_WidthOk.f wOk
  cases decide (a = 1) <;> cases decide (a = 8) <;> cases decide (a = 16) <;> rfl
theorem specCopy (k : Nat) {l : List Int} (h : l.length ≤ 1048576) : spec_l1Copy.f k l = some (rowR l) := by
  unfold spec_l1Copy.f
  rw [dpos (by simp; omega)]; rfl
theorem implClone (k : Nat) {l : List Int} (h : l.length ≤ 1048576) : slices_Clone_int64_int64.f k l = some (rowR l) := by
  unfold slices_Clone_int64_int64.f cloneF
  rw [dpos (by omega)]; rfl
theorem specOps (k : Nat) {i : tInstD} (h : i.2.2.2.2.2.2.1.length ≤ 1048576) : spec_l2Operands.f k i = some (rowR (opsB i)) := by
  unfold spec_l2Operands.f opsB
  simp only [specIn, specCopy k h, Option.bind_some]
  cases inB 1 17 i.1
  · cases decide (i.1 = 24)
    · cases inB 18 20 i.1
      · cases decide (i.1 = 23)
        · cases decide (i.1 = 25)
          · cases decide (i.1 = 27)
            · cases decide (i.1 = 22)
              · cases decide (i.1 = 26) <;> rfl
              · rfl
            · rfl
          · rfl
        · rfl
      · rfl
    · rfl
  · rfl
theorem implBin (k : Nat) (a : Int) : impl_isBinary.f k a = some (one (inB 1 17 a)) := by
  unfold impl_isBinary.f
  rw [implIn]; rfl
theorem implCast (k : Nat) (a : Int) : impl_isCast.f k a = some (one (inB 18 20 a)) := by
  unfold impl_isCast.f
  rw [implIn]; rfl
theorem implOps (k : Nat) {i : tInstD} (h : i.2.2.2.2.2.2.1.length ≤ 1048576) : impl_OperandsOf.f k i = some (rowR (opsB i)) := by
  unfold impl_OperandsOf.f opsB
  simp only [implBin, implCast, implClone k h, Option.bind_some]
  cases inB 1 17 i.1
  · cases decide (i.1 = 24)
    · cases inB 18 20 i.1
      · cases decide (i.1 = 23)
        · cases decide (i.1 = 25)
          · cases decide (i.1 = 27)
            · cases decide (i.1 = 22)
              · cases decide (i.1 = 26) <;> rfl
              · rfl
            · rfl
          · rfl
        · rfl
      · rfl
    · rfl
  · rfl
/-! ### instructions -/
def topOf (w : Int) : Int := bif decide (w = 1) then 1 else bif decide (w = 8) then 255 else bif decide (w = 16) then 65535 else 4294967295
def valB (w x : Int) : Bool := wOk w && inB 0 (topOf w) x
theorem wOk_cases {w : Int} (h : wOk w = true) : w = 1 ∨ w = 8 ∨ w = 16 ∨ w = 32 := by
  simp only [wOk, Bool.or_eq_true, decide_eq_true_eq] at h
  omega
theorem specVal (k : Nat) (w x : Int) : spec_l1Value.f k w x = some (one (valB w x)) := by
  unfold spec_l1Value.f valB
  simp only [specW, Option.bind_some]
  cases h : wOk w with
  | false => rfl
  | true => rcases wOk_cases h with rfl | rfl | rfl | rfl <;> (unfold spec_l1Top.f; simp only [specIn]; rfl)
theorem implVal (k : Nat) (w x : Int) : impl_isValue.f k w x = some (one (valB w x)) := by
  unfold impl_isValue.f valB
  simp only [implW, Option.bind_some]
  cases h : wOk w with
  | false => rfl
  | true => rcases wOk_cases h with rfl | rfl | rfl | rfl <;> (unfold impl_mask.f; simp only [implIn]; rfl)
def widB (i : tInstD) : Bool := bif decide (i.1 = 24) || decide (i.1 = 25) then decide (i.2.1 = 0) else bif decide (i.1 = 23) then decide (i.2.1 = 8) else wOk i.2.1
def immB (i : tInstD) (funcs : Int) : Bool := bif decide (i.1 = 21) then valB i.2.1 i.2.2.2.2.2.1 else bif decide (i.1 = 26) then inB 0 (funcs - 1) i.2.2.2.2.2.1 else decide (i.2.2.2.2.2.1 = 0)
def named (i : tInstD) : Nat := bif decide (i.1 = 26) then 0 else (opsB i).length
def zerosB (i : tInstD) : Bool := ([i.2.2.1, i.2.2.2.1, i.2.2.2.2.1].drop (named i)).all fun n => decide (n = 0)
def instB (count funcs : Int) (i : tInstD) : Bool :=
  inB 1 27 i.1 && decide (i.2.2.2.2.2.2.1.length ≤ 4) && (decide (i.2.2.2.2.2.2.1.length = 0) || decide (i.1 = 26)) && (opsB i).all (inB 0 (count - 1)) && zerosB i && widB i && immB i funcs
theorem implWid (k : Nat) (i : tInstD) : impl_isWidth.f k i = some (one (widB i)) := by
  unfold impl_isWidth.f widB
  simp only [implW, Option.bind_some]
  by_cases h : i.1 = 24
  · simp [h]
  · by_cases h2 : i.1 = 25
    · simp [h2]
    · simp only [dneg h, dneg h2, cond_false, Bool.or_self]
      cases decide (i.1 = 23) <;> rfl
theorem implImm (k : Nat) (i : tInstD) {funcs : Int} (h0 : 0 ≤ funcs) (h1 : funcs ≤ 9223372036854775807) : impl_isImm.f k i funcs = some (one (immB i funcs)) := by
  unfold impl_isImm.f immB
  simp only [implVal, implIn, Option.bind_some, wrap_id (show -9223372036854775808 ≤ funcs - 1 by omega) (show funcs - 1 ≤ 9223372036854775807 by omega)]
  cases decide (i.1 = 21) <;> cases decide (i.1 = 26) <;> rfl
/-! ### ends -/
def termB (count blocks : Int) (t : tTermD) : Bool :=
  bif decide (t.1 = 1) then inB 0 (count - 1) t.2.1 && decide (t.2.2.1 = 0) && decide (t.2.2.2.1 = 0) else
  bif decide (t.1 = 2) then decide (t.2.1 = 0) && inB 0 (blocks - 1) t.2.2.1 && decide (t.2.2.2.1 = 0) else
  bif decide (t.1 = 3) then inB 0 (count - 1) t.2.1 && inB 0 (blocks - 1) t.2.2.1 && inB 0 (blocks - 1) t.2.2.2.1 && !decide (t.2.2.1 = t.2.2.2.1) else
  decide (t.1 = 4) && decide (t.2.1 = 0) && decide (t.2.2.1 = 0) && decide (t.2.2.2.1 = 0)
theorem specTerm (k : Nat) (t : tTermD) {count blocks : Int} (h0 : 0 ≤ count) (h1 : count ≤ 9223372036854775807) (h2 : 0 ≤ blocks) (h3 : blocks ≤ 9223372036854775807) : spec_l2Term.f k t count blocks = some (one (termB count blocks t)) := by
  unfold spec_l2Term.f termB
  simp only [specIn, Option.bind_some, wrap_id (show -9223372036854775808 ≤ count - 1 by omega) (show count - 1 ≤ 9223372036854775807 by omega), wrap_id (show -9223372036854775808 ≤ blocks - 1 by omega) (show blocks - 1 ≤ 9223372036854775807 by omega)]
  cases decide (t.1 = 1)
  · cases decide (t.1 = 2)
    · cases decide (t.1 = 3)
      · cases decide (t.1 = 4) <;> cases decide (t.2.1 = 0) <;> cases decide (t.2.2.1 = 0) <;> rfl
      · cases inB 0 (count - 1) t.2.1 <;> cases inB 0 (blocks - 1) t.2.2.1 <;> cases inB 0 (blocks - 1) t.2.2.2.1 <;> rfl
    · cases decide (t.2.1 = 0) <;> cases inB 0 (blocks - 1) t.2.2.1 <;> rfl
  · cases inB 0 (count - 1) t.2.1 <;> cases decide (t.2.2.1 = 0) <;> rfl
theorem implTerm1 (k : Nat) (a : Int) {f : tFuncD} (h : f.2.2.1.length ≤ 1048576) : impl_isTerm_1.f k a f = some (one (inB 0 ((f.2.2.1.length : Int) - 1) a)) := by
  unfold impl_isTerm_1.f
  rw [implIn, wrap_id (by omega) (by omega)]; rfl
theorem implTerm (k : Nat) (t : tTermD) {f : tFuncD} (h : f.2.2.1.length ≤ 1048576) {count : Int} (h0 : 0 ≤ count) (h1 : count ≤ 9223372036854775807) : impl_isTerm.f k f t count = some (one (termB count (f.2.2.1.length : Int) t)) := by
  unfold impl_isTerm.f termB
  simp only [implIn, implTerm1 k _ h, Option.bind_some, wrap_id (show -9223372036854775808 ≤ count - 1 by omega) (show count - 1 ≤ 9223372036854775807 by omega)]
  generalize (f.2.2.1.length : Int) = blocks
  cases decide (t.1 = 1)
  · cases decide (t.1 = 2)
    · cases decide (t.1 = 3)
      · cases decide (t.1 = 4) <;> cases decide (t.2.1 = 0) <;> cases decide (t.2.2.1 = 0) <;> rfl
      · cases inB 0 (count - 1) t.2.1 <;> cases inB 0 (blocks - 1) t.2.2.1 <;> cases inB 0 (blocks - 1) t.2.2.2.1 <;> rfl
    · cases decide (t.2.1 = 0) <;> cases inB 0 (blocks - 1) t.2.2.1 <;> rfl
  · cases inB 0 (count - 1) t.2.1 <;> cases decide (t.2.2.1 = 0) <;> rfl
end Go.Proofs.Ytkfehogikjcgkaa.V
namespace Go.Proofs.Ytkfehogikjcgkaa.V
open Go
set_option linter.unusedVariables false
set_option linter.unusedSimpArgs false
theorem any_not {α : Type} {p : α → Bool} : ∀ {l : List α}, (l.any fun x => !p x) = !l.all p
  | [] => rfl
  | x :: l => by simp only [List.any_cons, List.all_cons, any_not (l := l), Bool.not_and]
theorem implIn1 {l : List Int} (h : l.length ≤ 1048576) {count : Int} (h0 : 0 ≤ count) (h1 : count ≤ 9223372036854775807) : Ev (fun k => slices_ContainsFunc_int64_int64_3.f k l count) (one (!l.all (inB 0 (count - 1)))) := by
  rw [← any_not]
  exact index_ev (z := 0) (L := fun k b a => slices_IndexFunc_int64_int64_3.l0 k l b a count) (q := fun k x => impl_isInst_1.f k x count) (by omega) (fun k b a => rfl) fun x _ => Ev.all fun k => by
    unfold impl_isInst_1.f
    rw [implIn, wrap_id (by omega) (by omega)]; rfl
theorem implZero {l : List Int} (h : l.length ≤ 1048576) : Ev (fun k => slices_ContainsFunc_int64_int64_4.f k l) (one (!l.all fun n => decide (n = 0))) := by
  rw [← any_not]
  exact index_ev (z := 0) (L := fun k b a => slices_IndexFunc_int64_int64_4.l0 k l b a) (q := fun k x => impl_isInst_2.f k x) (by omega) (fun k b a => rfl) fun x _ => Ev.all fun k => rfl
theorem opsB_len {i : tInstD} (h : i.2.2.2.2.2.2.1.length ≤ 1048576) : (opsB i).length ≤ 1048576 := by
  unfold opsB
  cases inB 1 17 i.1 <;> cases decide (i.1 = 24) <;> cases inB 18 20 i.1 <;> cases decide (i.1 = 23) <;> cases decide (i.1 = 25) <;> cases decide (i.1 = 27) <;> cases decide (i.1 = 22) <;> cases decide (i.1 = 26) <;> simp only [cond_true, cond_false, List.length_cons, List.length_nil] <;> omega
theorem opsB_few {i : tInstD} (h : i.1 ≠ 26) : (opsB i).length ≤ 3 := by
  unfold opsB
  rw [dneg h]
  cases inB 1 17 i.1 <;> cases decide (i.1 = 24) <;> cases inB 18 20 i.1 <;> cases decide (i.1 = 23) <;> cases decide (i.1 = 25) <;> cases decide (i.1 = 27) <;> cases decide (i.1 = 22) <;> simp
theorem ev_and {g : Nat → Option BR} {b c : Bool} (h : Ev g (one c)) : Ev (fun k => bif !b then some (one false) else g k) (one (b && c)) := by
  cases b with
  | true => exact Ev.neg rfl h
  | false => exact Ev.pos rfl (Ev.cst rfl)
theorem ev_and' {g : Nat → Option BR} {b c : Bool} (h : Ev g (one c)) : Ev (fun k => bif b then some (one false) else g k) (one (!b && c)) := by
  cases b with
  | true => exact Ev.pos rfl (Ev.cst rfl)
  | false => exact Ev.neg rfl h
/-- What comes behind the operands, in the program. -/
theorem implTail {i : tInstD} {l : List Int} (hl : l.length ≤ 1048576) {funcs : Int} (h0 : 0 ≤ funcs) (h1 : funcs ≤ 9223372036854775807) : Ev (fun k => Option.bind (slices_ContainsFunc_int64_int64_4.f k l) fun r4 => bif r4.1.1.1 then some (((false, ()), ()), ()) else Option.bind (impl_isWidth.f k i) fun r5 => bif r5.1.1.1 then Option.bind (impl_isImm.f k i funcs) fun r6 => some (((r6.1.1.1, ()), ()), ()) else some (((false, ()), ()), ())) (one ((l.all fun n => decide (n = 0)) && widB i && immB i funcs)) := by
  refine Ev.bind (implZero hl) ?_
  cases l.all fun n => decide (n = 0) with
  | false => exact Ev.cst rfl
  | true =>
    refine Ev.all fun k => ?_
    simp only [implWid, implImm k i h0 h1, Option.bind_some]
    cases widB i <;> cases immB i funcs <;> rfl
theorem implInst {i : tInstD} (hs : i.2.2.2.2.2.2.1.length ≤ 1048576) {count funcs : Int} (h0 : 0 ≤ count) (h1 : count ≤ 9223372036854775807) (h2 : 0 ≤ funcs) (h3 : funcs ≤ 9223372036854775807) : Ev (fun k => impl_isInst.f k i count funcs) (one (instB count funcs i)) := by
  have rest : i.1 = 26 ∨ i.1 ≠ 26 → Ev (fun k => Option.bind (impl_OperandsOf.f k i) fun r2 => Option.bind (slices_ContainsFunc_int64_int64_3.f k r2.2.1 count) fun r3 => bif r3.1.1.1 then some (((false, ()), ()), ()) else
      bif decide (i.1 = 26) then (bif (decide ((0 : Int) ≤ 0)) && (decide ((0 : Int) ≤ ((List.length [i.2.2.1, i.2.2.2.1, i.2.2.2.2.1] : Nat) : Int))) then (Option.bind (slices_ContainsFunc_int64_int64_4.f k [i.2.2.1, i.2.2.2.1, i.2.2.2.2.1]) fun r4 => bif r4.1.1.1 then some (((false, ()), ()), ()) else Option.bind (impl_isWidth.f k i) fun r5 => bif r5.1.1.1 then Option.bind (impl_isImm.f k i funcs) fun r6 => some (((r6.1.1.1, ()), ()), ()) else some (((false, ()), ()), ())) else none)
      else (bif (decide (0 ≤ ((List.length r2.2.1 : Nat) : Int))) && (decide (((List.length r2.2.1 : Nat) : Int) ≤ ((List.length [i.2.2.1, i.2.2.2.1, i.2.2.2.2.1] : Nat) : Int))) then (Option.bind (slices_ContainsFunc_int64_int64_4.f k (List.drop (Int.toNat ((List.length r2.2.1 : Nat) : Int)) [i.2.2.1, i.2.2.2.1, i.2.2.2.2.1])) fun r4 => bif r4.1.1.1 then some (((false, ()), ()), ()) else Option.bind (impl_isWidth.f k i) fun r5 => bif r5.1.1.1 then Option.bind (impl_isImm.f k i funcs) fun r6 => some (((r6.1.1.1, ()), ()), ()) else some (((false, ()), ()), ())) else none))
      (one ((opsB i).all (inB 0 (count - 1)) && (zerosB i && widB i && immB i funcs))) := by
    intro hd
    refine Ev.bind (Ev.all fun k => implOps k hs) (Ev.bind (implIn1 (opsB_len hs) h0 h1) ?_)
    cases (opsB i).all (inB 0 (count - 1)) with
    | false => exact Ev.cst rfl
    | true =>
      rcases hd with hd | hd
      · refine Ev.neg rfl (Ev.pos (dpos hd) (Ev.pos rfl ?_))
        have := implTail (i := i) (l := [i.2.2.1, i.2.2.2.1, i.2.2.2.2.1]) (by simp) h2 h3
        refine this.rw ?_
        unfold zerosB named
        rw [dpos hd]; rfl
      · refine Ev.neg rfl (Ev.neg (dneg hd) (Ev.pos ?_ ?_))
        · have := opsB_few hd
          show (decide (0 ≤ ((opsB i).length : Int)) && decide (((opsB i).length : Int) ≤ 3)) = true
          rw [dpos (by omega), dpos (by omega)]; rfl
        · have := implTail (i := i) (l := List.drop (opsB i).length [i.2.2.1, i.2.2.2.1, i.2.2.2.2.1]) (by simp; omega) h2 h3
          refine this.rw ?_
          unfold zerosB named
          rw [dneg hd]; rfl
  have rest := rest (Decidable.em _)
  unfold impl_isInst.f
  refine Ev.bind (Ev.all fun k => implIn k _ _ _) ?_
  unfold instB
  generalize hz : ((opsB i).all (inB 0 (count - 1)) && (zerosB i && widB i && immB i funcs)) = zz at rest
  have hzz : ∀ b c d : Bool, (b && c && d && (opsB i).all (inB 0 (count - 1)) && zerosB i && widB i && immB i funcs) = (b && c && d && zz) := fun b c d => by rw [← hz]; simp only [Bool.and_assoc]
  rw [hzz]
  cases inB 1 27 i.1 with
  | false => exact Ev.pos rfl (Ev.cst rfl)
  | true =>
    refine Ev.neg rfl ?_
    by_cases h4 : 4 < ((i.2.2.2.2.2.2.1.length : Nat) : Int)
    · refine Ev.pos (dpos h4) (Ev.cst ?_)
      rw [dneg (show ¬ i.2.2.2.2.2.2.1.length ≤ 4 by omega)]; rfl
    · refine Ev.neg (dneg h4) ?_
      rw [dpos (show i.2.2.2.2.2.2.1.length ≤ 4 by omega)]
      by_cases h5 : 0 < ((i.2.2.2.2.2.2.1.length : Nat) : Int)
      · refine Ev.pos (dpos h5) ?_
        rw [dneg (show ¬ i.2.2.2.2.2.2.1.length = 0 by omega)]
        by_cases h6 : i.1 = 26
        · exact Ev.neg (by rw [dpos h6]; rfl) (rest.rw (by rw [dpos h6]; rfl))
        · exact Ev.pos (by rw [dneg h6]; rfl) (Ev.cst (by rw [dneg h6]; rfl))
      · refine Ev.neg (dneg h5) (rest.rw ?_)
        rw [dpos (show i.2.2.2.2.2.2.1.length = 0 by omega)]; rfl
/-! ### the specification's -/
theorem zeros_at {a b c : Int} : ∀ n : Nat, ([a, b, c].drop n).all (fun n => decide (n = 0)) = ((bif decide ((n : Int) < 1) then decide (a = 0) else true) && (bif decide ((n : Int) < 2) then decide (b = 0) else true) && (bif decide ((n : Int) < 3) then decide (c = 0) else true))
  | 0 => by simp [Bool.and_assoc]
  | 1 => by simp
  | 2 => by simp
  | n + 3 => by
    rw [dneg (show ¬ (((n + 3 : Nat) : Int) < 1) by omega), dneg (show ¬ (((n + 3 : Nat) : Int) < 2) by omega), dneg (show ¬ (((n + 3 : Nat) : Int) < 3) by omega)]
    simp
set_option synthInstance.maxHeartbeats 400000 in
set_option synthInstance.maxSize 100000 in
theorem specInst0 {i : tInstD} {ids : List Int} (hl : ids.length ≤ 1048576) {count funcs : Int} (h0 : 0 ≤ count) (h1 : count ≤ 9223372036854775807) (h2 : 0 ≤ funcs) (h3 : funcs ≤ 9223372036854775807) (hn : named i = bif decide (i.1 = 26) then 0 else ids.length) :
    Ev (fun k => spec_l2Inst.l0 k count funcs 0 i ids) (one (ids.all (inB 0 (count - 1)) && (decide (i.2.2.2.2.2.2.1.length ≤ 4) && zerosB i && widB i && immB i funcs))) := by
  refine each_ev (z := 0) (L := fun k a => spec_l2Inst.l0 k count funcs a i ids) (V := fun m => one (m.all (inB 0 (count - 1)) && (decide (i.2.2.2.2.2.2.1.length ≤ 4) && zerosB i && widB i && immB i funcs))) (q := fun k x g => Option.bind (spec_l1In.f k x 0 (IntKind.wrap .i64 (count - 1))) fun r1 => bif !r1.1.1.1 then some (((false, ()), ()), ()) else g k) (by omega) (fun k a => rfl) ?_ ?_
  · refine Ev.all fun k => ?_
    have hz : zerosB i = ((bif decide (((named i : Nat) : Int) < 1) then decide (i.2.2.1 = 0) else true) && (bif decide (((named i : Nat) : Int) < 2) then decide (i.2.2.2.1 = 0) else true) && (bif decide (((named i : Nat) : Int) < 3) then decide (i.2.2.2.2.1 = 0) else true)) := zeros_at _
    rw [hz, hn]
    simp only [specVal, specIn, specW, Option.bind_some, wrap_id (show -9223372036854775808 ≤ funcs - 1 by omega) (show funcs - 1 ≤ 9223372036854775807 by omega), List.all_nil, Bool.true_and]
    have h4 : decide (i.2.2.2.2.2.2.1.length ≤ 4) = !decide (4 < ((List.length i.2.2.2.2.2.2.1 : Nat) : Int)) := by
      by_cases h : 4 < ((List.length i.2.2.2.2.2.2.1 : Nat) : Int)
      · rw [dpos h, dneg (by omega)]; rfl
      · rw [dneg h, dpos (by omega)]; rfl
    rw [h4]
    unfold widB immB
    have fin : ∀ (o24 o25 o26 o21 o23 w0 w8 wk : Bool), decide (i.1 = 24) = o24 → decide (i.1 = 25) = o25 → decide (i.1 = 26) = o26 → decide (i.1 = 21) = o21 → decide (i.1 = 23) = o23 → decide (i.2.1 = 0) = w0 → decide (i.2.1 = 8) = w8 → wOk i.2.1 = wk →
        (o24 = true ∧ o25 = false ∧ o26 = false ∧ o21 = false ∧ o23 = false ∨ o24 = false ∧ o25 = true ∧ o26 = false ∧ o21 = false ∧ o23 = false ∨ o24 = false ∧ o25 = false ∧ o26 = true ∧ o21 = false ∧ o23 = false ∨ o24 = false ∧ o25 = false ∧ o26 = false ∧ o21 = true ∧ o23 = false ∨ o24 = false ∧ o25 = false ∧ o26 = false ∧ o21 = false ∧ o23 = true ∨ o24 = false ∧ o25 = false ∧ o26 = false ∧ o21 = false ∧ o23 = false) ∧
        (w0 = true ∧ w8 = false ∧ wk = false ∨ w0 = false ∧ w8 = true ∧ wk = true ∨ w0 = false ∧ w8 = false) := by
      rintro _ _ _ _ _ _ _ _ rfl rfl rfl rfl rfl rfl rfl rfl
      simp only [decide_eq_true_eq, decide_eq_false_iff_not]
      refine ⟨by omega, ?_⟩
      by_cases h : i.2.1 = 0
      · exact .inl ⟨h, by omega, by rw [h]; rfl⟩
      · by_cases h' : i.2.1 = 8
        · exact .inr (.inl ⟨h, h', by rw [h']; rfl⟩)
        · exact .inr (.inr ⟨h, h'⟩)
    have fin := fin _ _ _ _ _ _ _ _ rfl rfl rfl rfl rfl rfl rfl rfl
    clear hz h4 hn
    generalize decide (i.1 = 24) = o24 at fin ⊢
    generalize decide (i.1 = 25) = o25 at fin ⊢
    generalize decide (i.1 = 26) = o26 at fin ⊢
    generalize decide (i.1 = 21) = o21 at fin ⊢
    generalize decide (i.1 = 23) = o23 at fin ⊢
    generalize decide (i.2.1 = 0) = w0 at fin ⊢
    generalize decide (i.2.1 = 8) = w8 at fin ⊢
    generalize wOk i.2.1 = wk at fin ⊢
    have z1 : decide (((0 : Nat) : Int) < 1) = true := rfl
    have z2 : decide (((0 : Nat) : Int) < 2) = true := rfl
    have z3 : decide (((0 : Nat) : Int) < 3) = true := rfl
    have y1 : decide ((0 : Int) < 1) = true := rfl
    have y2 : decide ((0 : Int) < 2) = true := rfl
    have y3 : decide ((0 : Int) < 3) = true := rfl
    obtain ⟨f1, f2⟩ := fin
    rcases f1 with ⟨rfl, rfl, rfl, rfl, rfl⟩ | ⟨rfl, rfl, rfl, rfl, rfl⟩ | ⟨rfl, rfl, rfl, rfl, rfl⟩ | ⟨rfl, rfl, rfl, rfl, rfl⟩ | ⟨rfl, rfl, rfl, rfl, rfl⟩ | ⟨rfl, rfl, rfl, rfl, rfl⟩ <;> rcases f2 with ⟨rfl, rfl, rfl⟩ | ⟨rfl, rfl, rfl⟩ | ⟨rfl, rfl⟩ <;>
      simp only [cond_true, cond_false, z1, z2, z3, y1, y2, y3, beq_self_eq_true, Bool.not_true, Bool.not_false, Bool.or_true, Bool.or_false, Bool.and_false, Bool.false_and, Bool.true_and, Bool.and_true, show (true == false) = false from rfl, show (false == true) = false from rfl, Int.reduceLT, decide_true, decide_false] <;>
      generalize decide (4 < ((List.length i.2.2.2.2.2.2.1 : Nat) : Int)) = l4 <;>
      generalize decide (((ids.length : Nat) : Int) < 1) = n1 <;> generalize decide (((ids.length : Nat) : Int) < 2) = n2 <;> generalize decide (((ids.length : Nat) : Int) < 3) = n3 <;>
      generalize decide (i.2.2.1 = 0) = a <;> generalize decide (i.2.2.2.1 = 0) = b <;> generalize decide (i.2.2.2.2.1 = 0) = c <;> generalize decide (i.2.2.2.2.2.1 = 0) = m <;>
      generalize valB i.2.1 i.2.2.2.2.2.1 = va <;> generalize inB 0 (funcs - 1) i.2.2.2.2.2.1 = vb <;> revert l4 n1 n2 n3 a b c m va vb <;> (try revert wk) <;> decide +kernel
  · intro x m g hx hg
    refine Ev.bind (Ev.all fun k => specIn k _ _ _) ?_
    rw [wrap_id (by omega) (by omega), List.all_cons, Bool.and_assoc]
    exact ev_and hg
end Go.Proofs.Ytkfehogikjcgkaa.V
namespace Go.Proofs.Ytkfehogikjcgkaa.V
open Go
set_option linter.unusedVariables false
set_option linter.unusedSimpArgs false
theorem specInst {i : tInstD} (hs : i.2.2.2.2.2.2.1.length ≤ 1048576) {count funcs : Int} (h0 : 0 ≤ count) (h1 : count ≤ 9223372036854775807) (h2 : 0 ≤ funcs) (h3 : funcs ≤ 9223372036854775807) : Ev (fun k => spec_l2Inst.f k i count funcs) (one (instB count funcs i)) := by
  have hn : named i = bif decide (i.1 = 26) then 0 else (opsB i).length := rfl
  have l0 := specInst0 (opsB_len hs) h0 h1 h2 h3 hn
  unfold spec_l2Inst.f
  refine Ev.bind (Ev.all fun k => specIn k _ _ _) ?_
  unfold instB
  generalize hz : ((opsB i).all (inB 0 (count - 1))) = za at l0 ⊢
  cases inB 1 27 i.1 with
  | false => exact Ev.pos rfl (Ev.cst rfl)
  | true =>
    refine Ev.neg rfl ?_
    have done : ∀ b : Bool, b = true → Ev (fun k => Option.bind (spec_l2Operands.f k i) fun r3 => spec_l2Inst.l0 k count funcs 0 i r3.2.1) (one (true && decide (i.2.2.2.2.2.2.1.length ≤ 4) && b && za && zerosB i && widB i && immB i funcs)) := by
      rintro _ rfl
      refine (Ev.bind (f := fun k r3 => spec_l2Inst.l0 k count funcs 0 i r3.2.1) (Ev.all fun k => specOps k hs) l0).rw ?_
      generalize decide (i.2.2.2.2.2.2.1.length ≤ 4) = z4
      generalize zerosB i = z5
      generalize widB i = z6
      generalize immB i funcs = z7
      clear l0 hz
      revert za z4 z5 z6 z7
      decide
    by_cases h6 : i.1 = 26
    · exact Ev.neg (by rw [dpos h6]; rfl) (done _ (by rw [dpos h6, Bool.or_true]))
    · refine Ev.pos (by rw [dneg h6]; rfl) ?_
      by_cases h5 : 0 < ((i.2.2.2.2.2.2.1.length : Nat) : Int)
      · refine Ev.pos (dpos h5) (Ev.cst ?_)
        rw [dneg (show ¬ i.2.2.2.2.2.2.1.length = 0 by omega), dneg h6]
        simp
      · exact Ev.neg (dneg h5) (done _ (by rw [dpos (show i.2.2.2.2.2.2.1.length = 0 by omega), Bool.true_or]))
/-! ### how many ids -/
def sumB {α : Type} (w : α → Int) : List α → Int
  | [] => 0
  | x :: l => w x + sumB w l
theorem sumB_le {α : Type} {w : α → Int} {m : Int} : ∀ {l : List α}, (∀ x ∈ l, 0 ≤ w x ∧ w x ≤ m) → 0 ≤ sumB w l ∧ sumB w l ≤ l.length * m
  | [], _ => by simp [sumB]
  | x :: l, h => by
    obtain ⟨a, b⟩ := sumB_le (l := l) fun y hy => h y (by simp [hy])
    obtain ⟨c, d⟩ := h x (by simp)
    simp only [sumB, List.length_cons]
    have : ((l.length + 1 : Nat) : Int) * m = l.length * m + m := by
      rw [Int.natCast_add, Int.add_mul]; simp
    omega
theorem acc_ev {α : Type} {l : List α} {w : α → Int} {L : Nat → Int → Int → Option IR} (hw : ∀ x ∈ l, 0 ≤ w x ∧ w x ≤ 2097152) (hlen : l.length ≤ 1048576)
    (h1 : ∀ k a (i : Nat) (h : i < l.length), L (k + 1) a (i : Int) = L k (IntKind.wrap .i64 (a + IntKind.wrap .i64 (w l[i]))) ((i + 1 : Nat) : Int)) (h2 : ∀ k a, L (k + 1) a (l.length : Int) = some (one a)) {a : Int} (ha : 0 ≤ a) (ha' : a ≤ 1048576) : Ev (fun k => L k a 0) (one (a + sumB w l)) := by
  have key : ∀ (d i : Nat) (a : Int), i + d = l.length → 0 ≤ a → a ≤ 1048576 + i * 2097152 → Ev (fun k => L k a (i : Int)) (one (a + sumB w (l.drop i))) := by
    intro d
    induction d with
    | zero =>
      intro i a hi h0 h3
      have hi' : i = l.length := by omega
      subst hi'
      rw [List.drop_length]
      exact Ev.step (g' := fun _ => some (one a)) (Ev.cst (by simp [sumB])) fun k => h2 k a
    | succ d ih =>
      intro i a hi h0 h3
      have hi' : i < l.length := by omega
      obtain ⟨w0, w1⟩ := hw l[i] (List.getElem_mem hi')
      have := ih (i + 1) (a + w l[i]) (by omega) (by omega) (by omega)
      refine (Ev.step this fun k => ?_).rw ?_
      · show L (k + 1) a (i : Int) = _
        rw [h1 k a i hi', wrap_id (x := w l[i]) (by omega) (by omega), wrap_id (by omega) (by omega)]
      · rw [List.drop_eq_getElem_cons hi']
        simp only [sumB]
        rw [Int.add_assoc]
  have := key l.length 0 a (by omega) ha (by omega)
  simpa using this
def cntB (f : tFuncD) : Int := (f.1.length : Int) + sumB (fun x : tBlockD => ((x.1.length : Nat) : Int) + ((x.2.1.length : Nat) : Int)) f.2.2.1
theorem blk_small {f : tFuncD} (h : Small tFunc f) : ∀ x ∈ f.2.2.1, x.1.length ≤ 1048576 ∧ x.2.1.length ≤ 1048576 := fun x hx => by
  have := h.2.2.1.2 x hx
  exact ⟨this.1.1, this.2.1.1⟩
theorem cntB_le {f : tFuncD} (h : Small tFunc f) : 0 ≤ cntB f ∧ cntB f ≤ 1048576 + 1048576 * 2097152 := by
  have h1 : f.1.length ≤ 1048576 := h.1.1
  have h2 : f.2.2.1.length ≤ 1048576 := h.2.2.1.1
  have := sumB_le (w := fun x : tBlockD => ((x.1.length : Nat) : Int) + ((x.2.1.length : Nat) : Int)) (m := 2097152) (l := f.2.2.1) fun x hx => by
    have := blk_small h x hx
    omega
  unfold cntB
  omega
theorem specCount {f : tFuncD} (h : Small tFunc f) : Ev (fun k => spec_CountOf.f k f) (one (cntB f)) := by
  have h1 : f.1.length ≤ 1048576 := h.1.1
  exact acc_ev (L := fun k a i => spec_CountOf.l0 k a i f) (l := f.2.2.1) (w := fun x : tBlockD => ((x.1.length : Nat) : Int) + ((x.2.1.length : Nat) : Int)) (fun x hx => by have := blk_small h x hx; omega) h.2.2.1.1 (fun k a i hi => by
      show spec_CountOf.l0_ k (spec_CountOf.l0 k) a i f = _
      unfold spec_CountOf.l0_
      have hlen : f.2.2.1.length ≤ 1048576 := h.2.2.1.1
      simp only [head_in hi, head_0, Bool.and_self, cond_true, get_in hi, wrap_nat (show i < 9223372036854775807 by omega)]) (fun k a => by
      show spec_CountOf.l0_ k (spec_CountOf.l0 k) a _ f = _
      unfold spec_CountOf.l0_
      simp only [head_end, cond_false]) (by omega) (by omega)
theorem implCount {f : tFuncD} (h : Small tFunc f) : Ev (fun k => impl_CountOf.f k f) (one (cntB f)) := by
  have h1 : f.1.length ≤ 1048576 := h.1.1
  exact acc_ev (L := fun k a i => impl_CountOf.l0 k a f.2.2.1 ((List.length f.2.2.1 : Nat) : Int) i) (l := f.2.2.1) (w := fun x : tBlockD => ((x.1.length : Nat) : Int) + ((x.2.1.length : Nat) : Int)) (fun x hx => by have := blk_small h x hx; omega) h.2.2.1.1 (fun k a i hi => by
      show impl_CountOf.l0_ k (impl_CountOf.l0 k) a f.2.2.1 _ i = _
      unfold impl_CountOf.l0_
      have hlen : f.2.2.1.length ≤ 1048576 := h.2.2.1.1
      simp only [head_in hi, head_0, Bool.and_self, cond_true, get_in hi, wrap_nat (show i < 9223372036854775807 by omega)]) (fun k a => by
      show impl_CountOf.l0_ k (impl_CountOf.l0 k) a f.2.2.1 _ _ = _
      unfold impl_CountOf.l0_
      simp only [head_end, cond_false]) (by omega) (by omega)
/-! ### functions -/
def phiB (count : Int) (p : tPhiD) : Bool := wOk p.1 && decide (p.2.1.length ≤ 10) && p.2.1.all (inB 0 (count - 1))
def blockB (count funcs blocks : Int) (b : tBlockD) : Bool := b.1.all (phiB count) && b.2.1.all (instB count funcs) && termB count blocks b.2.2
def funcB (funcs : Int) (f : tFuncD) : Bool :=
  decide (f.1.length ≤ 4) && wOk f.2.1 && inB 1 10 (f.2.2.1.length : Int) && decide (cntB f ≤ 60) && f.1.all wOk && f.2.2.1.all (blockB (cntB f) funcs (f.2.2.1.length : Int))
section
variable {f : tFuncD} {funcs count blocks : Int}
theorem specFunc4 {x : tBlockD} (hx : Small tBlock x) (h0 : 0 ≤ count) (h1 : count ≤ 9223372036854775807) (h2 : 0 ≤ funcs) (h3 : funcs ≤ 9223372036854775807) (h4 : 0 ≤ blocks) (h5 : blocks ≤ 9223372036854775807) {j : Nat} (hj : j < 9223372036854775807) {r : Bool}
    (hr : Ev (fun k => spec_l2Func.l1 k funcs count blocks ((j + 1 : Nat) : Int) f) (one r)) : Ev (fun k => spec_l2Func.l4 k funcs count blocks j 0 f x) (one (x.2.1.all (instB count funcs) && (termB count blocks x.2.2 && r))) := by
  have hs := hx.2.1
  refine each_ev (z := tInstZ) (l := x.2.1) (L := fun k a => spec_l2Func.l4 k funcs count blocks j a f x) (V := fun m => one (m.all (instB count funcs) && (termB count blocks x.2.2 && r))) (q := fun k y g => Option.bind (spec_l2Inst.f k y count funcs) fun r1 => bif !r1.1.1.1 then some (((false, ()), ()), ()) else g k)
    (by have := hs.1; show List.length (α := tInstD) x.2.1 ≤ _; have : List.length (α := tInstD) x.2.1 ≤ 1048576 := this; omega) (fun k a => rfl) ?_ ?_
  · refine Ev.bind (Ev.all fun k => specTerm k x.2.2 h0 h1 h4 h5) ?_
    rw [wrap_nat hj, List.all_nil, Bool.true_and]
    exact ev_and hr
  · intro y m g hy hg
    refine Ev.bind (specInst (i := y) ((hs.2 y hy).2.2.2.2.2.2.1.1) h0 h1 h2 h3) ?_
    rw [List.all_cons, Bool.and_assoc]
    exact ev_and hg
theorem specFunc2 {x : tBlockD} (hx : Small tBlock x) (h0 : 0 ≤ count) (h1 : count ≤ 9223372036854775807) (h2 : 0 ≤ funcs) (h3 : funcs ≤ 9223372036854775807) (h4 : 0 ≤ blocks) (h5 : blocks ≤ 9223372036854775807) {j : Nat} (hj : j < 9223372036854775807) {r : Bool}
    (hr : Ev (fun k => spec_l2Func.l1 k funcs count blocks ((j + 1 : Nat) : Int) f) (one r)) : Ev (fun k => spec_l2Func.l2 k funcs count blocks j 0 f x) (one (blockB count funcs blocks x && r)) := by
  have hs := hx.1
  have hlen : x.1.length ≤ 1048576 := hs.1
  have tail := specFunc4 (f := f) hx h0 h1 h2 h3 h4 h5 hj hr
  have key := Ev.down (G := fun i k => spec_l2Func.l2 k funcs count blocks j (i : Int) f x) (V := fun i => one ((x.1.drop i).all (phiB count) && (x.2.1.all (instB count funcs) && (termB count blocks x.2.2 && r)))) x.1.length ?_ ?_ 0 (Nat.zero_le _)
  · refine key.rw ?_
    unfold blockB
    rw [List.drop_zero, Bool.and_assoc, Bool.and_assoc]
  · rw [List.drop_length]
    refine tail.step fun k => ?_
    show spec_l2Func.l2_ k (spec_l2Func.l0 k) (spec_l2Func.l1 k) (spec_l2Func.l2 k) (spec_l2Func.l3 k) (spec_l2Func.l4 k) funcs count blocks j _ f x = _
    unfold spec_l2Func.l2_
    simp only [head_end, cond_false]
  · intro i hi ih
    have hp := hs.2 x.1[i] (List.getElem_mem hi)
    have hpl : x.1[i].2.1.length ≤ 1048576 := hp.2.1.1
    -- the inner loop
    have inner := Ev.down (G := fun q k => spec_l2Func.l3 k funcs count blocks j i (q : Int) f x) (V := fun q => one ((x.1[i].2.1.drop q).all (inB 0 (count - 1)) && ((x.1.drop (i + 1)).all (phiB count) && (x.2.1.all (instB count funcs) && (termB count blocks x.2.2 && r))))) x.1[i].2.1.length ?_ ?_ 0 (Nat.zero_le _)
    · rw [List.drop_eq_getElem_cons hi, List.all_cons]
      refine Ev.step (g' := fun k => Option.bind (spec_WidthOk.f k x.1[i].1) fun r1 => bif !r1.1.1.1 then some (((false, ()), ()), ()) else bif decide (10 < ((List.length x.1[i].2.1 : Nat) : Int)) then some (((false, ()), ()), ()) else spec_l2Func.l3 k funcs count blocks j i 0 f x) ?_ fun k => ?_
      · refine Ev.bind (Ev.all fun k => specW k _) ?_
        have e1 : ∀ R, (phiB count x.1[i] && R) = (wOk x.1[i].1 && (!decide (10 < ((List.length x.1[i].2.1 : Nat) : Int)) && (x.1[i].2.1.all (inB 0 (count - 1)) && R))) := fun R => by
          have e : decide (x.1[i].2.1.length ≤ 10) = !decide (10 < ((List.length x.1[i].2.1 : Nat) : Int)) := by
            by_cases h : 10 < ((List.length x.1[i].2.1 : Nat) : Int)
            · rw [dpos h, dneg (by omega)]; rfl
            · rw [dneg h, dpos (by omega)]; rfl
          unfold phiB
          rw [e, Bool.and_assoc, Bool.and_assoc]
        rw [Bool.and_assoc, e1]
        refine ev_and ?_
        exact ev_and' inner
      · show spec_l2Func.l2_ k (spec_l2Func.l0 k) (spec_l2Func.l1 k) (spec_l2Func.l2 k) (spec_l2Func.l3 k) (spec_l2Func.l4 k) funcs count blocks j _ f x = _
        unfold spec_l2Func.l2_
        simp only [head_in hi, head_0, Bool.and_self, cond_true, get_in hi]
    · rw [List.drop_length, List.all_nil, Bool.true_and]
      refine ih.step fun k => ?_
      show spec_l2Func.l3_ k (spec_l2Func.l0 k) (spec_l2Func.l1 k) (spec_l2Func.l2 k) (spec_l2Func.l3 k) (spec_l2Func.l4 k) funcs count blocks j _ _ f x = _
      unfold spec_l2Func.l3_
      simp only [head_in hi, head_0, Bool.and_self, cond_true, get_in hi, head_end, cond_false, wrap_nat (show i < 9223372036854775807 by omega)]
    · intro q hq ihq
      rw [List.drop_eq_getElem_cons hq, List.all_cons, Bool.and_assoc]
      refine Ev.step (g' := fun k => Option.bind (spec_l1In.f k x.1[i].2.1[q] 0 (IntKind.wrap .i64 (count - 1))) fun r1 => bif !r1.1.1.1 then some (((false, ()), ()), ()) else spec_l2Func.l3 k funcs count blocks j i ((q + 1 : Nat) : Int) f x) ?_ fun k => ?_
      · rw [wrap_id (by omega) (by omega)]
        exact Ev.bind (Ev.all fun k => specIn k _ _ _) (ev_and ihq)
      · show spec_l2Func.l3_ k (spec_l2Func.l0 k) (spec_l2Func.l1 k) (spec_l2Func.l2 k) (spec_l2Func.l3 k) (spec_l2Func.l4 k) funcs count blocks j _ _ f x = _
        unfold spec_l2Func.l3_
        simp only [head_in hi, head_0, Bool.and_self, cond_true, get_in hi, head_in hq, get_in hq, wrap_nat (show q < 9223372036854775807 by omega)]
theorem specFunc1 (hf : Small tFunc f) (h0 : 0 ≤ count) (h1 : count ≤ 9223372036854775807) (h2 : 0 ≤ funcs) (h3 : funcs ≤ 9223372036854775807) (h4 : 0 ≤ blocks) (h5 : blocks ≤ 9223372036854775807) : Ev (fun k => spec_l2Func.l1 k funcs count blocks 0 f) (one (f.2.2.1.all (blockB count funcs blocks))) := by
  have hs := hf.2.2.1
  have hlen : f.2.2.1.length ≤ 1048576 := hs.1
  have key := Ev.down (G := fun i k => spec_l2Func.l1 k funcs count blocks (i : Int) f) (V := fun i => one ((f.2.2.1.drop i).all (blockB count funcs blocks))) f.2.2.1.length ?_ ?_ 0 (Nat.zero_le _)
  · exact key
  · rw [List.drop_length]
    refine Ev.step (g' := fun _ => some (one true)) (Ev.cst rfl) fun k => ?_
    show spec_l2Func.l1_ k (spec_l2Func.l0 k) (spec_l2Func.l1 k) (spec_l2Func.l2 k) (spec_l2Func.l3 k) (spec_l2Func.l4 k) funcs count blocks _ f = _
    unfold spec_l2Func.l1_
    simp only [head_end, cond_false]
  · intro i hi ih
    rw [List.drop_eq_getElem_cons hi, List.all_cons]
    refine (specFunc2 (f := f) (x := f.2.2.1[i]) (hs.2 _ (List.getElem_mem hi)) h0 h1 h2 h3 h4 h5 (show i < 9223372036854775807 by omega) ih).step fun k => ?_
    show spec_l2Func.l1_ k (spec_l2Func.l0 k) (spec_l2Func.l1 k) (spec_l2Func.l2 k) (spec_l2Func.l3 k) (spec_l2Func.l4 k) funcs count blocks _ f = _
    unfold spec_l2Func.l1_
    simp only [head_in hi, head_0, Bool.and_self, cond_true, get_in hi]
theorem le_not {a b : Int} : decide (a ≤ b) = !decide (b < a) := by
  by_cases h : b < a
  · rw [dpos h, dneg (by omega)]; rfl
  · rw [dneg h, dpos (by omega)]; rfl
theorem len_not {n m : Nat} : decide (n ≤ m) = !decide ((m : Int) < (n : Int)) := by
  by_cases h : (m : Int) < (n : Int)
  · rw [dpos h, dneg (by omega)]; rfl
  · rw [dneg h, dpos (by omega)]; rfl
theorem specFunc (hf : Small tFunc f) (h2 : 0 ≤ funcs) (h3 : funcs ≤ 9223372036854775807) : Ev (fun k => spec_l2Func.f k f funcs) (one (funcB funcs f)) := by
  have hs := hf.2.2.1
  have hlen : f.2.2.1.length ≤ 1048576 := hs.1
  have hpl : f.1.length ≤ 1048576 := hf.1.1
  obtain ⟨c0, c1⟩ := cntB_le hf
  unfold spec_l2Func.f funcB
  simp only [Bool.and_assoc]
  refine Ev.bind (specCount hf) ?_
  rw [len_not]
  refine ev_and' (Ev.bind (Ev.all fun k => specW k _) (ev_and (Ev.bind (Ev.all fun k => specIn k _ _ _) (ev_and ?_))))
  rw [le_not]
  refine ev_and' ?_
  exact each_ev (z := 0) (l := f.1) (L := fun k a => spec_l2Func.l0 k funcs (cntB f) (f.2.2.1.length : Int) a f) (V := fun m => one (m.all wOk && f.2.2.1.all (blockB (cntB f) funcs (f.2.2.1.length : Int)))) (q := fun k y g => Option.bind (spec_WidthOk.f k y) fun r1 => bif !r1.1.1.1 then some (((false, ()), ()), ()) else g k)
    (by omega) (fun k a => rfl) (specFunc1 hf c0 (by omega) h2 h3 (by omega) (by omega)) fun y m g hy hg => by
      refine Ev.bind (Ev.all fun k => specW k _) ?_
      rw [List.all_cons, Bool.and_assoc]
      exact ev_and hg
end
end Go.Proofs.Ytkfehogikjcgkaa.V
