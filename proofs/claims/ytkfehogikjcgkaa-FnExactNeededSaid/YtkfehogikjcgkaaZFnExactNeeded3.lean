/- PROVED HERE: what the functions that the law FnExactNeeded reaches do in memory, each as a plain Lean function, and what these tell: part 4 of 5 of the proof of that law; no condition beyond those written out at each theorem. -/
import Derived.Deep.Slices
import Derived.ProofKit
import Derived.Test.YtkfehogikjcgkaaZFnExactNeeded0
import Derived.Test.YtkfehogikjcgkaaZFnExactNeeded1
import Derived.Test.YtkfehogikjcgkaaZFnExactNeeded2
namespace Go.Proofs.Ytkfehogikjcgkaa.V
open Go
set_option linter.unusedVariables false
noncomputable section
/-! ### impl.Needed: function 31 -/
abbrev impl_Needed.R := (((Unit × Unit) × Unit) × ((List Int) × Unit))
def impl_Needed.l0_ (k : Nat) (l0 : Int → Int → (List Int) → (List Bool) → Option impl_Needed.R) (a0 : Int) (a1 : Int) (a2 : List Int) (a3 : List Bool) : Option impl_Needed.R := bif decide (a1 < a0) then (bif (decide (0 ≤ a1)) && (decide (a1 < ((List.length a3 : Nat) : Int))) then (bif List.getD a3 (Int.toNat a1) false then (bif decide ((List.length a2 + List.length [a1]) * 8 ≤ 140737488355328) then (l0 a0 (IntKind.wrap .i64 (a1 + 1)) (a2 ++ [a1]) a3) else none) else (l0 a0 (IntKind.wrap .i64 (a1 + 1)) a2 a3)) else none) else (some ((((), ()), ()), (a2, ())))
def impl_Needed.all : Nat → (Int → Int → (List Int) → (List Bool) → Option impl_Needed.R) × Unit
  | 0 => (fun _ _ _ _ => none, ())
  | k + 1 => (impl_Needed.l0_ k (impl_Needed.all k).1, ())
def impl_Needed.l0 (k : Nat) : Int → Int → (List Int) → (List Bool) → Option impl_Needed.R := (impl_Needed.all k).1
def impl_Needed.f (k : Nat) (a0 : tFuncD) : Option impl_Needed.R := Option.bind (impl_isFormed.f k a0) fun r1 => bif !r1.1.1.1 then (some ((((), ()), ()), (([] : List Int), ()))) else (Option.bind (impl_needed.f k a0) fun r2 => impl_Needed.l0 k ((List.length r2.2.1 : Nat) : Int) 0 ([] : List Int) r2.2.1)
def impl_Needed.s (k : Nat) : FS := ⟨[⟨true, [.lst (.int .i64), .int .i64, .lst tBlock]⟩], [], false, [⟨false, [.own 100]⟩], [(100, .row true (.int .i64))], [], fun x => impl_Needed.f k x.1.1⟩
def impl_Needed.E (k : Nat) : Ents := [(⟨64, []⟩, impl_isFormed.s k), (⟨65, []⟩, impl_needed.s k)]
def impl_Needed.L0 (l : Int → Int → (List Int) → (List Bool) → Option impl_Needed.R) : LS impl_Needed.R := ⟨[], [(3, ⟨false, [.own 100000]⟩), (11, ⟨false, [.own 100001]⟩), (12, ⟨false, [.int .i64]⟩), (13, ⟨false, [.int .i64]⟩)], [(100000, .row true (.int .i64)), (100001, .row true .bool)], fun x => l x.1.2.2.1.1 x.1.2.2.2.1.1 x.2.1 x.2.2.1⟩
def impl_Needed.L (l0 : Int → Int → (List Int) → (List Bool) → Option impl_Needed.R) : List (LS impl_Needed.R) := [impl_Needed.L0 l0]
def impl_Needed.c : Code := Try.f31.body.getD .skip
theorem impl_Needed.eq (k : Nat) (x) : (impl_Needed.s k).pf x = execF tab (impl_Needed.E k) Try.f31 impl_Needed.c (impl_Needed.s k) (impl_Needed.L (impl_Needed.l0 k)) x := by kernel_rfl
theorem impl_Needed.r0 (l0 : Int → Int → (List Int) → (List Bool) → Option impl_Needed.R) (k : Nat) (x) : impl_Needed.l0_ k l0 x.1.2.2.1.1 x.1.2.2.2.1.1 x.2.1 x.2.2.1 = roundOf tab (impl_Needed.E k) (impl_Needed.L l0) impl_Needed.c (fin tab Try.f31 (impl_Needed.s k)) 0 (impl_Needed.L0 l0) x := by kernel_rfl
theorem impl_Needed.sound : ∀ k, Sound Try.prog 31 (impl_Needed.s k) := sound_of mixed tab_ok (f := 31) (fn := Try.f31) (c := impl_Needed.c) (by kernel_rfl) (by kernel_rfl) (by kernel_rfl) ⟨[⟨true, [.lst (.int .i64), .int .i64, .lst tBlock]⟩], [], false, [⟨false, [.own 100]⟩], [(100, .row true (.int .i64))], []⟩ (by kernel_rfl) (by kernel_rfl) (fun k => (impl_Needed.s k).pf) impl_Needed.E (fun k => (EntsOK.cons (impl_isFormed.sound k) (EntsOK.cons (impl_needed.sound k) EntsOK.nil))) (fun k => impl_Needed.L (impl_Needed.l0 k)) (fun k => ⟨rfl, trivial⟩) ⟨fun _ => rfl, trivial⟩ (fun k => ⟨⟨(impl_Needed.L0 (impl_Needed.l0 (k + 1))).l, rfl, fun x => impl_Needed.r0 (impl_Needed.l0 k) k x⟩, trivial⟩) impl_Needed.eq
end
end Go.Proofs.Ytkfehogikjcgkaa.V
namespace Go.Proofs.Ytkfehogikjcgkaa.V
open Go
set_option linter.unusedVariables false
noncomputable section
/-! ### laws.eqInt64S: function 14 -/
abbrev laws_eqInt64S.R := (((Bool × Unit) × Unit) × Unit)
def laws_eqInt64S.l0_ (k : Nat) (l0 : (List Int) → (List Int) → Int → Option laws_eqInt64S.R) (a0 : List Int) (a1 : List Int) (a2 : Int) : Option laws_eqInt64S.R := bif decide (a2 < ((List.length a0 : Nat) : Int)) then (bif (decide (0 ≤ a2)) && (decide (a2 < ((List.length a0 : Nat) : Int))) then (bif (decide (0 ≤ a2)) && (decide (a2 < ((List.length a1 : Nat) : Int))) then (bif !decide (List.getD a0 (Int.toNat a2) 0 = List.getD a1 (Int.toNat a2) 0) then (some (((false, ()), ()), ())) else (l0 a0 a1 (IntKind.wrap .i64 (a2 + 1)))) else none) else none) else (some (((true, ()), ()), ()))
def laws_eqInt64S.all : Nat → ((List Int) → (List Int) → Int → Option laws_eqInt64S.R) × Unit
  | 0 => (fun _ _ _ => none, ())
  | k + 1 => (laws_eqInt64S.l0_ k (laws_eqInt64S.all k).1, ())
def laws_eqInt64S.l0 (k : Nat) : (List Int) → (List Int) → Int → Option laws_eqInt64S.R := (laws_eqInt64S.all k).1
def laws_eqInt64S.f (k : Nat) (a0 : List Int) (a1 : List Int) : Option laws_eqInt64S.R := bif !decide (((List.length a0 : Nat) : Int) = ((List.length a1 : Nat) : Int)) then (some (((false, ()), ()), ())) else (laws_eqInt64S.l0 k a0 a1 0)
def laws_eqInt64S.s (k : Nat) : FS := ⟨[⟨false, [.lst (.int .i64)]⟩, ⟨false, [.lst (.int .i64)]⟩], [], false, [⟨false, [.bool]⟩], [], [], fun x => laws_eqInt64S.f k x.1.1.1 x.1.2.1.1⟩
def laws_eqInt64S.E (k : Nat) : Ents := []
def laws_eqInt64S.L0 (l : (List Int) → (List Int) → Int → Option laws_eqInt64S.R) : LS laws_eqInt64S.R := ⟨[], [(0, ⟨false, [.lst (.int .i64)]⟩), (1, ⟨false, [.lst (.int .i64)]⟩), (5, ⟨false, [.int .i64]⟩)], [], fun x => l x.1.1.1 x.1.2.1.1 x.1.2.2.1.1⟩
def laws_eqInt64S.L (l0 : (List Int) → (List Int) → Int → Option laws_eqInt64S.R) : List (LS laws_eqInt64S.R) := [laws_eqInt64S.L0 l0]
def laws_eqInt64S.c : Code := Try.f14.body.getD .skip
theorem laws_eqInt64S.eq (k : Nat) (x) : (laws_eqInt64S.s k).pf x = execF tab (laws_eqInt64S.E k) Try.f14 laws_eqInt64S.c (laws_eqInt64S.s k) (laws_eqInt64S.L (laws_eqInt64S.l0 k)) x := by kernel_rfl
theorem laws_eqInt64S.r0 (l0 : (List Int) → (List Int) → Int → Option laws_eqInt64S.R) (k : Nat) (x) : laws_eqInt64S.l0_ k l0 x.1.1.1 x.1.2.1.1 x.1.2.2.1.1 = roundOf tab (laws_eqInt64S.E k) (laws_eqInt64S.L l0) laws_eqInt64S.c (fin tab Try.f14 (laws_eqInt64S.s k)) 0 (laws_eqInt64S.L0 l0) x := by kernel_rfl
theorem laws_eqInt64S.sound : ∀ k, Sound Try.prog 14 (laws_eqInt64S.s k) := sound_of mixed tab_ok (f := 14) (fn := Try.f14) (c := laws_eqInt64S.c) (by kernel_rfl) (by kernel_rfl) (by kernel_rfl) ⟨[⟨false, [.lst (.int .i64)]⟩, ⟨false, [.lst (.int .i64)]⟩], [], false, [⟨false, [.bool]⟩], [], []⟩ (by kernel_rfl) (by kernel_rfl) (fun k => (laws_eqInt64S.s k).pf) laws_eqInt64S.E (fun k => EntsOK.nil) (fun k => laws_eqInt64S.L (laws_eqInt64S.l0 k)) (fun k => ⟨rfl, trivial⟩) ⟨fun _ => rfl, trivial⟩ (fun k => ⟨⟨(laws_eqInt64S.L0 (laws_eqInt64S.l0 (k + 1))).l, rfl, fun x => laws_eqInt64S.r0 (laws_eqInt64S.l0 k) k x⟩, trivial⟩) laws_eqInt64S.eq
end
end Go.Proofs.Ytkfehogikjcgkaa.V
namespace Go.Proofs.Ytkfehogikjcgkaa.V
open Go
set_option linter.unusedVariables false
noncomputable section
/-! ### laws.eqPhi: function 167 -/
abbrev laws_eqPhi.R := (((Bool × Unit) × Unit) × Unit)
def laws_eqPhi.f (k : Nat) (a0 : tPhiD) (a1 : tPhiD) : Option laws_eqPhi.R := bif !decide (a0.1 = a1.1) then (some (((false, ()), ()), ())) else (Option.bind (laws_eqInt64S.f k a0.2.1 a1.2.1) fun r1 => bif !r1.1.1.1 then (some (((false, ()), ()), ())) else (some (((true, ()), ()), ())))
def laws_eqPhi.s (k : Nat) : FS := ⟨[⟨true, [.int .i64, .lst (.int .i64)]⟩, ⟨true, [.int .i64, .lst (.int .i64)]⟩], [], false, [⟨false, [.bool]⟩], [], [], fun x => laws_eqPhi.f k x.1.1 x.1.2.1⟩
def laws_eqPhi.E (k : Nat) : Ents := [(⟨14, []⟩, laws_eqInt64S.s k)]
def laws_eqPhi.L : List (LS laws_eqPhi.R) := []
def laws_eqPhi.c : Code := Try.f167.body.getD .skip
theorem laws_eqPhi.eq (k : Nat) (x) : (laws_eqPhi.s k).pf x = execF tab (laws_eqPhi.E k) Try.f167 laws_eqPhi.c (laws_eqPhi.s k) laws_eqPhi.L x := by kernel_rfl
theorem laws_eqPhi.sound : ∀ k, Sound Try.prog 167 (laws_eqPhi.s k) := sound_of mixed tab_ok (f := 167) (fn := Try.f167) (c := laws_eqPhi.c) (by kernel_rfl) (by kernel_rfl) (by kernel_rfl) ⟨[⟨true, [.int .i64, .lst (.int .i64)]⟩, ⟨true, [.int .i64, .lst (.int .i64)]⟩], [], false, [⟨false, [.bool]⟩], [], []⟩ (by kernel_rfl) (by kernel_rfl) (fun k => (laws_eqPhi.s k).pf) laws_eqPhi.E (fun k => (EntsOK.cons (laws_eqInt64S.sound k) EntsOK.nil)) (fun k => laws_eqPhi.L) (fun k => trivial) trivial (fun k => trivial) laws_eqPhi.eq
end
end Go.Proofs.Ytkfehogikjcgkaa.V
namespace Go.Proofs.Ytkfehogikjcgkaa.V
open Go
set_option linter.unusedVariables false
noncomputable section
/-! ### laws.eqPhiS: function 135 -/
abbrev laws_eqPhiS.R := (((Bool × Unit) × Unit) × Unit)
def laws_eqPhiS.l0_ (k : Nat) (l0 : (List tPhiD) → (List tPhiD) → Int → Option laws_eqPhiS.R) (a0 : List tPhiD) (a1 : List tPhiD) (a2 : Int) : Option laws_eqPhiS.R := bif decide (a2 < ((List.length a0 : Nat) : Int)) then (bif (decide (0 ≤ a2)) && (decide (a2 < ((List.length a0 : Nat) : Int))) then (bif (decide (0 ≤ a2)) && (decide (a2 < ((List.length a1 : Nat) : Int))) then (Option.bind (laws_eqPhi.f k (List.getD a0 (Int.toNat a2) tPhiZ) (List.getD a1 (Int.toNat a2) tPhiZ)) fun r1 => bif !r1.1.1.1 then (some (((false, ()), ()), ())) else (l0 a0 a1 (IntKind.wrap .i64 (a2 + 1)))) else none) else none) else (some (((true, ()), ()), ()))
def laws_eqPhiS.all : Nat → ((List tPhiD) → (List tPhiD) → Int → Option laws_eqPhiS.R) × Unit
  | 0 => (fun _ _ _ => none, ())
  | k + 1 => (laws_eqPhiS.l0_ k (laws_eqPhiS.all k).1, ())
def laws_eqPhiS.l0 (k : Nat) : (List tPhiD) → (List tPhiD) → Int → Option laws_eqPhiS.R := (laws_eqPhiS.all k).1
def laws_eqPhiS.f (k : Nat) (a0 : List tPhiD) (a1 : List tPhiD) : Option laws_eqPhiS.R := bif !decide (((List.length a0 : Nat) : Int) = ((List.length a1 : Nat) : Int)) then (some (((false, ()), ()), ())) else (laws_eqPhiS.l0 k a0 a1 0)
def laws_eqPhiS.s (k : Nat) : FS := ⟨[⟨false, [.lst tPhi]⟩, ⟨false, [.lst tPhi]⟩], [], false, [⟨false, [.bool]⟩], [], [], fun x => laws_eqPhiS.f k x.1.1.1 x.1.2.1.1⟩
def laws_eqPhiS.E (k : Nat) : Ents := [(⟨167, []⟩, laws_eqPhi.s k)]
def laws_eqPhiS.L0 (l : (List tPhiD) → (List tPhiD) → Int → Option laws_eqPhiS.R) : LS laws_eqPhiS.R := ⟨[], [(0, ⟨false, [.lst tPhi]⟩), (1, ⟨false, [.lst tPhi]⟩), (5, ⟨false, [.int .i64]⟩)], [], fun x => l x.1.1.1 x.1.2.1.1 x.1.2.2.1.1⟩
def laws_eqPhiS.L (l0 : (List tPhiD) → (List tPhiD) → Int → Option laws_eqPhiS.R) : List (LS laws_eqPhiS.R) := [laws_eqPhiS.L0 l0]
def laws_eqPhiS.c : Code := Try.f135.body.getD .skip
theorem laws_eqPhiS.eq (k : Nat) (x) : (laws_eqPhiS.s k).pf x = execF tab (laws_eqPhiS.E k) Try.f135 laws_eqPhiS.c (laws_eqPhiS.s k) (laws_eqPhiS.L (laws_eqPhiS.l0 k)) x := by kernel_rfl
theorem laws_eqPhiS.r0 (l0 : (List tPhiD) → (List tPhiD) → Int → Option laws_eqPhiS.R) (k : Nat) (x) : laws_eqPhiS.l0_ k l0 x.1.1.1 x.1.2.1.1 x.1.2.2.1.1 = roundOf tab (laws_eqPhiS.E k) (laws_eqPhiS.L l0) laws_eqPhiS.c (fin tab Try.f135 (laws_eqPhiS.s k)) 0 (laws_eqPhiS.L0 l0) x := by kernel_rfl
theorem laws_eqPhiS.sound : ∀ k, Sound Try.prog 135 (laws_eqPhiS.s k) := sound_of mixed tab_ok (f := 135) (fn := Try.f135) (c := laws_eqPhiS.c) (by kernel_rfl) (by kernel_rfl) (by kernel_rfl) ⟨[⟨false, [.lst tPhi]⟩, ⟨false, [.lst tPhi]⟩], [], false, [⟨false, [.bool]⟩], [], []⟩ (by kernel_rfl) (by kernel_rfl) (fun k => (laws_eqPhiS.s k).pf) laws_eqPhiS.E (fun k => (EntsOK.cons (laws_eqPhi.sound k) EntsOK.nil)) (fun k => laws_eqPhiS.L (laws_eqPhiS.l0 k)) (fun k => ⟨rfl, trivial⟩) ⟨fun _ => rfl, trivial⟩ (fun k => ⟨⟨(laws_eqPhiS.L0 (laws_eqPhiS.l0 (k + 1))).l, rfl, fun x => laws_eqPhiS.r0 (laws_eqPhiS.l0 k) k x⟩, trivial⟩) laws_eqPhiS.eq
end
end Go.Proofs.Ytkfehogikjcgkaa.V
namespace Go.Proofs.Ytkfehogikjcgkaa.V
open Go
set_option linter.unusedVariables false
noncomputable section
/-! ### laws.eqInst: function 168 -/
abbrev laws_eqInst.R := (((Bool × Unit) × Unit) × Unit)
def laws_eqInst.f (k : Nat) (a0 : tInstD) (a1 : tInstD) : Option laws_eqInst.R := bif !decide (a0.1 = a1.1) then (some (((false, ()), ()), ())) else (bif !decide (a0.2.1 = a1.2.1) then (some (((false, ()), ()), ())) else (bif !decide (a0.2.2.1 = a1.2.2.1) then (some (((false, ()), ()), ())) else (bif !decide (a0.2.2.2.1 = a1.2.2.2.1) then (some (((false, ()), ()), ())) else (bif !decide (a0.2.2.2.2.1 = a1.2.2.2.2.1) then (some (((false, ()), ()), ())) else (bif !decide (a0.2.2.2.2.2.1 = a1.2.2.2.2.2.1) then (some (((false, ()), ()), ())) else (Option.bind (laws_eqInt64S.f k a0.2.2.2.2.2.2.1 a1.2.2.2.2.2.2.1) fun r1 => bif !r1.1.1.1 then (some (((false, ()), ()), ())) else (some (((true, ()), ()), ()))))))))
def laws_eqInst.s (k : Nat) : FS := ⟨[⟨true, [.int .i64, .int .i64, .int .i64, .int .i64, .int .i64, .int .i64, .lst (.int .i64)]⟩, ⟨true, [.int .i64, .int .i64, .int .i64, .int .i64, .int .i64, .int .i64, .lst (.int .i64)]⟩], [], false, [⟨false, [.bool]⟩], [], [], fun x => laws_eqInst.f k x.1.1 x.1.2.1⟩
def laws_eqInst.E (k : Nat) : Ents := [(⟨14, []⟩, laws_eqInt64S.s k)]
def laws_eqInst.L : List (LS laws_eqInst.R) := []
def laws_eqInst.c : Code := Try.f168.body.getD .skip
theorem laws_eqInst.eq (k : Nat) (x) : (laws_eqInst.s k).pf x = execF tab (laws_eqInst.E k) Try.f168 laws_eqInst.c (laws_eqInst.s k) laws_eqInst.L x := by kernel_rfl
theorem laws_eqInst.sound : ∀ k, Sound Try.prog 168 (laws_eqInst.s k) := sound_of mixed tab_ok (f := 168) (fn := Try.f168) (c := laws_eqInst.c) (by kernel_rfl) (by kernel_rfl) (by kernel_rfl) ⟨[⟨true, [.int .i64, .int .i64, .int .i64, .int .i64, .int .i64, .int .i64, .lst (.int .i64)]⟩, ⟨true, [.int .i64, .int .i64, .int .i64, .int .i64, .int .i64, .int .i64, .lst (.int .i64)]⟩], [], false, [⟨false, [.bool]⟩], [], []⟩ (by kernel_rfl) (by kernel_rfl) (fun k => (laws_eqInst.s k).pf) laws_eqInst.E (fun k => (EntsOK.cons (laws_eqInt64S.sound k) EntsOK.nil)) (fun k => laws_eqInst.L) (fun k => trivial) trivial (fun k => trivial) laws_eqInst.eq
end
end Go.Proofs.Ytkfehogikjcgkaa.V
namespace Go.Proofs.Ytkfehogikjcgkaa.V
open Go
set_option linter.unusedVariables false
noncomputable section
/-! ### laws.eqInstS: function 136 -/
abbrev laws_eqInstS.R := (((Bool × Unit) × Unit) × Unit)
def laws_eqInstS.l0_ (k : Nat) (l0 : (List tInstD) → (List tInstD) → Int → Option laws_eqInstS.R) (a0 : List tInstD) (a1 : List tInstD) (a2 : Int) : Option laws_eqInstS.R := bif decide (a2 < ((List.length a0 : Nat) : Int)) then (bif (decide (0 ≤ a2)) && (decide (a2 < ((List.length a0 : Nat) : Int))) then (bif (decide (0 ≤ a2)) && (decide (a2 < ((List.length a1 : Nat) : Int))) then (Option.bind (laws_eqInst.f k (List.getD a0 (Int.toNat a2) tInstZ) (List.getD a1 (Int.toNat a2) tInstZ)) fun r1 => bif !r1.1.1.1 then (some (((false, ()), ()), ())) else (l0 a0 a1 (IntKind.wrap .i64 (a2 + 1)))) else none) else none) else (some (((true, ()), ()), ()))
def laws_eqInstS.all : Nat → ((List tInstD) → (List tInstD) → Int → Option laws_eqInstS.R) × Unit
  | 0 => (fun _ _ _ => none, ())
  | k + 1 => (laws_eqInstS.l0_ k (laws_eqInstS.all k).1, ())
def laws_eqInstS.l0 (k : Nat) : (List tInstD) → (List tInstD) → Int → Option laws_eqInstS.R := (laws_eqInstS.all k).1
def laws_eqInstS.f (k : Nat) (a0 : List tInstD) (a1 : List tInstD) : Option laws_eqInstS.R := bif !decide (((List.length a0 : Nat) : Int) = ((List.length a1 : Nat) : Int)) then (some (((false, ()), ()), ())) else (laws_eqInstS.l0 k a0 a1 0)
def laws_eqInstS.s (k : Nat) : FS := ⟨[⟨false, [.lst tInst]⟩, ⟨false, [.lst tInst]⟩], [], false, [⟨false, [.bool]⟩], [], [], fun x => laws_eqInstS.f k x.1.1.1 x.1.2.1.1⟩
def laws_eqInstS.E (k : Nat) : Ents := [(⟨168, []⟩, laws_eqInst.s k)]
def laws_eqInstS.L0 (l : (List tInstD) → (List tInstD) → Int → Option laws_eqInstS.R) : LS laws_eqInstS.R := ⟨[], [(0, ⟨false, [.lst tInst]⟩), (1, ⟨false, [.lst tInst]⟩), (5, ⟨false, [.int .i64]⟩)], [], fun x => l x.1.1.1 x.1.2.1.1 x.1.2.2.1.1⟩
def laws_eqInstS.L (l0 : (List tInstD) → (List tInstD) → Int → Option laws_eqInstS.R) : List (LS laws_eqInstS.R) := [laws_eqInstS.L0 l0]
def laws_eqInstS.c : Code := Try.f136.body.getD .skip
theorem laws_eqInstS.eq (k : Nat) (x) : (laws_eqInstS.s k).pf x = execF tab (laws_eqInstS.E k) Try.f136 laws_eqInstS.c (laws_eqInstS.s k) (laws_eqInstS.L (laws_eqInstS.l0 k)) x := by kernel_rfl
theorem laws_eqInstS.r0 (l0 : (List tInstD) → (List tInstD) → Int → Option laws_eqInstS.R) (k : Nat) (x) : laws_eqInstS.l0_ k l0 x.1.1.1 x.1.2.1.1 x.1.2.2.1.1 = roundOf tab (laws_eqInstS.E k) (laws_eqInstS.L l0) laws_eqInstS.c (fin tab Try.f136 (laws_eqInstS.s k)) 0 (laws_eqInstS.L0 l0) x := by kernel_rfl
theorem laws_eqInstS.sound : ∀ k, Sound Try.prog 136 (laws_eqInstS.s k) := sound_of mixed tab_ok (f := 136) (fn := Try.f136) (c := laws_eqInstS.c) (by kernel_rfl) (by kernel_rfl) (by kernel_rfl) ⟨[⟨false, [.lst tInst]⟩, ⟨false, [.lst tInst]⟩], [], false, [⟨false, [.bool]⟩], [], []⟩ (by kernel_rfl) (by kernel_rfl) (fun k => (laws_eqInstS.s k).pf) laws_eqInstS.E (fun k => (EntsOK.cons (laws_eqInst.sound k) EntsOK.nil)) (fun k => laws_eqInstS.L (laws_eqInstS.l0 k)) (fun k => ⟨rfl, trivial⟩) ⟨fun _ => rfl, trivial⟩ (fun k => ⟨⟨(laws_eqInstS.L0 (laws_eqInstS.l0 (k + 1))).l, rfl, fun x => laws_eqInstS.r0 (laws_eqInstS.l0 k) k x⟩, trivial⟩) laws_eqInstS.eq
end
end Go.Proofs.Ytkfehogikjcgkaa.V
namespace Go.Proofs.Ytkfehogikjcgkaa.V
open Go
set_option linter.unusedVariables false
noncomputable section
/-! ### laws.eqTerm: function 137 -/
abbrev laws_eqTerm.R := (((Bool × Unit) × Unit) × Unit)
def laws_eqTerm.f (k : Nat) (a0 : tTermD) (a1 : tTermD) : Option laws_eqTerm.R := bif !decide (a0.1 = a1.1) then (some (((false, ()), ()), ())) else (bif !decide (a0.2.1 = a1.2.1) then (some (((false, ()), ()), ())) else (bif !decide (a0.2.2.1 = a1.2.2.1) then (some (((false, ()), ()), ())) else (bif !decide (a0.2.2.2.1 = a1.2.2.2.1) then (some (((false, ()), ()), ())) else (some (((true, ()), ()), ())))))
def laws_eqTerm.s (k : Nat) : FS := ⟨[⟨true, [.int .i64, .int .i64, .int .i64, .int .i64]⟩, ⟨true, [.int .i64, .int .i64, .int .i64, .int .i64]⟩], [], false, [⟨false, [.bool]⟩], [], [], fun x => laws_eqTerm.f k x.1.1 x.1.2.1⟩
def laws_eqTerm.E (k : Nat) : Ents := []
def laws_eqTerm.L : List (LS laws_eqTerm.R) := []
def laws_eqTerm.c : Code := Try.f137.body.getD .skip
theorem laws_eqTerm.eq (k : Nat) (x) : (laws_eqTerm.s k).pf x = execF tab (laws_eqTerm.E k) Try.f137 laws_eqTerm.c (laws_eqTerm.s k) laws_eqTerm.L x := by kernel_rfl
theorem laws_eqTerm.sound : ∀ k, Sound Try.prog 137 (laws_eqTerm.s k) := sound_of mixed tab_ok (f := 137) (fn := Try.f137) (c := laws_eqTerm.c) (by kernel_rfl) (by kernel_rfl) (by kernel_rfl) ⟨[⟨true, [.int .i64, .int .i64, .int .i64, .int .i64]⟩, ⟨true, [.int .i64, .int .i64, .int .i64, .int .i64]⟩], [], false, [⟨false, [.bool]⟩], [], []⟩ (by kernel_rfl) (by kernel_rfl) (fun k => (laws_eqTerm.s k).pf) laws_eqTerm.E (fun k => EntsOK.nil) (fun k => laws_eqTerm.L) (fun k => trivial) trivial (fun k => trivial) laws_eqTerm.eq
end
end Go.Proofs.Ytkfehogikjcgkaa.V
namespace Go.Proofs.Ytkfehogikjcgkaa.V
open Go
set_option linter.unusedVariables false
noncomputable section
/-! ### laws.eqBlock: function 81 -/
abbrev laws_eqBlock.R := (((Bool × Unit) × Unit) × Unit)
def laws_eqBlock.f (k : Nat) (a0 : tBlockD) (a1 : tBlockD) : Option laws_eqBlock.R := Option.bind (laws_eqPhiS.f k a0.1 a1.1) fun r1 => bif !r1.1.1.1 then (some (((false, ()), ()), ())) else (Option.bind (laws_eqInstS.f k a0.2.1 a1.2.1) fun r2 => bif !r2.1.1.1 then (some (((false, ()), ()), ())) else (Option.bind (laws_eqTerm.f k a0.2.2 a1.2.2) fun r3 => bif !r3.1.1.1 then (some (((false, ()), ()), ())) else (some (((true, ()), ()), ()))))
def laws_eqBlock.s (k : Nat) : FS := ⟨[⟨true, [.lst tPhi, .lst tInst, .int .i64, .int .i64, .int .i64, .int .i64]⟩, ⟨true, [.lst tPhi, .lst tInst, .int .i64, .int .i64, .int .i64, .int .i64]⟩], [], false, [⟨false, [.bool]⟩], [], [], fun x => laws_eqBlock.f k x.1.1 x.1.2.1⟩
def laws_eqBlock.E (k : Nat) : Ents := [(⟨135, []⟩, laws_eqPhiS.s k), (⟨136, []⟩, laws_eqInstS.s k), (⟨137, []⟩, laws_eqTerm.s k)]
def laws_eqBlock.L : List (LS laws_eqBlock.R) := []
def laws_eqBlock.c : Code := Try.f81.body.getD .skip
theorem laws_eqBlock.eq (k : Nat) (x) : (laws_eqBlock.s k).pf x = execF tab (laws_eqBlock.E k) Try.f81 laws_eqBlock.c (laws_eqBlock.s k) laws_eqBlock.L x := by kernel_rfl
theorem laws_eqBlock.sound : ∀ k, Sound Try.prog 81 (laws_eqBlock.s k) := sound_of mixed tab_ok (f := 81) (fn := Try.f81) (c := laws_eqBlock.c) (by kernel_rfl) (by kernel_rfl) (by kernel_rfl) ⟨[⟨true, [.lst tPhi, .lst tInst, .int .i64, .int .i64, .int .i64, .int .i64]⟩, ⟨true, [.lst tPhi, .lst tInst, .int .i64, .int .i64, .int .i64, .int .i64]⟩], [], false, [⟨false, [.bool]⟩], [], []⟩ (by kernel_rfl) (by kernel_rfl) (fun k => (laws_eqBlock.s k).pf) laws_eqBlock.E (fun k => (EntsOK.cons (laws_eqPhiS.sound k) (EntsOK.cons (laws_eqInstS.sound k) (EntsOK.cons (laws_eqTerm.sound k) EntsOK.nil)))) (fun k => laws_eqBlock.L) (fun k => trivial) trivial (fun k => trivial) laws_eqBlock.eq
end
end Go.Proofs.Ytkfehogikjcgkaa.V
namespace Go.Proofs.Ytkfehogikjcgkaa.V
open Go
set_option linter.unusedVariables false
noncomputable section
/-! ### laws.eqBlockS: function 43 -/
abbrev laws_eqBlockS.R := (((Bool × Unit) × Unit) × Unit)
def laws_eqBlockS.l0_ (k : Nat) (l0 : (List tBlockD) → (List tBlockD) → Int → Option laws_eqBlockS.R) (a0 : List tBlockD) (a1 : List tBlockD) (a2 : Int) : Option laws_eqBlockS.R := bif decide (a2 < ((List.length a0 : Nat) : Int)) then (bif (decide (0 ≤ a2)) && (decide (a2 < ((List.length a0 : Nat) : Int))) then (bif (decide (0 ≤ a2)) && (decide (a2 < ((List.length a1 : Nat) : Int))) then (Option.bind (laws_eqBlock.f k (List.getD a0 (Int.toNat a2) tBlockZ) (List.getD a1 (Int.toNat a2) tBlockZ)) fun r1 => bif !r1.1.1.1 then (some (((false, ()), ()), ())) else (l0 a0 a1 (IntKind.wrap .i64 (a2 + 1)))) else none) else none) else (some (((true, ()), ()), ()))
def laws_eqBlockS.all : Nat → ((List tBlockD) → (List tBlockD) → Int → Option laws_eqBlockS.R) × Unit
  | 0 => (fun _ _ _ => none, ())
  | k + 1 => (laws_eqBlockS.l0_ k (laws_eqBlockS.all k).1, ())
def laws_eqBlockS.l0 (k : Nat) : (List tBlockD) → (List tBlockD) → Int → Option laws_eqBlockS.R := (laws_eqBlockS.all k).1
def laws_eqBlockS.f (k : Nat) (a0 : List tBlockD) (a1 : List tBlockD) : Option laws_eqBlockS.R := bif !decide (((List.length a0 : Nat) : Int) = ((List.length a1 : Nat) : Int)) then (some (((false, ()), ()), ())) else (laws_eqBlockS.l0 k a0 a1 0)
def laws_eqBlockS.s (k : Nat) : FS := ⟨[⟨false, [.lst tBlock]⟩, ⟨false, [.lst tBlock]⟩], [], false, [⟨false, [.bool]⟩], [], [], fun x => laws_eqBlockS.f k x.1.1.1 x.1.2.1.1⟩
def laws_eqBlockS.E (k : Nat) : Ents := [(⟨81, []⟩, laws_eqBlock.s k)]
def laws_eqBlockS.L0 (l : (List tBlockD) → (List tBlockD) → Int → Option laws_eqBlockS.R) : LS laws_eqBlockS.R := ⟨[], [(0, ⟨false, [.lst tBlock]⟩), (1, ⟨false, [.lst tBlock]⟩), (5, ⟨false, [.int .i64]⟩)], [], fun x => l x.1.1.1 x.1.2.1.1 x.1.2.2.1.1⟩
def laws_eqBlockS.L (l0 : (List tBlockD) → (List tBlockD) → Int → Option laws_eqBlockS.R) : List (LS laws_eqBlockS.R) := [laws_eqBlockS.L0 l0]
def laws_eqBlockS.c : Code := Try.f43.body.getD .skip
theorem laws_eqBlockS.eq (k : Nat) (x) : (laws_eqBlockS.s k).pf x = execF tab (laws_eqBlockS.E k) Try.f43 laws_eqBlockS.c (laws_eqBlockS.s k) (laws_eqBlockS.L (laws_eqBlockS.l0 k)) x := by kernel_rfl
theorem laws_eqBlockS.r0 (l0 : (List tBlockD) → (List tBlockD) → Int → Option laws_eqBlockS.R) (k : Nat) (x) : laws_eqBlockS.l0_ k l0 x.1.1.1 x.1.2.1.1 x.1.2.2.1.1 = roundOf tab (laws_eqBlockS.E k) (laws_eqBlockS.L l0) laws_eqBlockS.c (fin tab Try.f43 (laws_eqBlockS.s k)) 0 (laws_eqBlockS.L0 l0) x := by kernel_rfl
theorem laws_eqBlockS.sound : ∀ k, Sound Try.prog 43 (laws_eqBlockS.s k) := sound_of mixed tab_ok (f := 43) (fn := Try.f43) (c := laws_eqBlockS.c) (by kernel_rfl) (by kernel_rfl) (by kernel_rfl) ⟨[⟨false, [.lst tBlock]⟩, ⟨false, [.lst tBlock]⟩], [], false, [⟨false, [.bool]⟩], [], []⟩ (by kernel_rfl) (by kernel_rfl) (fun k => (laws_eqBlockS.s k).pf) laws_eqBlockS.E (fun k => (EntsOK.cons (laws_eqBlock.sound k) EntsOK.nil)) (fun k => laws_eqBlockS.L (laws_eqBlockS.l0 k)) (fun k => ⟨rfl, trivial⟩) ⟨fun _ => rfl, trivial⟩ (fun k => ⟨⟨(laws_eqBlockS.L0 (laws_eqBlockS.l0 (k + 1))).l, rfl, fun x => laws_eqBlockS.r0 (laws_eqBlockS.l0 k) k x⟩, trivial⟩) laws_eqBlockS.eq
end
end Go.Proofs.Ytkfehogikjcgkaa.V
namespace Go.Proofs.Ytkfehogikjcgkaa.V
open Go
set_option linter.unusedVariables false
noncomputable section
/-! ### laws.eqFunc: function 15 -/
abbrev laws_eqFunc.R := (((Bool × Unit) × Unit) × Unit)
def laws_eqFunc.f (k : Nat) (a0 : tFuncD) (a1 : tFuncD) : Option laws_eqFunc.R := Option.bind (laws_eqInt64S.f k a0.1 a1.1) fun r1 => bif !r1.1.1.1 then (some (((false, ()), ()), ())) else (bif !decide (a0.2.1 = a1.2.1) then (some (((false, ()), ()), ())) else (Option.bind (laws_eqBlockS.f k a0.2.2.1 a1.2.2.1) fun r2 => bif !r2.1.1.1 then (some (((false, ()), ()), ())) else (some (((true, ()), ()), ()))))
def laws_eqFunc.s (k : Nat) : FS := ⟨[⟨true, [.lst (.int .i64), .int .i64, .lst tBlock]⟩, ⟨true, [.lst (.int .i64), .int .i64, .lst tBlock]⟩], [], false, [⟨false, [.bool]⟩], [], [], fun x => laws_eqFunc.f k x.1.1 x.1.2.1⟩
def laws_eqFunc.E (k : Nat) : Ents := [(⟨14, []⟩, laws_eqInt64S.s k), (⟨43, []⟩, laws_eqBlockS.s k)]
def laws_eqFunc.L : List (LS laws_eqFunc.R) := []
def laws_eqFunc.c : Code := Try.f15.body.getD .skip
theorem laws_eqFunc.eq (k : Nat) (x) : (laws_eqFunc.s k).pf x = execF tab (laws_eqFunc.E k) Try.f15 laws_eqFunc.c (laws_eqFunc.s k) laws_eqFunc.L x := by kernel_rfl
theorem laws_eqFunc.sound : ∀ k, Sound Try.prog 15 (laws_eqFunc.s k) := sound_of mixed tab_ok (f := 15) (fn := Try.f15) (c := laws_eqFunc.c) (by kernel_rfl) (by kernel_rfl) (by kernel_rfl) ⟨[⟨true, [.lst (.int .i64), .int .i64, .lst tBlock]⟩, ⟨true, [.lst (.int .i64), .int .i64, .lst tBlock]⟩], [], false, [⟨false, [.bool]⟩], [], []⟩ (by kernel_rfl) (by kernel_rfl) (fun k => (laws_eqFunc.s k).pf) laws_eqFunc.E (fun k => (EntsOK.cons (laws_eqInt64S.sound k) (EntsOK.cons (laws_eqBlockS.sound k) EntsOK.nil))) (fun k => laws_eqFunc.L) (fun k => trivial) trivial (fun k => trivial) laws_eqFunc.eq
end
end Go.Proofs.Ytkfehogikjcgkaa.V
namespace Go.Proofs.Ytkfehogikjcgkaa.V
open Go
set_option linter.unusedVariables false
noncomputable section
/-! ### laws.markInt64S: function 17 -/
abbrev laws_markInt64S.R := (((Int × Unit) × Unit) × ((List Int) × Unit))
def laws_markInt64S.l0_ (k : Nat) (l0 : Int → Int → (List Int) → Option laws_markInt64S.R) (a0 : Int) (a1 : Int) (a2 : List Int) : Option laws_markInt64S.R := bif decide (a1 < ((List.length a2 : Nat) : Int)) then (bif (decide (0 ≤ a1)) && (decide (a1 < ((List.length a2 : Nat) : Int))) then (l0 (IntKind.wrap .i64 (a0 + 1)) (IntKind.wrap .i64 (a1 + 1)) (List.set a2 (Int.toNat a1) a0)) else none) else (some (((a0, ()), ()), (a2, ())))
def laws_markInt64S.all : Nat → (Int → Int → (List Int) → Option laws_markInt64S.R) × Unit
  | 0 => (fun _ _ _ => none, ())
  | k + 1 => (laws_markInt64S.l0_ k (laws_markInt64S.all k).1, ())
def laws_markInt64S.l0 (k : Nat) : Int → Int → (List Int) → Option laws_markInt64S.R := (laws_markInt64S.all k).1
def laws_markInt64S.f (k : Nat) (a0 : Int) (a1 : List Int) : Option laws_markInt64S.R := laws_markInt64S.l0 k a0 0 a1
def laws_markInt64S.s (k : Nat) : FS := ⟨[⟨false, [.own 0]⟩, ⟨false, [.int .i64]⟩], [(0, .row true (.int .i64))], false, [⟨false, [.int .i64]⟩], [(0, .row true (.int .i64))], [0], fun x => laws_markInt64S.f k x.1.2.1.1 x.2.1⟩
def laws_markInt64S.E (k : Nat) : Ents := []
def laws_markInt64S.L0 (l : Int → Int → (List Int) → Option laws_markInt64S.R) : LS laws_markInt64S.R := ⟨[0], [(0, ⟨false, [.own 0]⟩), (1, ⟨false, [.int .i64]⟩), (5, ⟨false, [.int .i64]⟩)], [(0, .row true (.int .i64))], fun x => l x.1.2.1.1 x.1.2.2.1.1 x.2.1⟩
def laws_markInt64S.L (l0 : Int → Int → (List Int) → Option laws_markInt64S.R) : List (LS laws_markInt64S.R) := [laws_markInt64S.L0 l0]
def laws_markInt64S.c : Code := Try.f17.body.getD .skip
theorem laws_markInt64S.eq (k : Nat) (x) : (laws_markInt64S.s k).pf x = execF tab (laws_markInt64S.E k) Try.f17 laws_markInt64S.c (laws_markInt64S.s k) (laws_markInt64S.L (laws_markInt64S.l0 k)) x := by kernel_rfl
theorem laws_markInt64S.r0 (l0 : Int → Int → (List Int) → Option laws_markInt64S.R) (k : Nat) (x) : laws_markInt64S.l0_ k l0 x.1.2.1.1 x.1.2.2.1.1 x.2.1 = roundOf tab (laws_markInt64S.E k) (laws_markInt64S.L l0) laws_markInt64S.c (fin tab Try.f17 (laws_markInt64S.s k)) 0 (laws_markInt64S.L0 l0) x := by kernel_rfl
theorem laws_markInt64S.sound : ∀ k, Sound Try.prog 17 (laws_markInt64S.s k) := sound_of mixed tab_ok (f := 17) (fn := Try.f17) (c := laws_markInt64S.c) (by kernel_rfl) (by kernel_rfl) (by kernel_rfl) ⟨[⟨false, [.own 0]⟩, ⟨false, [.int .i64]⟩], [(0, .row true (.int .i64))], false, [⟨false, [.int .i64]⟩], [(0, .row true (.int .i64))], [0]⟩ (by kernel_rfl) (by kernel_rfl) (fun k => (laws_markInt64S.s k).pf) laws_markInt64S.E (fun k => EntsOK.nil) (fun k => laws_markInt64S.L (laws_markInt64S.l0 k)) (fun k => ⟨rfl, trivial⟩) ⟨fun _ => rfl, trivial⟩ (fun k => ⟨⟨(laws_markInt64S.L0 (laws_markInt64S.l0 (k + 1))).l, rfl, fun x => laws_markInt64S.r0 (laws_markInt64S.l0 k) k x⟩, trivial⟩) laws_markInt64S.eq
end
end Go.Proofs.Ytkfehogikjcgkaa.V
namespace Go.Proofs.Ytkfehogikjcgkaa.V
open Go
set_option linter.unusedVariables false
noncomputable section
/-! ### laws.markPhiS: function 82 -/
abbrev laws_markPhiS.R := (((Int × Unit) × Unit) × ((List tPhiD) × Unit))
def laws_markPhiS.l0_ (k : Nat) (l0 : Int → Int → (List tPhiD) → Option laws_markPhiS.R) (a0 : Int) (a1 : Int) (a2 : List tPhiD) : Option laws_markPhiS.R := bif decide (a1 < ((List.length a2 : Nat) : Int)) then (bif (decide (0 ≤ a1)) && (decide (a1 < ((List.length a2 : Nat) : Int))) then (bif (decide (0 ≤ a1)) && (decide (a1 < ((List.length (updAt tPhiZ a2 (Int.toNat a1) (fun q_ => (a0, q_.2))) : Nat) : Int))) then (Option.bind (laws_markInt64S.f k (IntKind.wrap .i64 (a0 + 1)) ((List.getD (updAt tPhiZ a2 (Int.toNat a1) (fun q_ => (a0, q_.2))) (Int.toNat a1) tPhiZ).2.1)) fun r1 => l0 r1.1.1.1 (IntKind.wrap .i64 (a1 + 1)) (updAt tPhiZ (updAt tPhiZ a2 (Int.toNat a1) (fun q_ => (a0, q_.2))) (Int.toNat a1) (fun q_ => (q_.1, r1.2.1, q_.2.2)))) else none) else none) else (some (((a0, ()), ()), (a2, ())))
def laws_markPhiS.all : Nat → (Int → Int → (List tPhiD) → Option laws_markPhiS.R) × Unit
  | 0 => (fun _ _ _ => none, ())
  | k + 1 => (laws_markPhiS.l0_ k (laws_markPhiS.all k).1, ())
def laws_markPhiS.l0 (k : Nat) : Int → Int → (List tPhiD) → Option laws_markPhiS.R := (laws_markPhiS.all k).1
def laws_markPhiS.f (k : Nat) (a0 : Int) (a1 : List tPhiD) : Option laws_markPhiS.R := laws_markPhiS.l0 k a0 0 a1
def laws_markPhiS.s (k : Nat) : FS := ⟨[⟨false, [.own 0]⟩, ⟨false, [.int .i64]⟩], [(0, .row true tPhi)], false, [⟨false, [.int .i64]⟩], [(0, .row true tPhi)], [0], fun x => laws_markPhiS.f k x.1.2.1.1 x.2.1⟩
def laws_markPhiS.E (k : Nat) : Ents := [(⟨17, []⟩, laws_markInt64S.s k)]
def laws_markPhiS.L0 (l : Int → Int → (List tPhiD) → Option laws_markPhiS.R) : LS laws_markPhiS.R := ⟨[0], [(0, ⟨false, [.own 0]⟩), (1, ⟨false, [.int .i64]⟩), (5, ⟨false, [.int .i64]⟩)], [(0, .row true tPhi)], fun x => l x.1.2.1.1 x.1.2.2.1.1 x.2.1⟩
def laws_markPhiS.L (l0 : Int → Int → (List tPhiD) → Option laws_markPhiS.R) : List (LS laws_markPhiS.R) := [laws_markPhiS.L0 l0]
def laws_markPhiS.c : Code := Try.f82.body.getD .skip
theorem laws_markPhiS.eq (k : Nat) (x) : (laws_markPhiS.s k).pf x = execF tab (laws_markPhiS.E k) Try.f82 laws_markPhiS.c (laws_markPhiS.s k) (laws_markPhiS.L (laws_markPhiS.l0 k)) x := by kernel_rfl
theorem laws_markPhiS.r0 (l0 : Int → Int → (List tPhiD) → Option laws_markPhiS.R) (k : Nat) (x) : laws_markPhiS.l0_ k l0 x.1.2.1.1 x.1.2.2.1.1 x.2.1 = roundOf tab (laws_markPhiS.E k) (laws_markPhiS.L l0) laws_markPhiS.c (fin tab Try.f82 (laws_markPhiS.s k)) 0 (laws_markPhiS.L0 l0) x := by kernel_rfl
theorem laws_markPhiS.sound : ∀ k, Sound Try.prog 82 (laws_markPhiS.s k) := sound_of mixed tab_ok (f := 82) (fn := Try.f82) (c := laws_markPhiS.c) (by kernel_rfl) (by kernel_rfl) (by kernel_rfl) ⟨[⟨false, [.own 0]⟩, ⟨false, [.int .i64]⟩], [(0, .row true tPhi)], false, [⟨false, [.int .i64]⟩], [(0, .row true tPhi)], [0]⟩ (by kernel_rfl) (by kernel_rfl) (fun k => (laws_markPhiS.s k).pf) laws_markPhiS.E (fun k => (EntsOK.cons (laws_markInt64S.sound k) EntsOK.nil)) (fun k => laws_markPhiS.L (laws_markPhiS.l0 k)) (fun k => ⟨rfl, trivial⟩) ⟨fun _ => rfl, trivial⟩ (fun k => ⟨⟨(laws_markPhiS.L0 (laws_markPhiS.l0 (k + 1))).l, rfl, fun x => laws_markPhiS.r0 (laws_markPhiS.l0 k) k x⟩, trivial⟩) laws_markPhiS.eq
end
end Go.Proofs.Ytkfehogikjcgkaa.V
namespace Go.Proofs.Ytkfehogikjcgkaa.V
open Go
set_option linter.unusedVariables false
noncomputable section
/-! ### laws.markInstS: function 83 -/
abbrev laws_markInstS.R := (((Int × Unit) × Unit) × ((List tInstD) × Unit))
def laws_markInstS.l0_ (k : Nat) (l0 : Int → Int → (List tInstD) → Option laws_markInstS.R) (a0 : Int) (a1 : Int) (a2 : List tInstD) : Option laws_markInstS.R := bif decide (a1 < ((List.length a2 : Nat) : Int)) then (bif (decide (0 ≤ a1)) && (decide (a1 < ((List.length a2 : Nat) : Int))) then (bif (decide (0 ≤ a1)) && (decide (a1 < ((List.length (updAt tInstZ a2 (Int.toNat a1) (fun q_ => (a0, q_.2))) : Nat) : Int))) then (bif (decide (0 ≤ a1)) && (decide (a1 < ((List.length (updAt tInstZ (updAt tInstZ a2 (Int.toNat a1) (fun q_ => (a0, q_.2))) (Int.toNat a1) (fun q_ => (q_.1, IntKind.wrap .i64 (a0 + 1), q_.2.2))) : Nat) : Int))) then (bif (decide (0 ≤ a1)) && (decide (a1 < ((List.length (updAt tInstZ (updAt tInstZ (updAt tInstZ a2 (Int.toNat a1) (fun q_ => (a0, q_.2))) (Int.toNat a1) (fun q_ => (q_.1, IntKind.wrap .i64 (a0 + 1), q_.2.2))) (Int.toNat a1) (fun q_ => (q_.1, q_.2.1, IntKind.wrap .i64 ((IntKind.wrap .i64 (a0 + 1)) + 1), q_.2.2.2))) : Nat) : Int))) then (bif (decide (0 ≤ a1)) && (decide (a1 < ((List.length (updAt tInstZ (updAt tInstZ (updAt tInstZ (updAt tInstZ a2 (Int.toNat a1) (fun q_ => (a0, q_.2))) (Int.toNat a1) (fun q_ => (q_.1, IntKind.wrap .i64 (a0 + 1), q_.2.2))) (Int.toNat a1) (fun q_ => (q_.1, q_.2.1, IntKind.wrap .i64 ((IntKind.wrap .i64 (a0 + 1)) + 1), q_.2.2.2))) (Int.toNat a1) (fun q_ => (q_.1, q_.2.1, q_.2.2.1, IntKind.wrap .i64 ((IntKind.wrap .i64 ((IntKind.wrap .i64 (a0 + 1)) + 1)) + 1), q_.2.2.2.2))) : Nat) : Int))) then (bif (decide (0 ≤ a1)) && (decide (a1 < ((List.length (updAt tInstZ (updAt tInstZ (updAt tInstZ (updAt tInstZ (updAt tInstZ a2 (Int.toNat a1) (fun q_ => (a0, q_.2))) (Int.toNat a1) (fun q_ => (q_.1, IntKind.wrap .i64 (a0 + 1), q_.2.2))) (Int.toNat a1) (fun q_ => (q_.1, q_.2.1, IntKind.wrap .i64 ((IntKind.wrap .i64 (a0 + 1)) + 1), q_.2.2.2))) (Int.toNat a1) (fun q_ => (q_.1, q_.2.1, q_.2.2.1, IntKind.wrap .i64 ((IntKind.wrap .i64 ((IntKind.wrap .i64 (a0 + 1)) + 1)) + 1), q_.2.2.2.2))) (Int.toNat a1) (fun q_ => (q_.1, q_.2.1, q_.2.2.1, q_.2.2.2.1, IntKind.wrap .i64 ((IntKind.wrap .i64 ((IntKind.wrap .i64 ((IntKind.wrap .i64 (a0 + 1)) + 1)) + 1)) + 1), q_.2.2.2.2.2))) : Nat) : Int))) then (bif (decide (0 ≤ a1)) && (decide (a1 < ((List.length (updAt tInstZ (updAt tInstZ (updAt tInstZ (updAt tInstZ (updAt tInstZ (updAt tInstZ a2 (Int.toNat a1) (fun q_ => (a0, q_.2))) (Int.toNat a1) (fun q_ => (q_.1, IntKind.wrap .i64 (a0 + 1), q_.2.2))) (Int.toNat a1) (fun q_ => (q_.1, q_.2.1, IntKind.wrap .i64 ((IntKind.wrap .i64 (a0 + 1)) + 1), q_.2.2.2))) (Int.toNat a1) (fun q_ => (q_.1, q_.2.1, q_.2.2.1, IntKind.wrap .i64 ((IntKind.wrap .i64 ((IntKind.wrap .i64 (a0 + 1)) + 1)) + 1), q_.2.2.2.2))) (Int.toNat a1) (fun q_ => (q_.1, q_.2.1, q_.2.2.1, q_.2.2.2.1, IntKind.wrap .i64 ((IntKind.wrap .i64 ((IntKind.wrap .i64 ((IntKind.wrap .i64 (a0 + 1)) + 1)) + 1)) + 1), q_.2.2.2.2.2))) (Int.toNat a1) (fun q_ => (q_.1, q_.2.1, q_.2.2.1, q_.2.2.2.1, q_.2.2.2.2.1, IntKind.wrap .i64 ((IntKind.wrap .i64 ((IntKind.wrap .i64 ((IntKind.wrap .i64 ((IntKind.wrap .i64 (a0 + 1)) + 1)) + 1)) + 1)) + 1), q_.2.2.2.2.2.2))) : Nat) : Int))) then (Option.bind (laws_markInt64S.f k (IntKind.wrap .i64 ((IntKind.wrap .i64 ((IntKind.wrap .i64 ((IntKind.wrap .i64 ((IntKind.wrap .i64 ((IntKind.wrap .i64 (a0 + 1)) + 1)) + 1)) + 1)) + 1)) + 1)) ((List.getD (updAt tInstZ (updAt tInstZ (updAt tInstZ (updAt tInstZ (updAt tInstZ (updAt tInstZ a2 (Int.toNat a1) (fun q_ => (a0, q_.2))) (Int.toNat a1) (fun q_ => (q_.1, IntKind.wrap .i64 (a0 + 1), q_.2.2))) (Int.toNat a1) (fun q_ => (q_.1, q_.2.1, IntKind.wrap .i64 ((IntKind.wrap .i64 (a0 + 1)) + 1), q_.2.2.2))) (Int.toNat a1) (fun q_ => (q_.1, q_.2.1, q_.2.2.1, IntKind.wrap .i64 ((IntKind.wrap .i64 ((IntKind.wrap .i64 (a0 + 1)) + 1)) + 1), q_.2.2.2.2))) (Int.toNat a1) (fun q_ => (q_.1, q_.2.1, q_.2.2.1, q_.2.2.2.1, IntKind.wrap .i64 ((IntKind.wrap .i64 ((IntKind.wrap .i64 ((IntKind.wrap .i64 (a0 + 1)) + 1)) + 1)) + 1), q_.2.2.2.2.2))) (Int.toNat a1) (fun q_ => (q_.1, q_.2.1, q_.2.2.1, q_.2.2.2.1, q_.2.2.2.2.1, IntKind.wrap .i64 ((IntKind.wrap .i64 ((IntKind.wrap .i64 ((IntKind.wrap .i64 ((IntKind.wrap .i64 (a0 + 1)) + 1)) + 1)) + 1)) + 1), q_.2.2.2.2.2.2))) (Int.toNat a1) tInstZ).2.2.2.2.2.2.1)) fun r1 => l0 r1.1.1.1 (IntKind.wrap .i64 (a1 + 1)) (updAt tInstZ (updAt tInstZ (updAt tInstZ (updAt tInstZ (updAt tInstZ (updAt tInstZ (updAt tInstZ a2 (Int.toNat a1) (fun q_ => (a0, q_.2))) (Int.toNat a1) (fun q_ => (q_.1, IntKind.wrap .i64 (a0 + 1), q_.2.2))) (Int.toNat a1) (fun q_ => (q_.1, q_.2.1, IntKind.wrap .i64 ((IntKind.wrap .i64 (a0 + 1)) + 1), q_.2.2.2))) (Int.toNat a1) (fun q_ => (q_.1, q_.2.1, q_.2.2.1, IntKind.wrap .i64 ((IntKind.wrap .i64 ((IntKind.wrap .i64 (a0 + 1)) + 1)) + 1), q_.2.2.2.2))) (Int.toNat a1) (fun q_ => (q_.1, q_.2.1, q_.2.2.1, q_.2.2.2.1, IntKind.wrap .i64 ((IntKind.wrap .i64 ((IntKind.wrap .i64 ((IntKind.wrap .i64 (a0 + 1)) + 1)) + 1)) + 1), q_.2.2.2.2.2))) (Int.toNat a1) (fun q_ => (q_.1, q_.2.1, q_.2.2.1, q_.2.2.2.1, q_.2.2.2.2.1, IntKind.wrap .i64 ((IntKind.wrap .i64 ((IntKind.wrap .i64 ((IntKind.wrap .i64 ((IntKind.wrap .i64 (a0 + 1)) + 1)) + 1)) + 1)) + 1), q_.2.2.2.2.2.2))) (Int.toNat a1) (fun q_ => (q_.1, q_.2.1, q_.2.2.1, q_.2.2.2.1, q_.2.2.2.2.1, q_.2.2.2.2.2.1, r1.2.1, q_.2.2.2.2.2.2.2)))) else none) else none) else none) else none) else none) else none) else none) else (some (((a0, ()), ()), (a2, ())))
def laws_markInstS.all : Nat → (Int → Int → (List tInstD) → Option laws_markInstS.R) × Unit
  | 0 => (fun _ _ _ => none, ())
  | k + 1 => (laws_markInstS.l0_ k (laws_markInstS.all k).1, ())
def laws_markInstS.l0 (k : Nat) : Int → Int → (List tInstD) → Option laws_markInstS.R := (laws_markInstS.all k).1
def laws_markInstS.f (k : Nat) (a0 : Int) (a1 : List tInstD) : Option laws_markInstS.R := laws_markInstS.l0 k a0 0 a1
def laws_markInstS.s (k : Nat) : FS := ⟨[⟨false, [.own 0]⟩, ⟨false, [.int .i64]⟩], [(0, .row true tInst)], false, [⟨false, [.int .i64]⟩], [(0, .row true tInst)], [0], fun x => laws_markInstS.f k x.1.2.1.1 x.2.1⟩
def laws_markInstS.E (k : Nat) : Ents := [(⟨17, []⟩, laws_markInt64S.s k)]
def laws_markInstS.L0 (l : Int → Int → (List tInstD) → Option laws_markInstS.R) : LS laws_markInstS.R := ⟨[0], [(0, ⟨false, [.own 0]⟩), (1, ⟨false, [.int .i64]⟩), (5, ⟨false, [.int .i64]⟩)], [(0, .row true tInst)], fun x => l x.1.2.1.1 x.1.2.2.1.1 x.2.1⟩
def laws_markInstS.L (l0 : Int → Int → (List tInstD) → Option laws_markInstS.R) : List (LS laws_markInstS.R) := [laws_markInstS.L0 l0]
def laws_markInstS.c : Code := Try.f83.body.getD .skip
theorem laws_markInstS.eq (k : Nat) (x) : (laws_markInstS.s k).pf x = execF tab (laws_markInstS.E k) Try.f83 laws_markInstS.c (laws_markInstS.s k) (laws_markInstS.L (laws_markInstS.l0 k)) x := by kernel_rfl
theorem laws_markInstS.r0 (l0 : Int → Int → (List tInstD) → Option laws_markInstS.R) (k : Nat) (x) : laws_markInstS.l0_ k l0 x.1.2.1.1 x.1.2.2.1.1 x.2.1 = roundOf tab (laws_markInstS.E k) (laws_markInstS.L l0) laws_markInstS.c (fin tab Try.f83 (laws_markInstS.s k)) 0 (laws_markInstS.L0 l0) x := by kernel_rfl
theorem laws_markInstS.sound : ∀ k, Sound Try.prog 83 (laws_markInstS.s k) := sound_of mixed tab_ok (f := 83) (fn := Try.f83) (c := laws_markInstS.c) (by kernel_rfl) (by kernel_rfl) (by kernel_rfl) ⟨[⟨false, [.own 0]⟩, ⟨false, [.int .i64]⟩], [(0, .row true tInst)], false, [⟨false, [.int .i64]⟩], [(0, .row true tInst)], [0]⟩ (by kernel_rfl) (by kernel_rfl) (fun k => (laws_markInstS.s k).pf) laws_markInstS.E (fun k => (EntsOK.cons (laws_markInt64S.sound k) EntsOK.nil)) (fun k => laws_markInstS.L (laws_markInstS.l0 k)) (fun k => ⟨rfl, trivial⟩) ⟨fun _ => rfl, trivial⟩ (fun k => ⟨⟨(laws_markInstS.L0 (laws_markInstS.l0 (k + 1))).l, rfl, fun x => laws_markInstS.r0 (laws_markInstS.l0 k) k x⟩, trivial⟩) laws_markInstS.eq
end
end Go.Proofs.Ytkfehogikjcgkaa.V
namespace Go.Proofs.Ytkfehogikjcgkaa.V
open Go
set_option linter.unusedVariables false
noncomputable section
/-! ### laws.markBlockS: function 44 -/
abbrev laws_markBlockS.R := (((Int × Unit) × Unit) × ((List tBlockD) × Unit))
def laws_markBlockS.l0_ (k : Nat) (l0 : Int → Int → (List tBlockD) → Option laws_markBlockS.R) (a0 : Int) (a1 : Int) (a2 : List tBlockD) : Option laws_markBlockS.R := bif decide (a1 < ((List.length a2 : Nat) : Int)) then (bif (decide (0 ≤ a1)) && (decide (a1 < ((List.length a2 : Nat) : Int))) then (Option.bind (laws_markPhiS.f k a0 ((List.getD a2 (Int.toNat a1) tBlockZ).1)) fun r1 => bif (decide (0 ≤ a1)) && (decide (a1 < ((List.length (updAt tBlockZ a2 (Int.toNat a1) (fun q_ => (r1.2.1, q_.2))) : Nat) : Int))) then (Option.bind (laws_markInstS.f k r1.1.1.1 ((List.getD (updAt tBlockZ a2 (Int.toNat a1) (fun q_ => (r1.2.1, q_.2))) (Int.toNat a1) tBlockZ).2.1)) fun r2 => bif (decide (0 ≤ a1)) && (decide (a1 < ((List.length (updAt tBlockZ (updAt tBlockZ a2 (Int.toNat a1) (fun q_ => (r1.2.1, q_.2))) (Int.toNat a1) (fun q_ => (q_.1, r2.2.1, q_.2.2))) : Nat) : Int))) then (bif (decide (0 ≤ a1)) && (decide (a1 < ((List.length (updAt tBlockZ (updAt tBlockZ (updAt tBlockZ a2 (Int.toNat a1) (fun q_ => (r1.2.1, q_.2))) (Int.toNat a1) (fun q_ => (q_.1, r2.2.1, q_.2.2))) (Int.toNat a1) (fun q_ => (q_.1, q_.2.1, r2.1.1.1, q_.2.2.2))) : Nat) : Int))) then (bif (decide (0 ≤ a1)) && (decide (a1 < ((List.length (updAt tBlockZ (updAt tBlockZ (updAt tBlockZ (updAt tBlockZ a2 (Int.toNat a1) (fun q_ => (r1.2.1, q_.2))) (Int.toNat a1) (fun q_ => (q_.1, r2.2.1, q_.2.2))) (Int.toNat a1) (fun q_ => (q_.1, q_.2.1, r2.1.1.1, q_.2.2.2))) (Int.toNat a1) (fun q_ => (q_.1, q_.2.1, q_.2.2.1, IntKind.wrap .i64 (r2.1.1.1 + 1), q_.2.2.2.2))) : Nat) : Int))) then (bif (decide (0 ≤ a1)) && (decide (a1 < ((List.length (updAt tBlockZ (updAt tBlockZ (updAt tBlockZ (updAt tBlockZ (updAt tBlockZ a2 (Int.toNat a1) (fun q_ => (r1.2.1, q_.2))) (Int.toNat a1) (fun q_ => (q_.1, r2.2.1, q_.2.2))) (Int.toNat a1) (fun q_ => (q_.1, q_.2.1, r2.1.1.1, q_.2.2.2))) (Int.toNat a1) (fun q_ => (q_.1, q_.2.1, q_.2.2.1, IntKind.wrap .i64 (r2.1.1.1 + 1), q_.2.2.2.2))) (Int.toNat a1) (fun q_ => (q_.1, q_.2.1, q_.2.2.1, q_.2.2.2.1, IntKind.wrap .i64 ((IntKind.wrap .i64 (r2.1.1.1 + 1)) + 1), q_.2.2.2.2.2))) : Nat) : Int))) then (l0 (IntKind.wrap .i64 ((IntKind.wrap .i64 ((IntKind.wrap .i64 ((IntKind.wrap .i64 (r2.1.1.1 + 1)) + 1)) + 1)) + 1)) (IntKind.wrap .i64 (a1 + 1)) (updAt tBlockZ (updAt tBlockZ (updAt tBlockZ (updAt tBlockZ (updAt tBlockZ (updAt tBlockZ a2 (Int.toNat a1) (fun q_ => (r1.2.1, q_.2))) (Int.toNat a1) (fun q_ => (q_.1, r2.2.1, q_.2.2))) (Int.toNat a1) (fun q_ => (q_.1, q_.2.1, r2.1.1.1, q_.2.2.2))) (Int.toNat a1) (fun q_ => (q_.1, q_.2.1, q_.2.2.1, IntKind.wrap .i64 (r2.1.1.1 + 1), q_.2.2.2.2))) (Int.toNat a1) (fun q_ => (q_.1, q_.2.1, q_.2.2.1, q_.2.2.2.1, IntKind.wrap .i64 ((IntKind.wrap .i64 (r2.1.1.1 + 1)) + 1), q_.2.2.2.2.2))) (Int.toNat a1) (fun q_ => (q_.1, q_.2.1, q_.2.2.1, q_.2.2.2.1, q_.2.2.2.2.1, IntKind.wrap .i64 ((IntKind.wrap .i64 ((IntKind.wrap .i64 (r2.1.1.1 + 1)) + 1)) + 1), q_.2.2.2.2.2.2)))) else none) else none) else none) else none) else none) else none) else (some (((a0, ()), ()), (a2, ())))
def laws_markBlockS.all : Nat → (Int → Int → (List tBlockD) → Option laws_markBlockS.R) × Unit
  | 0 => (fun _ _ _ => none, ())
  | k + 1 => (laws_markBlockS.l0_ k (laws_markBlockS.all k).1, ())
def laws_markBlockS.l0 (k : Nat) : Int → Int → (List tBlockD) → Option laws_markBlockS.R := (laws_markBlockS.all k).1
def laws_markBlockS.f (k : Nat) (a0 : Int) (a1 : List tBlockD) : Option laws_markBlockS.R := laws_markBlockS.l0 k a0 0 a1
def laws_markBlockS.s (k : Nat) : FS := ⟨[⟨false, [.own 0]⟩, ⟨false, [.int .i64]⟩], [(0, .row true tBlock)], false, [⟨false, [.int .i64]⟩], [(0, .row true tBlock)], [0], fun x => laws_markBlockS.f k x.1.2.1.1 x.2.1⟩
def laws_markBlockS.E (k : Nat) : Ents := [(⟨82, []⟩, laws_markPhiS.s k), (⟨83, []⟩, laws_markInstS.s k)]
def laws_markBlockS.L0 (l : Int → Int → (List tBlockD) → Option laws_markBlockS.R) : LS laws_markBlockS.R := ⟨[0], [(0, ⟨false, [.own 0]⟩), (1, ⟨false, [.int .i64]⟩), (5, ⟨false, [.int .i64]⟩)], [(0, .row true tBlock)], fun x => l x.1.2.1.1 x.1.2.2.1.1 x.2.1⟩
def laws_markBlockS.L (l0 : Int → Int → (List tBlockD) → Option laws_markBlockS.R) : List (LS laws_markBlockS.R) := [laws_markBlockS.L0 l0]
def laws_markBlockS.c : Code := Try.f44.body.getD .skip
theorem laws_markBlockS.eq (k : Nat) (x) : (laws_markBlockS.s k).pf x = execF tab (laws_markBlockS.E k) Try.f44 laws_markBlockS.c (laws_markBlockS.s k) (laws_markBlockS.L (laws_markBlockS.l0 k)) x := by kernel_rfl
theorem laws_markBlockS.r0 (l0 : Int → Int → (List tBlockD) → Option laws_markBlockS.R) (k : Nat) (x) : laws_markBlockS.l0_ k l0 x.1.2.1.1 x.1.2.2.1.1 x.2.1 = roundOf tab (laws_markBlockS.E k) (laws_markBlockS.L l0) laws_markBlockS.c (fin tab Try.f44 (laws_markBlockS.s k)) 0 (laws_markBlockS.L0 l0) x := by kernel_rfl
theorem laws_markBlockS.sound : ∀ k, Sound Try.prog 44 (laws_markBlockS.s k) := sound_of mixed tab_ok (f := 44) (fn := Try.f44) (c := laws_markBlockS.c) (by kernel_rfl) (by kernel_rfl) (by kernel_rfl) ⟨[⟨false, [.own 0]⟩, ⟨false, [.int .i64]⟩], [(0, .row true tBlock)], false, [⟨false, [.int .i64]⟩], [(0, .row true tBlock)], [0]⟩ (by kernel_rfl) (by kernel_rfl) (fun k => (laws_markBlockS.s k).pf) laws_markBlockS.E (fun k => (EntsOK.cons (laws_markPhiS.sound k) (EntsOK.cons (laws_markInstS.sound k) EntsOK.nil))) (fun k => laws_markBlockS.L (laws_markBlockS.l0 k)) (fun k => ⟨rfl, trivial⟩) ⟨fun _ => rfl, trivial⟩ (fun k => ⟨⟨(laws_markBlockS.L0 (laws_markBlockS.l0 (k + 1))).l, rfl, fun x => laws_markBlockS.r0 (laws_markBlockS.l0 k) k x⟩, trivial⟩) laws_markBlockS.eq
end
end Go.Proofs.Ytkfehogikjcgkaa.V
namespace Go.Proofs.Ytkfehogikjcgkaa.V
open Go
set_option linter.unusedVariables false
noncomputable section
/-! ### laws.markFunc: function 16 -/
abbrev laws_markFunc.R := (((Int × Unit) × Unit) × ((List Int) × (List tBlockD) × Unit))
def laws_markFunc.f (k : Nat) (a0 : Int) (a1 : Int) (a2 : List Int) (a3 : List tBlockD) : Option laws_markFunc.R := Option.bind (laws_markInt64S.f k a1 a2) fun r1 => Option.bind (laws_markBlockS.f k r1.1.1.1 a3) fun r2 => some (((r2.1.1.1, ()), ()), (r1.2.1, r2.2.1, ()))
def laws_markFunc.s (k : Nat) : FS := ⟨[⟨true, [.own 0, .int .i64, .own 1]⟩, ⟨false, [.int .i64]⟩], [(0, .row true (.int .i64)), (1, .row true tBlock)], false, [⟨false, [.int .i64]⟩], [(0, .row true (.int .i64)), (1, .row true tBlock)], [0, 1], fun x => laws_markFunc.f k x.1.1.2.1 x.1.2.1.1 x.2.1 x.2.2.1⟩
def laws_markFunc.E (k : Nat) : Ents := [(⟨17, []⟩, laws_markInt64S.s k), (⟨44, []⟩, laws_markBlockS.s k)]
def laws_markFunc.L : List (LS laws_markFunc.R) := []
def laws_markFunc.c : Code := Try.f16.body.getD .skip
theorem laws_markFunc.eq (k : Nat) (x) : (laws_markFunc.s k).pf x = execF tab (laws_markFunc.E k) Try.f16 laws_markFunc.c (laws_markFunc.s k) laws_markFunc.L x := by kernel_rfl
theorem laws_markFunc.sound : ∀ k, Sound Try.prog 16 (laws_markFunc.s k) := sound_of mixed tab_ok (f := 16) (fn := Try.f16) (c := laws_markFunc.c) (by kernel_rfl) (by kernel_rfl) (by kernel_rfl) ⟨[⟨true, [.own 0, .int .i64, .own 1]⟩, ⟨false, [.int .i64]⟩], [(0, .row true (.int .i64)), (1, .row true tBlock)], false, [⟨false, [.int .i64]⟩], [(0, .row true (.int .i64)), (1, .row true tBlock)], [0, 1]⟩ (by kernel_rfl) (by kernel_rfl) (fun k => (laws_markFunc.s k).pf) laws_markFunc.E (fun k => (EntsOK.cons (laws_markInt64S.sound k) (EntsOK.cons (laws_markBlockS.sound k) EntsOK.nil))) (fun k => laws_markFunc.L) (fun k => trivial) trivial (fun k => trivial) laws_markFunc.eq
end
end Go.Proofs.Ytkfehogikjcgkaa.V
namespace Go.Proofs.Ytkfehogikjcgkaa.V
open Go
set_option linter.unusedVariables false
noncomputable section
/-! ### laws.heldInt64S: function 18 -/
abbrev laws_heldInt64S.R := (((Int × Unit) × Unit) × Unit)
def laws_heldInt64S.l0_ (k : Nat) (l0 : (List Int) → Int → Int → Option laws_heldInt64S.R) (a0 : List Int) (a1 : Int) (a2 : Int) : Option laws_heldInt64S.R := bif decide (a2 < ((List.length a0 : Nat) : Int)) then (bif (decide (0 ≤ a2)) && (decide (a2 < ((List.length a0 : Nat) : Int))) then (bif !decide (List.getD a0 (Int.toNat a2) 0 = a1) then (some (((-1, ()), ()), ())) else (l0 a0 (IntKind.wrap .i64 (a1 + 1)) (IntKind.wrap .i64 (a2 + 1)))) else none) else (some (((a1, ()), ()), ()))
def laws_heldInt64S.all : Nat → ((List Int) → Int → Int → Option laws_heldInt64S.R) × Unit
  | 0 => (fun _ _ _ => none, ())
  | k + 1 => (laws_heldInt64S.l0_ k (laws_heldInt64S.all k).1, ())
def laws_heldInt64S.l0 (k : Nat) : (List Int) → Int → Int → Option laws_heldInt64S.R := (laws_heldInt64S.all k).1
def laws_heldInt64S.f (k : Nat) (a0 : List Int) (a1 : Int) : Option laws_heldInt64S.R := laws_heldInt64S.l0 k a0 a1 0
def laws_heldInt64S.s (k : Nat) : FS := ⟨[⟨false, [.lst (.int .i64)]⟩, ⟨false, [.int .i64]⟩], [], false, [⟨false, [.int .i64]⟩], [], [], fun x => laws_heldInt64S.f k x.1.1.1 x.1.2.1.1⟩
def laws_heldInt64S.E (k : Nat) : Ents := []
def laws_heldInt64S.L0 (l : (List Int) → Int → Int → Option laws_heldInt64S.R) : LS laws_heldInt64S.R := ⟨[], [(0, ⟨false, [.lst (.int .i64)]⟩), (1, ⟨false, [.int .i64]⟩), (5, ⟨false, [.int .i64]⟩)], [], fun x => l x.1.1.1 x.1.2.1.1 x.1.2.2.1.1⟩
def laws_heldInt64S.L (l0 : (List Int) → Int → Int → Option laws_heldInt64S.R) : List (LS laws_heldInt64S.R) := [laws_heldInt64S.L0 l0]
def laws_heldInt64S.c : Code := Try.f18.body.getD .skip
theorem laws_heldInt64S.eq (k : Nat) (x) : (laws_heldInt64S.s k).pf x = execF tab (laws_heldInt64S.E k) Try.f18 laws_heldInt64S.c (laws_heldInt64S.s k) (laws_heldInt64S.L (laws_heldInt64S.l0 k)) x := by kernel_rfl
theorem laws_heldInt64S.r0 (l0 : (List Int) → Int → Int → Option laws_heldInt64S.R) (k : Nat) (x) : laws_heldInt64S.l0_ k l0 x.1.1.1 x.1.2.1.1 x.1.2.2.1.1 = roundOf tab (laws_heldInt64S.E k) (laws_heldInt64S.L l0) laws_heldInt64S.c (fin tab Try.f18 (laws_heldInt64S.s k)) 0 (laws_heldInt64S.L0 l0) x := by kernel_rfl
theorem laws_heldInt64S.sound : ∀ k, Sound Try.prog 18 (laws_heldInt64S.s k) := sound_of mixed tab_ok (f := 18) (fn := Try.f18) (c := laws_heldInt64S.c) (by kernel_rfl) (by kernel_rfl) (by kernel_rfl) ⟨[⟨false, [.lst (.int .i64)]⟩, ⟨false, [.int .i64]⟩], [], false, [⟨false, [.int .i64]⟩], [], []⟩ (by kernel_rfl) (by kernel_rfl) (fun k => (laws_heldInt64S.s k).pf) laws_heldInt64S.E (fun k => EntsOK.nil) (fun k => laws_heldInt64S.L (laws_heldInt64S.l0 k)) (fun k => ⟨rfl, trivial⟩) ⟨fun _ => rfl, trivial⟩ (fun k => ⟨⟨(laws_heldInt64S.L0 (laws_heldInt64S.l0 (k + 1))).l, rfl, fun x => laws_heldInt64S.r0 (laws_heldInt64S.l0 k) k x⟩, trivial⟩) laws_heldInt64S.eq
end
end Go.Proofs.Ytkfehogikjcgkaa.V
namespace Go.Proofs.Ytkfehogikjcgkaa.V
open Go
set_option linter.unusedVariables false
noncomputable section
/-! ### laws.FnExactNeeded: function 8 -/
abbrev laws_FnExactNeeded.R := (((Bool × Unit) × Unit) × Unit)
def laws_FnExactNeeded.f (k : Nat) (a0 : tFuncD) : Option laws_FnExactNeeded.R := Option.bind (laws_szFunc.f k a0 1048576) fun r1 => bif decide (r1.1.1.1 < 0) then (some (((true, ()), ()), ())) else (Option.bind (laws_toFunc.f k a0) fun r2 => Option.bind (spec_Needed.f k (r2.2.1, r2.1.1.2.1, r2.2.2.1, ())) fun r3 => Option.bind (laws_toFunc.f k a0) fun r4 => Option.bind (impl_Needed.f k (r4.2.1, r4.1.1.2.1, r4.2.2.1, ())) fun r5 => Option.bind (laws_eqInt64S.f k r5.2.1 r3.1.1.1) fun r6 => bif !r6.1.1.1 then (some (((false, ()), ()), ())) else (Option.bind (laws_toFunc.f k a0) fun r7 => Option.bind (laws_eqFunc.f k (r4.2.1, r4.1.1.2.1, r4.2.2.1, ()) (r7.2.1, r7.1.1.2.1, r7.2.2.1, ())) fun r8 => bif !r8.1.1.1 then (some (((false, ()), ()), ())) else (Option.bind (laws_markFunc.f k r4.1.1.2.1 1 r4.2.1 r4.2.2.1) fun r9 => bif decide (r9.1.1.1 < 0) then (some (((false, ()), ()), ())) else (Option.bind (laws_eqInt64S.f k r5.2.1 r3.1.1.1) fun r10 => bif !r10.1.1.1 then (some (((false, ()), ()), ())) else (Option.bind (laws_markInt64S.f k 1 r5.2.1) fun r11 => Option.bind (laws_heldInt64S.f k r11.2.1 1) fun r12 => bif decide (r12.1.1.1 < 0) then (some (((false, ()), ()), ())) else (bif !decide (r12.1.1.1 = r11.1.1.1) then (some (((false, ()), ()), ())) else (Option.bind (laws_toFunc.f k a0) fun r13 => Option.bind (impl_Needed.f k (r13.2.1, r13.1.1.2.1, r13.2.2.1, ())) fun r14 => Option.bind (laws_eqInt64S.f k r14.2.1 r3.1.1.1) fun r15 => bif !r15.1.1.1 then (some (((false, ()), ()), ())) else (Option.bind (laws_heldInt64S.f k r11.2.1 1) fun r16 => bif decide (r16.1.1.1 < 0) then (some (((false, ()), ()), ())) else (bif !decide (r16.1.1.1 = r11.1.1.1) then (some (((false, ()), ()), ())) else (some (((true, ()), ()), ())))))))))))
def laws_FnExactNeeded.s (k : Nat) : FS := ⟨[⟨true, [.lst (.int .i64), .int .i64, .lst tBlock]⟩], [], false, [⟨false, [.bool]⟩], [], [], fun x => laws_FnExactNeeded.f k x.1.1⟩
def laws_FnExactNeeded.E (k : Nat) : Ents := [(⟨10, []⟩, laws_szFunc.s k), (⟨12, []⟩, laws_toFunc.s k), (⟨30, []⟩, spec_Needed.s k), (⟨31, []⟩, impl_Needed.s k), (⟨14, []⟩, laws_eqInt64S.s k), (⟨15, []⟩, laws_eqFunc.s k), (⟨16, []⟩, laws_markFunc.s k), (⟨17, []⟩, laws_markInt64S.s k), (⟨18, []⟩, laws_heldInt64S.s k)]
def laws_FnExactNeeded.L : List (LS laws_FnExactNeeded.R) := []
def laws_FnExactNeeded.c : Code := Try.f8.body.getD .skip
theorem laws_FnExactNeeded.eq (k : Nat) (x) : (laws_FnExactNeeded.s k).pf x = execF tab (laws_FnExactNeeded.E k) Try.f8 laws_FnExactNeeded.c (laws_FnExactNeeded.s k) laws_FnExactNeeded.L x := by kernel_rfl
theorem laws_FnExactNeeded.sound : ∀ k, Sound Try.prog 8 (laws_FnExactNeeded.s k) := sound_of mixed tab_ok (f := 8) (fn := Try.f8) (c := laws_FnExactNeeded.c) (by kernel_rfl) (by kernel_rfl) (by kernel_rfl) ⟨[⟨true, [.lst (.int .i64), .int .i64, .lst tBlock]⟩], [], false, [⟨false, [.bool]⟩], [], []⟩ (by kernel_rfl) (by kernel_rfl) (fun k => (laws_FnExactNeeded.s k).pf) laws_FnExactNeeded.E (fun k => (EntsOK.cons (laws_szFunc.sound k) (EntsOK.cons (laws_toFunc.sound k) (EntsOK.cons (spec_Needed.sound k) (EntsOK.cons (impl_Needed.sound k) (EntsOK.cons (laws_eqInt64S.sound k) (EntsOK.cons (laws_eqFunc.sound k) (EntsOK.cons (laws_markFunc.sound k) (EntsOK.cons (laws_markInt64S.sound k) (EntsOK.cons (laws_heldInt64S.sound k) EntsOK.nil)))))))))) (fun k => laws_FnExactNeeded.L) (fun k => trivial) trivial (fun k => trivial) laws_FnExactNeeded.eq
end
end Go.Proofs.Ytkfehogikjcgkaa.V
namespace Go.Proofs.Ytkfehogikjcgkaa.V
open Go Go.Deep Go.RowKit
set_option linter.unusedVariables false
set_option linter.unusedSimpArgs false
/-- What is known of a datum that was read. -/
def Wf : (t : T) → t.Den → Prop
  | .int k, n => (Lit.int k n).wf = true
  | .bool, _ => True
  | .str, s => ByteArray.size s ≤ 9223372036854775807
  | .list t, xs => List.length (α := t.Den) xs ≤ 9223372036854775807 ∧ ∀ x : t.Den, List.Mem (α := t.Den) x xs → Wf t x
  | .pair a b, x => Wf a (Prod.fst (α := a.Den) (β := b.Den) x) ∧ Wf b (Prod.snd (α := a.Den) (β := b.Den) x)
  | .unit, _ => True
def OpensC (P : Program) (ty : TypeId) (t r : T) : Prop :=
  ∀ (H : Type) (enc : TypeId × Value → H) (w : World) (base : Nat) (spare : Nat → Bool) (held : Bool) (fuel : Nat) (cs : List Value) (x : DataW H × List MemPlace), DataW.trod enc P w base spare held fuel ty cs = some x →
    ∀ (y : r.Den) (us : List Value), Rd (fun b => b < w.heap.size) w r y us → Wf r y → ∃ a : t.Den, Rd (fun b => b < w.heap.size) w t a (cs ++ us) ∧ Wf t a
def Opens (P : Program) (ty : TypeId) (t : T) : Prop :=
  ∀ (H : Type) (enc : TypeId × Value → H) (w : World) (base : Nat) (spare : Nat → Bool) (held : Bool) (fuel : Nat) (cs : List Value) (x : DataW H × List MemPlace), DataW.trod enc P w base spare held fuel ty cs = some x →
    ∃ a : t.Den, Rd (fun b => b < w.heap.size) w t a cs ∧ Wf t a
theorem OpensC.whole {P : Program} {ty : TypeId} {t : T} (h : OpensC P ty t .unit) : Opens P ty t := by
  intro H enc w base spare held fuel cs x hx
  obtain ⟨a, h1, h2⟩ := h H enc w base spare held fuel cs x hx () [] rfl trivial
  rw [List.append_nil] at h1
  exact ⟨a, h1, h2⟩
theorem OpensC.one {P : Program} {ty : TypeId} {e : T} (h : OpensC P ty (.pair e .unit) .unit) : Opens P ty e := by
  intro H enc w base spare held fuel cs x hx
  obtain ⟨a, ⟨us, ws, h0, h1, h2⟩, h3⟩ := h H enc w base spare held fuel cs x hx () [] rfl trivial
  simp only [Rd] at h2
  subst h2
  simp only [List.append_nil] at h0
  subst h0
  exact ⟨_, h1, h3.1⟩
theorem OpensC.leaf {P : Program} {ty : TypeId} {e r : T} (h : Opens P ty e) : OpensC P ty (.pair e r) r := by
  intro H enc w base spare held fuel cs x hx y us hy hw
  obtain ⟨a, h1, h2⟩ := h H enc w base spare held fuel cs x hx
  exact ⟨(a, y), ⟨cs, us, rfl, h1, hy⟩, h2, hw⟩
theorem opens_list {P : Program} {ty el : TypeId} {e : T} (hu : P.underlying ty = some (.slice el)) (hc : P.cellsOf el = e.sz) (h1 : 1 ≤ e.sz) (h : Opens P el e) : Opens P ty (.list e) := by
  intro H enc w base spare held fuel cs x hx
  rcases open_slice hu hx with ⟨rfl, -⟩ | ⟨a, len, cap, m, n, D, Pl, rfl, hb, hl, hm, hmm, -, hel⟩
  · exact ⟨([] : List e.Den), ⟨none, 0, rfl, Nat.le_refl _, fun h => absurd rfl h⟩, Nat.zero_le _, fun _ h => (List.not_mem_nil h).elim⟩
  · have hlm : len ≤ m := by rw [hmm]; split <;> omega
    have hspot : len ≠ 0 → a.spot = none ∧ a.block < w.heap.size := by
      intro hn
      obtain ⟨cs', c1, c2⟩ := hel 0 (by omega)
      obtain ⟨-, l1, l2⟩ := World.cells?_some c1
      rw [hc] at l1 l2
      have h0 := l2 0 (by omega)
      simp only [Nat.zero_mul, Addr.add, if_true] at h0
      rw [List.getElem?_eq_getElem (by omega)] at h0
      unfold World.cell? at h0
      split at h0
      · rename_i hh
        refine ⟨?_, (Array.getElem?_eq_some_iff.1 hh).1⟩
        split at h0
        · cases h0
        · rename_i hs
          simpa using hs
      · cases h0
    have hadd : len ≠ 0 → ∀ n, a.add n = ⟨a.block, a.off + n, none⟩ := by
      intro hn n
      have hs := (hspot hn).1
      unfold Addr.add
      split
      · rename_i h0
        subst h0
        cases a
        simp only at hs
        subst hs
        rfl
      · rfl
    have each : ∀ n, n ≤ len → ∃ (xs : List e.Den) (us : List Value), xs.length = n ∧ (∀ x ∈ xs, Wf e x) ∧ At w a.block a.off us ∧ ELs (Rd (fun b => b < w.heap.size) w e) e.sz xs us := by
      intro n
      induction n with
      | zero => exact fun _ => ⟨[], [], rfl, fun _ h => (List.not_mem_nil h).elim, fun j v hj => by simp at hj, rfl⟩
      | succ n ih =>
        intro hn
        obtain ⟨xs, us, i1, i2, i4, i5⟩ := ih (by omega)
        obtain ⟨cs', c1, c2⟩ := hel n (by omega)
        obtain ⟨y, y1, y2⟩ := h H enc w base spare held _ cs' _ c2
        obtain ⟨-, l1, l2⟩ := World.cells?_some c1
        rw [hc] at l1 l2
        have hcell : ∀ j, j < e.sz → w.cell? ⟨a.block, a.off + (n * e.sz + j), none⟩ = cs'[j]? := by
          intro j hj
          have := l2 j hj
          rw [Deep.add_add, hadd (by omega)] at this
          exact this
        refine ⟨xs ++ [y], us ++ cs', by simp [i1], fun x hx => ?_, fun j v hj => ?_, ?_⟩
        · rcases List.mem_append.1 hx with hx | hx
          · exact i2 x hx
          · simp only [List.mem_singleton] at hx; subst hx; exact y2
        · have hul : us.length = n * e.sz := by have := i5.length; rw [i1] at this; exact this
          rcases Nat.lt_or_ge j us.length with hlt | hge
          · rw [List.getElem?_append_left hlt] at hj
            exact i4 j v hj
          · rw [List.getElem?_append_right hge] at hj
            have hlt := (List.getElem?_eq_some_iff.1 hj).1
            have := hcell (j - us.length) (by omega)
            rw [hj, show a.off + (n * e.sz + (j - us.length)) = a.off + j by omega] at this
            exact this
        · refine i5.app ⟨cs', [], by simp, l1, y1, rfl⟩
    obtain ⟨xs, us, i1, i2, i4, i5⟩ := each len (Nat.le_refl _)
    refine ⟨xs, ⟨some a, cap, by rw [i1], by omega, fun hne => ?_⟩, ?_, i2⟩
    · have hn : len ≠ 0 := fun h0 => hne (List.length_eq_zero_iff.1 (by omega))
      obtain ⟨s1, s2⟩ := hspot hn
      refine ⟨a.block, a.off, us, ?_, s2, i4, i5⟩
      cases a
      simp only at s1
      subst s1
      rfl
    · have : cap ≤ maxLen := hm
      unfold maxLen at this
      show xs.length ≤ _
      omega
theorem opens_int {P : Program} {t : TypeId} {k : IntKind} (hu : P.underlying t = some (.int k)) : Opens P t (.int k) := by
  intro H enc w base spare held fuel cs x h
  obtain ⟨n, rfl, -, hw⟩ := DataW.trod_int hu h
  exact ⟨n, rfl, hw⟩
/-- Fields from place o on, of m cells. -/
def OpensF (P : Program) (o m : Nat) (fs : List Field) (t r : T) : Prop :=
  ∀ (H : Type) (enc : TypeId × Value → H) (w : World) (base : Nat) (spare : Nat → Bool) (held : Bool) (fuel : Nat) (cs : List Value),
    (∀ f ∈ fs, ∃ x, DataW.trod enc P w base spare held fuel f.type ((cs.drop f.offset).take (P.cellsOf f.type)) = some x) → cs.length = o + m →
    ∀ (y : r.Den) (us : List Value), Rd (fun b => b < w.heap.size) w r y us → Wf r y → ∃ a : t.Den, Rd (fun b => b < w.heap.size) w t a (cs.drop o ++ us) ∧ Wf t a
theorem opensF_nil {P : Program} {o : Nat} {t : T} : OpensF P o 0 [] t t := by
  intro H enc w base spare held fuel cs h hl y us hy hw
  refine ⟨y, ?_, hw⟩
  rw [List.drop_eq_nil_of_le (by omega), List.nil_append]
  exact hy
theorem opensF_cons {P : Program} {o m n : Nat} {f : Field} {fs : List Field} {t t1 r : T} (ho : f.offset = o) (hc : P.cellsOf f.type = m) (hd : OpensC P f.type t t1) (hs : OpensF P (o + m) n fs t1 r) : OpensF P o (m + n) (f :: fs) t r := by
  intro H enc w base spare held fuel cs h hl y us hy hw
  obtain ⟨x, hx⟩ := h f (by simp)
  obtain ⟨a1, q1, q2⟩ := hs H enc w base spare held fuel cs (fun f hf => h f (by simp [hf])) (by omega) y us hy hw
  rw [ho, hc] at hx
  obtain ⟨a, q3, q4⟩ := hd H enc w base spare held fuel _ _ hx a1 _ q1 q2
  refine ⟨a, ?_, q4⟩
  rw [← List.append_assoc, ← List.drop_drop, List.take_append_drop] at q3
  exact q3
theorem opensC_struct {P : Program} {ty : TypeId} {fs : Array Field} {m : Nat} {t r : T} (hu : P.underlying ty = some (.struct fs)) (hc : P.cellsOf ty = m) (hd : OpensF P 0 m fs.toList t r) : OpensC P ty t r := by
  intro H enc w base spare held fuel cs x h y us hy hw
  obtain ⟨xs, n, -, -, hl, hxs, hf⟩ := DataW.trod_struct hu h
  have := hd H enc w base spare held n cs (fun f hm => by
    obtain ⟨i, hi, rfl⟩ := List.getElem_of_mem hm
    have hi' : i < fs.size := by simpa using hi
    have := hf i fs[i] (by simp [hi'])
    rw [List.getElem?_eq_getElem (by omega)] at this
    exact ⟨_, by simpa using this⟩) (by rw [hl, hc, Nat.zero_add]) y us hy hw
  simpa using this
/-! ### a law -/
def gh0 (W : World) : Gh := ⟨fun _ => none, fun _ => none, fun b => b < W.heap.size⟩
theorem rval_struct {W : World} {t : T} {a : t.Den} {cs : Array Value} (h : Rd (fun b => b < W.heap.size) W t a cs.toList) : RVal (gh0 W) [] W true (cellsOf t a) (.agg cs) :=
  ⟨cs, rfl, rcs_cells (g := gh0 W) h⟩
theorem law_calls {P : Program} {f : FuncId} {ins : List VS} {pf : DenV ins × DenO [] → Option (DenV [⟨false, [.bool]⟩] × DenO [])} (hs : Sound P f ⟨ins, [], false, [⟨false, [.bool]⟩], [], [], pf⟩) {x : DenV ins} (hx : pf (x, ()) = some (((true, ()), ()), ())) {W : World} {args : Array Value}
    (h : RVals (gh0 W) [] W (instV ins x) args.toList) : Calls P f args W fun e W' => e = .returned (.bool true) ∧ Below W.heap.size W W' := by
  have hG : RelG (gh0 W) [] W := ⟨fun o ob h => (by cases h), fun b o h => (by cases h), fun b h => h⟩
  refine (hs.2 (x, ()) (((true, ()), ()), ()) hx (gh0 W) W args hG h).mono fun e W' he => ?_
  cases e with
  | returned v =>
    obtain ⟨g', O⟩ := he
    have hv : RVal g' [] W' false [.bool true] v := O.val
    obtain ⟨u, us, e, h1, h2⟩ := hv
    obtain ⟨rfl, rfl⟩ : u = v ∧ us = [] := by simpa using e.symm
    have h3 : u = .bool true := h1.2
    refine ⟨by rw [h3], O.ext.os, O.ext.tape, O.ext.output, O.ext.size, fun k hk => O.ext.block k hk (by simp [gh0])⟩
  | panicked c => exact he.elim
  | outgrown => exact he.elim
end Go.Proofs.Ytkfehogikjcgkaa.V
namespace Go.Proofs.Ytkfehogikjcgkaa.V
open Go
set_option linter.unusedVariables false
theorem opensC165 (r : T) : OpensC Try.prog 165 (.pair (.int .i64) (.pair (.list (.int .i64)) r)) r := opensC_struct Try.underlying165 (by kernel_rfl) (opensF_cons (o := 0) (m := 1) (n := 1) rfl (by kernel_rfl) (OpensC.leaf (opens_int Try.underlying2)) (opensF_cons (o := 1) (m := 1) (n := 0) rfl (by kernel_rfl) (OpensC.leaf (opens_list Try.underlying22 (by kernel_rfl) (by decide) (opens_int Try.underlying2))) opensF_nil))
theorem opensC167 (r : T) : OpensC Try.prog 167 (.pair (.int .i64) (.pair (.int .i64) (.pair (.int .i64) (.pair (.int .i64) (.pair (.int .i64) (.pair (.int .i64) (.pair (.list (.int .i64)) r))))))) r := opensC_struct Try.underlying167 (by kernel_rfl) (opensF_cons (o := 0) (m := 1) (n := 6) rfl (by kernel_rfl) (OpensC.leaf (opens_int Try.underlying2)) (opensF_cons (o := 1) (m := 1) (n := 5) rfl (by kernel_rfl) (OpensC.leaf (opens_int Try.underlying2)) (opensF_cons (o := 2) (m := 1) (n := 4) rfl (by kernel_rfl) (OpensC.leaf (opens_int Try.underlying2)) (opensF_cons (o := 3) (m := 1) (n := 3) rfl (by kernel_rfl) (OpensC.leaf (opens_int Try.underlying2)) (opensF_cons (o := 4) (m := 1) (n := 2) rfl (by kernel_rfl) (OpensC.leaf (opens_int Try.underlying2)) (opensF_cons (o := 5) (m := 1) (n := 1) rfl (by kernel_rfl) (OpensC.leaf (opens_int Try.underlying2)) (opensF_cons (o := 6) (m := 1) (n := 0) rfl (by kernel_rfl) (OpensC.leaf (opens_list Try.underlying22 (by kernel_rfl) (by decide) (opens_int Try.underlying2))) opensF_nil)))))))
theorem opensC84 (r : T) : OpensC Try.prog 84 (.pair (.int .i64) (.pair (.int .i64) (.pair (.int .i64) (.pair (.int .i64) r)))) r := opensC_struct Try.underlying84 (by kernel_rfl) (opensF_cons (o := 0) (m := 1) (n := 3) rfl (by kernel_rfl) (OpensC.leaf (opens_int Try.underlying2)) (opensF_cons (o := 1) (m := 1) (n := 2) rfl (by kernel_rfl) (OpensC.leaf (opens_int Try.underlying2)) (opensF_cons (o := 2) (m := 1) (n := 1) rfl (by kernel_rfl) (OpensC.leaf (opens_int Try.underlying2)) (opensF_cons (o := 3) (m := 1) (n := 0) rfl (by kernel_rfl) (OpensC.leaf (opens_int Try.underlying2)) opensF_nil))))
theorem opensC86 (r : T) : OpensC Try.prog 86 (.pair (.list tPhi) (.pair (.list tInst) (.pair (.int .i64) (.pair (.int .i64) (.pair (.int .i64) (.pair (.int .i64) r)))))) r := opensC_struct Try.underlying86 (by kernel_rfl) (opensF_cons (o := 0) (m := 1) (n := 5) rfl (by kernel_rfl) (OpensC.leaf (opens_list Try.underlying81 (by kernel_rfl) (by decide) (OpensC.whole (opensC165 _)))) (opensF_cons (o := 1) (m := 1) (n := 4) rfl (by kernel_rfl) (OpensC.leaf (opens_list Try.underlying82 (by kernel_rfl) (by decide) (OpensC.whole (opensC167 _)))) (opensF_cons (o := 2) (m := 4) (n := 0) rfl (by kernel_rfl) (opensC84 _) opensF_nil)))
theorem opensC25 (r : T) : OpensC Try.prog 25 (.pair (.list (.int .i64)) (.pair (.int .i64) (.pair (.list tBlock) r))) r := opensC_struct Try.underlying25 (by kernel_rfl) (opensF_cons (o := 0) (m := 1) (n := 2) rfl (by kernel_rfl) (OpensC.leaf (opens_list Try.underlying22 (by kernel_rfl) (by decide) (opens_int Try.underlying2))) (opensF_cons (o := 1) (m := 1) (n := 1) rfl (by kernel_rfl) (OpensC.leaf (opens_int Try.underlying2)) (opensF_cons (o := 2) (m := 1) (n := 0) rfl (by kernel_rfl) (OpensC.leaf (opens_list Try.underlying23 (by kernel_rfl) (by decide) (OpensC.whole (opensC86 _)))) opensF_nil)))
end Go.Proofs.Ytkfehogikjcgkaa.V
namespace Go.Proofs.Ytkfehogikjcgkaa.V
open Go
set_option linter.unusedVariables false
set_option linter.unusedSimpArgs false
def Ev {R : Type} (g : Nat → Option R) (r : R) : Prop := ∃ n, ∀ k, n ≤ k → g k = some r
abbrev one {α : Type} (x : α) : ((α × Unit) × Unit) × Unit := (((x, ()), ()), ())
abbrev rowR {α : Type} (xs : α) : ((Unit × Unit) × Unit) × (α × Unit) := ((((), ()), ()), (xs, ()))
section
variable {R S : Type}
theorem Ev.cst {o : Option R} {r : R} (h : o = some r) : Ev (fun _ => o) r := ⟨0, fun _ _ => h⟩
theorem Ev.all {g : Nat → Option R} {r : R} (h : ∀ k, g k = some r) : Ev g r := ⟨0, fun k _ => h k⟩
theorem Ev.congr {g g' : Nat → Option R} {r : R} (h : Ev g' r) (e : ∀ k, g k = g' k) : Ev g r := by
  obtain ⟨n, h⟩ := h
  exact ⟨n, fun k hk => by rw [e, h k hk]⟩
theorem Ev.step {g g' : Nat → Option R} {r : R} (h : Ev g' r) (e : ∀ k, g (k + 1) = g' k) : Ev g r := by
  obtain ⟨n, h⟩ := h
  refine ⟨n + 1, fun k hk => ?_⟩
  obtain ⟨k, rfl⟩ : ∃ j, k = j + 1 := ⟨k - 1, by omega⟩
  rw [e, h k (by omega)]
theorem Ev.bind {g : Nat → Option S} {f : Nat → S → Option R} {a : S} {r : R} (h : Ev g a) (k : Ev (fun n => f n a) r) : Ev (fun n => Option.bind (g n) (f n)) r := by
  obtain ⟨n, h⟩ := h
  obtain ⟨m, k⟩ := k
  exact ⟨max n m, fun j hj => by show Option.bind (g j) (f j) = some r; rw [h j (by omega), Option.bind_some]; exact k j (by omega)⟩
theorem Ev.rw {g : Nat → Option R} {r s : R} (h : Ev g r) (e : r = s) : Ev g s := e ▸ h
theorem Ev.pos {c : Bool} {f g : Nat → Option R} {r : R} (hc : c = true) (h : Ev f r) : Ev (fun k => bif c then f k else g k) r := h.congr fun k => by rw [hc]; rfl
theorem Ev.neg {c : Bool} {f g : Nat → Option R} {r : R} (hc : c = false) (h : Ev g r) : Ev (fun k => bif c then f k else g k) r := h.congr fun k => by rw [hc]; rfl
theorem Ev.ex {g : Nat → Option R} {r : R} (h : Ev g r) : ∃ k, g k = some r := by
  obtain ⟨n, h⟩ := h
  exact ⟨n, h n (Nat.le_refl _)⟩
end
def W (x : Int) : Int := IntKind.wrap .i64 x
theorem wrap_id {x : Int} (h0 : -9223372036854775808 ≤ x) (h1 : x ≤ 9223372036854775807) : IntKind.wrap .i64 x = x := by
  have e : IntKind.wrap .i64 x = if (true && decide (x % 18446744073709551616 ≥ 9223372036854775808)) = true then x % 18446744073709551616 - 18446744073709551616 else x % 18446744073709551616 := rfl
  rw [e]
  simp only [Bool.true_and, decide_eq_true_eq]
  split <;> omega
theorem wrap_nat {i : Nat} (h : i < 9223372036854775807) : IntKind.wrap .i64 ((i : Int) + 1) = ((i + 1 : Nat) : Int) := by
  rw [wrap_id (by omega) (by omega)]; omega
theorem getD_at {α : Type} (l : List α) (z : α) (j : Nat) (h : j < l.length) : l.getD j z = l[j] := by simp [List.getD, List.getElem?_eq_getElem h]
theorem dpos {c : Prop} [Decidable c] (h : c) : decide c = true := by simp [h]
theorem dneg {c : Prop} [Decidable c] (h : ¬ c) : decide c = false := by simp [h]
/-- A loop over places 0 .. n, backwards. -/
theorem Ev.down {R : Type} {G : Nat → Nat → Option R} {V : Nat → R} (n : Nat) (hend : Ev (G n) (V n)) (hstep : ∀ i, i < n → Ev (G (i + 1)) (V (i + 1)) → Ev (G i) (V i)) : ∀ i, i ≤ n → Ev (G i) (V i) := by
  intro i hi
  obtain ⟨d, rfl⟩ : ∃ d, i = n - d := ⟨n - i, by omega⟩
  clear hi
  induction d with
  | zero => exact hend
  | succ d ih =>
    by_cases h : d < n
    · have e : n - (d + 1) + 1 = n - d := by omega
      exact hstep (n - (d + 1)) (by omega) (by rw [e]; exact ih)
    · have e : n - (d + 1) = n - d := by omega
      rw [e]; exact ih
section
variable {α R : Type} {z : α} {l : List α}
/-- What a loop's head asks: is the place one of the list? -/
theorem head_in {i : Nat} (h : i < l.length) : (decide ((i : Int) < (l.length : Int))) = true := dpos (by omega)
theorem head_0 {i : Nat} : (decide (0 ≤ (i : Int))) = true := dpos (by omega)
theorem head_end : (decide ((l.length : Int) < (l.length : Int))) = false := dneg (by omega)
theorem get_in {i : Nat} (h : i < l.length) : l.getD (Int.toNat (i : Int)) z = l[i] := by rw [Int.toNat_natCast]; exact getD_at l z i h
/-- The loops that ask something of each element. -/
theorem each_ev {L : Nat → Int → Option R} {q : Nat → α → (Nat → Option R) → Option R} {tail : Nat → Option R} {V : List α → R} (hlen : l.length ≤ 9223372036854775807)
    (hL : ∀ k a, L (k + 1) a = bif decide (a < (l.length : Int)) then (bif decide (0 ≤ a) && decide (a < (l.length : Int)) then q k (l.getD a.toNat z) (fun j => L j (IntKind.wrap .i64 (a + 1))) else none) else tail k)
    (hend : Ev tail (V [])) (hstep : ∀ x m (g : Nat → Option R), x ∈ l → Ev g (V m) → Ev (fun k => q k x g) (V (x :: m))) : Ev (fun k => L k 0) (V l) := by
  have := Ev.down (G := fun i k => L k (i : Int)) (V := fun i => V (l.drop i)) l.length ?_ ?_ 0 (Nat.zero_le _)
  · exact this
  · rw [List.drop_length]
    refine hend.step fun k => ?_
    rw [hL, head_end]; rfl
  · intro i hi ih
    rw [List.drop_eq_getElem_cons hi]
    refine (hstep l[i] (l.drop (i + 1)) (fun j => L j (((i + 1 : Nat)) : Int)) (List.getElem_mem hi) ih).step fun k => ?_
    show L (k + 1) (i : Int) = _
    rw [hL]
    simp only [head_in hi, head_0, Bool.and_self, cond_true, get_in hi, wrap_nat (show i < 9223372036854775807 by omega)]
/-- slices.IndexFunc. -/
def ixF (p : α → Bool) : List α → Nat → Int
  | [], _ => -1
  | x :: l, i => bif p x then (i : Int) else ixF p l (i + 1)
theorem ixF_any (p : α → Bool) : ∀ (l : List α) (i : Nat), decide (0 ≤ ixF p l i) = l.any p
  | [], i => by simp [ixF]
  | x :: l, i => by
    have ih := ixF_any p l (i + 1)
    rw [List.any_cons]
    unfold ixF
    rcases Bool.eq_false_or_eq_true (p x) with h | h
    · simp only [h, cond_true, Bool.true_or]; exact dpos (by omega)
    · simp only [h, cond_false, Bool.false_or]; exact ih
theorem index_ev {p : α → Bool} {q : Nat → α → Option (((Bool × Unit) × Unit) × Unit)} {L : Nat → Int → Int → Option (((Int × Unit) × Unit) × Unit)} (hlen : l.length ≤ 9223372036854775807)
    (hL : ∀ k b a, L (k + 1) b a = bif decide (a < b) then (bif decide (0 ≤ a) && decide (a < (l.length : Int)) then (Option.bind (q k (l.getD a.toNat z)) fun r1 => bif r1.1.1.1 then some (((a, ()), ()), ()) else L k b (IntKind.wrap .i64 (a + 1))) else none) else some (((-1, ()), ()), ()))
    (hq : ∀ x ∈ l, Ev (fun k => q k x) (one (p x))) : Ev (fun k => Option.bind (L k (l.length : Int) 0) fun r1 => some (((decide (0 ≤ r1.1.1.1), ()), ()), ())) (one (l.any p)) := by
  have := Ev.down (G := fun i k => L k (l.length : Int) (i : Int)) (V := fun i => one (ixF p (l.drop i) i)) l.length ?_ ?_ 0 (Nat.zero_le _)
  · refine (Ev.bind (f := fun _ r1 => some (((decide (0 ≤ r1.1.1.1), ()), ()), ())) this (Ev.cst rfl)).rw ?_
    show one (decide (0 ≤ ixF p l 0)) = _
    rw [ixF_any]
  · rw [List.drop_length]
    refine Ev.step (g' := fun _ => some (((-1, ()), ()), ())) (Ev.cst rfl) fun k => ?_
    show L (k + 1) _ _ = _
    rw [hL, head_end]; rfl
  · intro i hi ih
    rw [List.drop_eq_getElem_cons hi]
    have h1 := hq l[i] (List.getElem_mem hi)
    refine Ev.step (g' := fun k => Option.bind (q k l[i]) fun r1 => bif r1.1.1.1 then some ((((i : Int), ()), ()), ()) else L k (l.length : Int) ((i + 1 : Nat) : Int)) ?_ fun k => ?_
    · refine Ev.bind h1 ?_
      simp only [ixF]
      cases p l[i] with
      | true => exact Ev.cst rfl
      | false => exact ih
    · show L (k + 1) _ _ = _
      rw [hL]
      simp only [head_in hi, head_0, Bool.and_self, cond_true, get_in hi, wrap_nat (show i < 9223372036854775807 by omega)]
end
end Go.Proofs.Ytkfehogikjcgkaa.V
namespace Go.Proofs.Ytkfehogikjcgkaa.V
open Go
set_option linter.unusedVariables false
set_option linter.unusedSimpArgs false
/-- All lists are short. -/
def Small : (t : T) → t.Den → Prop
  | .list t, xs => List.length (α := t.Den) xs ≤ 1048576 ∧ ∀ x : t.Den, List.Mem (α := t.Den) x xs → Small t x
  | .pair a b, x => Small a (Prod.fst (α := a.Den) (β := b.Den) x) ∧ Small b (Prod.snd (α := a.Den) (β := b.Den) x)
  | _, _ => True
abbrev IR := (((Int × Unit) × Unit) × Unit)
abbrev BR := (((Bool × Unit) × Unit) × Unit)
def SzP {α : Type} (wf small : α → Prop) (f : Nat → α → Int → Option IR) : Prop := ∀ (x : α), wf x → ∀ n : Int, 0 ≤ n → n ≤ 1048576 → ∃ s, Ev (fun k => f k x n) (one s) ∧ -1 ≤ s ∧ s ≤ n ∧ (0 ≤ s → small x)
abbrev SzOK (t : T) (f : Nat → t.Den → Int → Option IR) : Prop := SzP (Wf t) (Small t) f
theorem sz_list {α : Type} {wf small : α → Prop} {z : α} {f : Nat → α → Int → Option IR} (hf : SzP wf small f) {L : Nat → List α → Int → Int → Option IR} {F : Nat → List α → Int → Option IR}
    (hL : ∀ k l a1 a2, L (k + 1) l a1 a2 = bif decide (a2 < (l.length : Int)) then (bif decide (0 ≤ a2) && decide (a2 < (l.length : Int)) then (Option.bind (f k (l.getD a2.toNat z) a1) fun r1 => bif decide (r1.1.1.1 < 0) then some (((-1, ()), ()), ()) else L k l r1.1.1.1 (IntKind.wrap .i64 (a2 + 1))) else none) else some (((a1, ()), ()), ()))
    (hF : ∀ k l a, F k l a = bif decide (IntKind.wrap .i64 (a - (l.length : Int)) < 0) then some (((-1, ()), ()), ()) else L k l (IntKind.wrap .i64 (a - (l.length : Int))) 0) : SzP (fun l : List α => l.length ≤ 9223372036854775807 ∧ ∀ x ∈ l, wf x) (fun l : List α => l.length ≤ 1048576 ∧ ∀ x ∈ l, small x) F := by
  intro l hw n h0 h1
  obtain ⟨hlen, hel⟩ := hw
  have key : ∀ (d i : Nat) (n : Int), i + d = l.length → 0 ≤ n → n ≤ 1048576 → ∃ s, Ev (fun k => L k l n (i : Int)) (one s) ∧ -1 ≤ s ∧ s ≤ n ∧ (0 ≤ s → ∀ x ∈ l.drop i, small x) := by
    intro d
    induction d with
    | zero =>
      intro i n hi h0 h1
      have hi' : i = l.length := by omega
      subst hi'
      refine ⟨n, Ev.step (g' := fun _ => some (one n)) (Ev.cst rfl) fun k => ?_, by omega, Int.le_refl _, fun _ x hx => by rw [List.drop_length] at hx; cases hx⟩
      rw [hL, head_end]; rfl
    | succ d ih =>
      intro i n hi h0 h1
      have hi' : i < l.length := by omega
      have hmem : l[i] ∈ l := List.getElem_mem hi'
      obtain ⟨s, e1, e2, e3, e4⟩ := hf (l[i]) (hel _ hmem) n h0 h1
      have hstep : ∀ k, L (k + 1) l n (i : Int) = Option.bind (f k (l[i]) n) fun r1 => bif decide (r1.1.1.1 < 0) then some (((-1, ()), ()), ()) else L k l r1.1.1.1 ((i + 1 : Nat) : Int) := fun k => by
        rw [hL]
        simp only [head_in hi', head_0, Bool.and_self, cond_true, get_in hi', wrap_nat (show i < 9223372036854775807 by omega)]
      rcases Int.lt_or_le s 0 with hs | hs
      · refine ⟨-1, Ev.step (Ev.bind (f := fun k r1 => bif decide (r1.1.1.1 < 0) then some (((-1, ()), ()), ()) else L k l r1.1.1.1 ((i + 1 : Nat) : Int)) e1 ?_) hstep, by omega, by omega, fun h => by omega⟩
        exact Ev.pos (dpos hs) (Ev.cst rfl)
      · obtain ⟨s', q1, q2, q3, q4⟩ := ih (i + 1) s (by omega) hs (by omega)
        refine ⟨s', Ev.step (Ev.bind (f := fun k r1 => bif decide (r1.1.1.1 < 0) then some (((-1, ()), ()), ()) else L k l r1.1.1.1 ((i + 1 : Nat) : Int)) e1 (Ev.neg (dneg (show ¬ s < 0 by omega)) q1)) hstep, q2, by omega, fun h x hx => ?_⟩
        rw [List.drop_eq_getElem_cons hi'] at hx
        rcases List.mem_cons.1 hx with rfl | hx
        · exact e4 hs
        · exact q4 h x hx
  have hw : IntKind.wrap .i64 (n - (l.length : Int)) = n - (l.length : Int) := wrap_id (by omega) (by omega)
  rcases Int.lt_or_le (n - (l.length : Int)) 0 with hs | hs
  · refine ⟨-1, (Ev.cst rfl : Ev (fun _ => some (one (-1 : Int))) _).congr fun k => ?_, by omega, by omega, fun h => by omega⟩
    rw [hF, hw, dpos hs]; rfl
  · obtain ⟨s, q1, q2, q3, q4⟩ := key (l.length) 0 _ (by omega) hs (by omega)
    refine ⟨s, q1.congr fun k => ?_, q2, by omega, fun h => ⟨by omega, fun x hx => q4 h x (by simpa using hx)⟩⟩
    rw [hF, hw, dneg (by omega)]; rfl
/-- A copy, element by element. -/
theorem to_list {α R : Type} {z : α} {L : Nat → List α → Int → List α → Option (((Unit × Unit) × Unit) × (List α × Unit))} {q : Nat → α → (α → Option (((Unit × Unit) × Unit) × (List α × Unit))) → Option (((Unit × Unit) × Unit) × (List α × Unit))} {F : Nat → List α → Option (((Unit × Unit) × Unit) × (List α × Unit))} {b : Int}
    (hL : ∀ k l a1 a2, L (k + 1) l a1 a2 = bif decide (a1 < (l.length : Int)) then (bif decide (0 ≤ a1) && decide (a1 < (l.length : Int)) then q k (l.getD a1.toNat z) (fun y => bif decide (0 ≤ a1) && decide (a1 < (a2.length : Int)) then L k l (IntKind.wrap .i64 (a1 + 1)) (a2.set a1.toNat y) else none) else none) else some ((((), ()), ()), (a2, ())))
    (hF : ∀ k l, F k l = bif decide ((l.length : Int) = (l.length : Int)) && decide (0 ≤ (l.length : Int)) && decide ((l.length : Int) * b ≤ 281474976710656) then L k l 0 (List.replicate (Int.toNat (l.length : Int)) z) else none)
    {l : List α} (hlen : l.length ≤ 1048576) (hb0 : 0 ≤ b) (hb : b ≤ 1000) (hq : ∀ x ∈ l, ∀ (h : Nat → α → Option (((Unit × Unit) × Unit) × (List α × Unit))) r, Ev (fun k => h k x) r → Ev (fun k => q k x (h k)) r) : Ev (fun k => F k l) (rowR l) := by
  have h1 := Ev.down (G := fun i k => L k l (i : Int) (l.take i ++ List.replicate (l.length - i) z)) (V := fun _ => rowR l) l.length ?_ ?_ 0 (Nat.zero_le _)
  · refine h1.congr fun k => ?_
    have hsz : (l.length : Int) * b ≤ 281474976710656 := by
      have : (l.length : Int) * b ≤ 1048576 * 1000 := Int.mul_le_mul (by omega) hb hb0 (by omega)
      omega
    rw [hF, dpos rfl, dpos (show 0 ≤ (l.length : Int) by omega), dpos hsz]
    simp
  · refine Ev.step (g' := fun _ => some (rowR l)) (Ev.cst rfl) fun k => ?_
    show L (k + 1) l _ _ = _
    rw [hL, head_end]
    simp
  · intro i hi ih
    refine Ev.step (g' := fun k => q k l[i] (fun y => bif decide (0 ≤ (i : Int)) && decide ((i : Int) < (((l.take i ++ List.replicate (l.length - i) z).length : Nat) : Int)) then L k l ((i + 1 : Nat) : Int) ((l.take i ++ List.replicate (l.length - i) z).set i y) else none)) (hq _ (List.getElem_mem hi) (fun k y => bif decide (0 ≤ (i : Int)) && decide ((i : Int) < (((l.take i ++ List.replicate (l.length - i) z).length : Nat) : Int)) then L k l ((i + 1 : Nat) : Int) ((l.take i ++ List.replicate (l.length - i) z).set i y) else none) _ ?_) fun k => ?_
    · refine Ev.pos ?_ (ih.congr fun k => ?_)
      · rw [dpos (by omega), dpos (by simp; omega)]; rfl
      · congr 1
        rw [List.set_append_right _ _ (by simp; omega)]
        have e1 : i - (l.take i).length = 0 := by simp; omega
        have e2 : l.length - i = (l.length - (i + 1)) + 1 := by omega
        rw [e1, e2, List.replicate_succ, List.set_cons_zero, List.take_succ_eq_append_getElem hi, List.append_assoc]
        rfl
    · show L (k + 1) l _ _ = _
      rw [hL]
      simp only [head_in hi, head_0, Bool.and_self, cond_true, get_in hi, wrap_nat (show i < 9223372036854775807 by omega), Int.toNat_natCast]
      rw [getD_at l z i hi]
/-- A list compared with itself. -/
theorem eq_list {α : Type} {z : α} {L : Nat → List α → List α → Int → Option BR} {q : Nat → α → α → Option BR → Option BR} {F : Nat → List α → List α → Option BR}
    (hL : ∀ k l m a, L (k + 1) l m a = bif decide (a < (l.length : Int)) then (bif decide (0 ≤ a) && decide (a < (l.length : Int)) then (bif decide (0 ≤ a) && decide (a < (m.length : Int)) then q k (l.getD a.toNat z) (m.getD a.toNat z) (L k l m (IntKind.wrap .i64 (a + 1))) else none) else none) else some (((true, ()), ()), ()))
    (hF : ∀ k l m, F k l m = bif !decide ((l.length : Int) = (m.length : Int)) then some (((false, ()), ()), ()) else L k l m 0)
    {l : List α} (hlen : l.length ≤ 1048576) (hq : ∀ x ∈ l, ∀ (g : Nat → Option BR) r, Ev g r → Ev (fun k => q k x x (g k)) r) : Ev (fun k => F k l l) (one true) := by
  have h1 := Ev.down (G := fun i k => L k l l (i : Int)) (V := fun _ => one true) l.length ?_ ?_ 0 (Nat.zero_le _)
  · refine h1.congr fun k => ?_
    rw [hF, dpos rfl]; rfl
  · refine Ev.step (g' := fun _ => some (one true)) (Ev.cst rfl) fun k => ?_
    show L (k + 1) l l _ = _
    rw [hL, head_end]; rfl
  · intro i hi ih
    refine Ev.step (hq _ (List.getElem_mem hi) (fun k => L k l l ((i + 1 : Nat) : Int)) _ ih) fun k => ?_
    show L (k + 1) l l _ = _
    rw [hL]
    simp only [head_in hi, head_0, Bool.and_self, cond_true, get_in hi, wrap_nat (show i < 9223372036854775807 by omega)]
end Go.Proofs.Ytkfehogikjcgkaa.V
namespace Go.Proofs.Ytkfehogikjcgkaa.V
open Go
set_option linter.unusedVariables false
set_option linter.unusedSimpArgs false
/-! ### how much there is -/
theorem sz_then {n s : Int} {g : Nat → Option IR} (h : Ev g (one s)) : Ev (fun k => Option.bind (g k) fun r1 => bif decide (r1.1.1.1 < 0) then some (((-1, ()), ()), ()) else some (((r1.1.1.1, ()), ()), ())) (one (if s < 0 then -1 else s)) := by
  refine Ev.bind h ?_
  by_cases hs : s < 0
  · rw [if_pos hs]; exact Ev.pos (dpos hs) (Ev.cst rfl)
  · rw [if_neg hs]; exact Ev.neg (dneg hs) (Ev.cst rfl)
theorem szInts : SzOK (.list (.int .i64)) laws_szInt64S.f := by
  intro l hw n h0 h1
  have hlen : List.length (α := Int) l ≤ 9223372036854775807 := hw.1
  have hwr : IntKind.wrap .i64 (n - (List.length (α := Int) l : Int)) = n - (List.length (α := Int) l : Int) := wrap_id (by omega) (by omega)
  have he : ∀ k, laws_szInt64S.f k l n = bif decide (n - (List.length (α := Int) l : Int) < 0) then some (one (-1)) else some (one (n - (List.length (α := Int) l : Int))) := fun k => by
    show (bif decide (IntKind.wrap .i64 (n - (List.length (α := Int) l : Int)) < 0) then _ else _) = _
    rw [hwr]
  by_cases hs : n - (List.length (α := Int) l : Int) < 0
  · exact ⟨-1, Ev.all fun k => by rw [he, dpos hs]; rfl, by omega, by omega, fun h => by omega⟩
  · exact ⟨_, Ev.all fun k => by rw [he, dneg hs]; rfl, by omega, by omega, fun h => ⟨by show List.length (α := Int) l ≤ _; omega, fun _ _ => trivial⟩⟩
theorem szPhi : SzOK tPhi laws_szPhi.f := by
  intro x hw n h0 h1
  obtain ⟨s, e, a, b, c⟩ := szInts _ hw.2.1 n h0 h1
  exact ⟨_, sz_then (n := n) e, by split <;> omega, by split <;> omega, fun h => ⟨trivial, c (by split at h <;> omega), trivial⟩⟩
theorem szPhiS : SzOK (.list tPhi) laws_szPhiS.f := sz_list (z := tPhiZ) szPhi (L := laws_szPhiS.l0) (fun k l a b => rfl) fun k l a => rfl
theorem szInst : SzOK tInst laws_szInst.f := by
  intro x hw n h0 h1
  obtain ⟨s, e, a, b, c⟩ := szInts _ hw.2.2.2.2.2.2.1 n h0 h1
  exact ⟨_, sz_then (n := n) e, by split <;> omega, by split <;> omega, fun h => ⟨trivial, trivial, trivial, trivial, trivial, trivial, c (by split at h <;> omega), trivial⟩⟩
theorem szInstS : SzOK (.list tInst) laws_szInstS.f := sz_list (z := tInstZ) szInst (L := laws_szInstS.l0) (fun k l a b => rfl) fun k l a => rfl
theorem sz_two {n s : Int} {g : Nat → Option IR} {f : Nat → Int → Option IR} {r : Int} (h : Ev g (one s)) (h' : 0 ≤ s → Ev (fun k => f k s) (one r)) (hr : s < 0 → r = -1) : Ev (fun k => Option.bind (g k) fun r1 => bif decide (r1.1.1.1 < 0) then some (((-1, ()), ()), ()) else f k r1.1.1.1) (one r) := by
  refine Ev.bind h ?_
  by_cases hs : s < 0
  · rw [hr hs]; exact Ev.pos (dpos hs) (Ev.cst rfl)
  · exact Ev.neg (dneg hs) (h' (by omega))
theorem szBlock : SzOK tBlock laws_szBlock.f := by
  intro x hw n h0 h1
  obtain ⟨s, e, a, b, c⟩ := szPhiS _ hw.1 n h0 h1
  by_cases hs : s < 0
  · exact ⟨-1, sz_two (n := n) (f := fun k s => Option.bind (laws_szInstS.f k x.2.1 s) fun r1 => bif decide (r1.1.1.1 < 0) then some (((-1, ()), ()), ()) else some (((r1.1.1.1, ()), ()), ())) e (fun h => by omega) (fun _ => rfl), by omega, by omega, fun h => by omega⟩
  · obtain ⟨s', e', a', b', c'⟩ := szInstS _ hw.2.1 s (by omega) (by omega)
    exact ⟨_, sz_two (n := n) (f := fun k s => Option.bind (laws_szInstS.f k x.2.1 s) fun r1 => bif decide (r1.1.1.1 < 0) then some (((-1, ()), ()), ()) else some (((r1.1.1.1, ()), ()), ())) e (fun _ => sz_then (n := n) e') (fun h => by omega), by split <;> omega, by split <;> omega, fun h => ⟨c (by omega), c' (by split at h <;> omega), trivial, trivial, trivial, trivial, trivial⟩⟩
theorem szBlockS : SzOK (.list tBlock) laws_szBlockS.f := sz_list (z := tBlockZ) szBlock (L := laws_szBlockS.l0) (fun k l a b => rfl) fun k l a => rfl
theorem szFunc : SzOK tFunc laws_szFunc.f := by
  intro x hw n h0 h1
  obtain ⟨s, e, a, b, c⟩ := szInts _ hw.1 n h0 h1
  by_cases hs : s < 0
  · exact ⟨-1, sz_two (n := n) (f := fun k s => Option.bind (laws_szBlockS.f k x.2.2.1 s) fun r1 => bif decide (r1.1.1.1 < 0) then some (((-1, ()), ()), ()) else some (((r1.1.1.1, ()), ()), ())) e (fun h => by omega) (fun _ => rfl), by omega, by omega, fun h => by omega⟩
  · obtain ⟨s', e', a', b', c'⟩ := szBlockS _ hw.2.2.1 s (by omega) (by omega)
    exact ⟨_, sz_two (n := n) (f := fun k s => Option.bind (laws_szBlockS.f k x.2.2.1 s) fun r1 => bif decide (r1.1.1.1 < 0) then some (((-1, ()), ()), ()) else some (((r1.1.1.1, ()), ()), ())) e (fun _ => sz_then (n := n) e') (fun h => by omega), by split <;> omega, by split <;> omega, fun h => ⟨c (by omega), trivial, c' (by split at h <;> omega), trivial⟩⟩
/-! ### a copy -/
theorem toInts {l : List Int} (h : Small (.list (.int .i64)) l) : Ev (fun k => laws_toInt64S.f k l) (rowR l) :=
  to_list (z := 0) (L := laws_toInt64S.l0) (q := fun k x h => h x) (b := 8) (R := Unit) (fun k l a b => rfl) (fun k l => rfl) h.1 (by omega) (by omega) fun x _ h r hh => hh
theorem toPhi {x : tPhiD} (h : Small tPhi x) : Ev (fun k => laws_toPhi.f k x) (((x.1, (), ()), ()), (x.2.1, ())) := Ev.bind (toInts h.2.1) (Ev.cst rfl)
theorem toPhiS {l : List tPhiD} (h : Small (.list tPhi) l) : Ev (fun k => laws_toPhiS.f k l) (rowR l) :=
  to_list (z := tPhiZ) (L := laws_toPhiS.l0) (q := fun k x h => Option.bind (laws_toPhi.f k x) fun r1 => h (r1.1.1.1, r1.2.1, ())) (b := 32) (R := Unit) (fun k l a b => rfl) (fun k l => rfl) h.1 (by omega) (by omega) fun x hx g r hh => Ev.bind (toPhi (h.2 x hx)) hh
theorem toInst {x : tInstD} (h : Small tInst x) : Ev (fun k => laws_toInst.f k x) (((x.1, x.2.1, x.2.2.1, x.2.2.2.1, x.2.2.2.2.1, x.2.2.2.2.2.1, (), ()), ()), (x.2.2.2.2.2.2.1, ())) := Ev.bind (toInts h.2.2.2.2.2.2.1) (Ev.cst rfl)
theorem toInstS {l : List tInstD} (h : Small (.list tInst) l) : Ev (fun k => laws_toInstS.f k l) (rowR l) :=
  to_list (z := tInstZ) (L := laws_toInstS.l0) (q := fun k x h => Option.bind (laws_toInst.f k x) fun r1 => h (r1.1.1.1, r1.1.1.2.1, r1.1.1.2.2.1, r1.1.1.2.2.2.1, r1.1.1.2.2.2.2.1, r1.1.1.2.2.2.2.2.1, r1.2.1, ())) (b := 72) (R := Unit) (fun k l a b => rfl) (fun k l => rfl) h.1 (by omega) (by omega) fun x hx g r hh => Ev.bind (toInst (h.2 x hx)) hh
theorem toBlock {x : tBlockD} (h : Small tBlock x) : Ev (fun k => laws_toBlock.f k x) ((((), (), x.2.2.1, x.2.2.2.1, x.2.2.2.2.1, x.2.2.2.2.2.1, ()), ()), (x.1, x.2.1, ())) := Ev.bind (toPhiS h.1) (Ev.bind (toInstS h.2.1) (Ev.cst rfl))
theorem toBlockS {l : List tBlockD} (h : Small (.list tBlock) l) : Ev (fun k => laws_toBlockS.f k l) (rowR l) :=
  to_list (z := tBlockZ) (L := laws_toBlockS.l0) (q := fun k x h => Option.bind (laws_toBlock.f k x) fun r1 => h (r1.2.1, r1.2.2.1, r1.1.1.2.2.1, r1.1.1.2.2.2.1, r1.1.1.2.2.2.2.1, r1.1.1.2.2.2.2.2.1, ())) (b := 80) (R := Unit) (fun k l a b => rfl) (fun k l => rfl) h.1 (by omega) (by omega) fun x hx g r hh => Ev.bind (toBlock (h.2 x hx)) hh
theorem toFunc {x : tFuncD} (h : Small tFunc x) : Ev (fun k => laws_toFunc.f k x) ((((), x.2.1, (), ()), ()), (x.1, x.2.2.1, ())) := Ev.bind (toInts h.1) (Ev.bind (toBlockS h.2.2.1) (Ev.cst rfl))
/-! ### a thing compared with itself -/
theorem eqInts {l : List Int} (h : Small (.list (.int .i64)) l) : Ev (fun k => laws_eqInt64S.f k l l) (one true) :=
  eq_list (z := 0) (L := laws_eqInt64S.l0) (q := fun k x y g => bif !decide (x = y) then some (((false, ()), ()), ()) else g) (fun k l m a => rfl) (fun k l m => rfl) h.1 fun x _ g r hh => Ev.neg (by rw [dpos rfl]; rfl) hh
theorem Ev.skip {R : Type} {n : Int} {o : Option R} {g : Nat → Option R} {r : R} (h : Ev g r) : Ev (fun k => bif !decide (n = n) then o else g k) r := Ev.neg (by rw [dpos rfl]; rfl) h
theorem Ev.yes {g : Nat → Option BR} {f : Nat → Option BR} {o : Option BR} {r : BR} (h : Ev g (one true)) (hf : Ev f r) : Ev (fun k => Option.bind (g k) fun r1 => bif !r1.1.1.1 then o else f k) r := Ev.bind h (Ev.neg rfl hf)
theorem eqPhi {x : tPhiD} (h : Small tPhi x) : Ev (fun k => laws_eqPhi.f k x x) (one true) := Ev.skip (Ev.yes (eqInts h.2.1) (Ev.cst rfl))
theorem eqPhiS {l : List tPhiD} (h : Small (.list tPhi) l) : Ev (fun k => laws_eqPhiS.f k l l) (one true) :=
  eq_list (z := tPhiZ) (L := laws_eqPhiS.l0) (q := fun k x y g => Option.bind (laws_eqPhi.f k x y) fun r1 => bif !r1.1.1.1 then some (((false, ()), ()), ()) else g) (fun k l m a => rfl) (fun k l m => rfl) h.1 fun x hx g r hh => Ev.yes (eqPhi (h.2 x hx)) hh
theorem eqInst {x : tInstD} (h : Small tInst x) : Ev (fun k => laws_eqInst.f k x x) (one true) := Ev.skip (Ev.skip (Ev.skip (Ev.skip (Ev.skip (Ev.skip (Ev.yes (eqInts h.2.2.2.2.2.2.1) (Ev.cst rfl)))))))
theorem eqInstS {l : List tInstD} (h : Small (.list tInst) l) : Ev (fun k => laws_eqInstS.f k l l) (one true) :=
  eq_list (z := tInstZ) (L := laws_eqInstS.l0) (q := fun k x y g => Option.bind (laws_eqInst.f k x y) fun r1 => bif !r1.1.1.1 then some (((false, ()), ()), ()) else g) (fun k l m a => rfl) (fun k l m => rfl) h.1 fun x hx g r hh => Ev.yes (eqInst (h.2 x hx)) hh
theorem eqTerm {x : tTermD} : Ev (fun k => laws_eqTerm.f k x x) (one true) := Ev.skip (Ev.skip (Ev.skip (Ev.skip (Ev.cst rfl))))
theorem eqBlock {x : tBlockD} (h : Small tBlock x) : Ev (fun k => laws_eqBlock.f k x x) (one true) := Ev.yes (eqPhiS h.1) (Ev.yes (eqInstS h.2.1) (Ev.yes eqTerm (Ev.cst rfl)))
theorem eqBlockS {l : List tBlockD} (h : Small (.list tBlock) l) : Ev (fun k => laws_eqBlockS.f k l l) (one true) :=
  eq_list (z := tBlockZ) (L := laws_eqBlockS.l0) (q := fun k x y g => Option.bind (laws_eqBlock.f k x y) fun r1 => bif !r1.1.1.1 then some (((false, ()), ()), ()) else g) (fun k l m a => rfl) (fun k l m => rfl) h.1 fun x hx g r hh => Ev.yes (eqBlock (h.2 x hx)) hh
theorem eqFunc {x : tFuncD} (h : Small tFunc x) : Ev (fun k => laws_eqFunc.f k x x) (one true) := Ev.yes (eqInts h.1) (Ev.skip (Ev.yes (eqBlockS h.2.2.1) (Ev.cst rfl)))
end Go.Proofs.Ytkfehogikjcgkaa.V
namespace Go.Proofs.Ytkfehogikjcgkaa.V
open Go
set_option linter.unusedVariables false
set_option linter.unusedSimpArgs false
theorem Ev.sc {R : Type} {g : Nat → Option R} {r : R} (h : Ev (fun k => g (k + 1)) r) : Ev g r := Ev.step h fun _ => rfl
theorem updAt_length {α : Type} (z : α) (l : List α) (i : Nat) (f : α → α) : (updAt z l i f).length = l.length := by simp [updAt]
theorem updAt_at {α : Type} (z : α) (l : List α) (i : Nat) (f : α → α) (h : i < l.length) : (updAt z l i f).getD i z = f (l.getD i z) := by
  rw [getD_at _ _ _ (by rw [updAt_length]; exact h)]
  simp [updAt]
theorem updAt_ne {α : Type} (z : α) (l : List α) (i j : Nat) (f : α → α) (h : i ≠ j) : (updAt z l i f)[j]? = l[j]? := by
  simp [updAt, List.getElem?_set_ne h]
theorem updAt_twice {α : Type} {z : α} {l : List α} {i : Nat} (h : i < l.length) (f g : α → α) : updAt z (updAt z l i f) i g = updAt z l i (fun x => g (f x)) := by
  show (updAt z l i f).set i (g ((updAt z l i f).getD i z)) = _
  rw [updAt_at _ _ _ _ h]
  simp [updAt]
abbrev MkR (α : Type) := (((Int × Unit) × Unit) × (α × Unit))
abbrev mkr {α : Type} (n : Int) (l : α) : MkR α := (((n, ()), ()), (l, ()))
/-- A loop over a list whose elements are changed in place. -/
theorem mark_list {α : Type} {z : α} {B : Int} (hB : 0 ≤ B) {small : α → Prop} {L : Nat → Int → Int → List α → Option (MkR (List α))} {M : Int}
    (hend : ∀ (l : List α) (n : Int) k, L (k + 1) n (l.length : Int) l = some (mkr n l))
    (hstep : ∀ (l : List α) (i : Nat) (n : Int), i < l.length → l.length ≤ 1048576 → small (l.getD i z) → 0 ≤ n → n + B ≤ M → ∃ n' l', n ≤ n' ∧ n' ≤ n + B ∧ l'.length = l.length ∧ (∀ j, i < j → l'[j]? = l[j]?) ∧ ∀ r, Ev (fun k => L k n' ((i + 1 : Nat) : Int) l') r → Ev (fun k => L k n (i : Int) l) r) :
    ∀ (d i : Nat) (l : List α) (n : Int), i + d = l.length → l.length ≤ 1048576 → (∀ j x, i ≤ j → l[j]? = some x → small x) → 0 ≤ n → n + (d : Int) * B ≤ M → ∃ n' l', Ev (fun k => L k n (i : Int) l) (mkr n' l') ∧ n ≤ n' ∧ n' ≤ n + (d : Int) * B ∧ l'.length = l.length := by
  intro d
  induction d with
  | zero =>
    intro i l n hi hl hs h0 hM
    obtain rfl : i = l.length := by omega
    exact ⟨n, l, Ev.step (g' := fun _ => some (mkr n l)) (Ev.cst rfl) (hend l n), Int.le_refl _, by omega, rfl⟩
  | succ d ih =>
    intro i l n hi hl hs h0 hM
    have hlt : i < l.length := by omega
    have e : ((d + 1 : Nat) : Int) * B = (d : Int) * B + B := by rw [Int.natCast_add, Int.add_mul]; simp
    have hd : 0 ≤ (d : Int) * B := Int.mul_nonneg (by omega) hB
    rw [e] at hM ⊢
    obtain ⟨n1, l1, a1, a2, a3, a4, a5⟩ := hstep l i n hlt hl (hs i _ (Nat.le_refl _) (by rw [getD_at _ _ _ hlt]; exact List.getElem?_eq_getElem hlt)) h0 (by omega)
    obtain ⟨n2, l2, b1, b2, b3, b4⟩ := ih (i + 1) l1 n1 (by omega) (by omega) (fun j x hj hx => hs j x (by omega) (by rw [← a4 j (by omega)]; exact hx)) (by omega) (by omega)
    exact ⟨n2, l2, a5 _ b1, by omega, by omega, by omega⟩
theorem mark_all {α : Type} {z : α} {B : Int} (hB : 0 ≤ B) {small : α → Prop} {L : Nat → Int → Int → List α → Option (MkR (List α))} {M : Int}
    (hend : ∀ (l : List α) (n : Int) k, L (k + 1) n (l.length : Int) l = some (mkr n l))
    (hstep : ∀ (l : List α) (i : Nat) (n : Int), i < l.length → l.length ≤ 1048576 → small (l.getD i z) → 0 ≤ n → n + B ≤ M → ∃ n' l', n ≤ n' ∧ n' ≤ n + B ∧ l'.length = l.length ∧ (∀ j, i < j → l'[j]? = l[j]?) ∧ ∀ r, Ev (fun k => L k n' ((i + 1 : Nat) : Int) l') r → Ev (fun k => L k n (i : Int) l) r)
    (l : List α) (n : Int) (hl : l.length ≤ 1048576) (hs : ∀ x ∈ l, small x) (h0 : 0 ≤ n) (hM : n + 1048576 * B ≤ M) : ∃ n' l', Ev (fun k => L k n 0 l) (mkr n' l') ∧ n ≤ n' ∧ n' ≤ n + 1048576 * B ∧ l'.length = l.length := by
  have hle : (l.length : Int) * B ≤ 1048576 * B := Int.mul_le_mul_of_nonneg_right (by omega) hB
  obtain ⟨n', l', a, b, c, d⟩ := mark_list (z := z) hB (small := small) hend hstep l.length 0 l n (by omega) hl (fun j x _ hx => hs x (List.mem_of_getElem? hx)) h0 (by omega)
  exact ⟨n', l', a, b, by omega, d⟩
/-- The numbers n, n + 1, .. -/
def upFrom : Int → Nat → List Int
  | _, 0 => []
  | n, d + 1 => n :: upFrom (n + 1) d
theorem markInts_l : ∀ (d i : Nat) (pre : List Int) (l : List Int) (n : Int), pre.length = i → l.length = d → i + d ≤ 1048576 → 0 ≤ n → n + (d : Int) ≤ 9223372036854775807 → Ev (fun k => laws_markInt64S.l0 k n (i : Int) (pre ++ l)) (mkr (n + (d : Int)) (pre ++ upFrom n d)) := by
  intro d
  induction d with
  | zero =>
    intro i pre l n hi hl h1 h0 hM
    obtain rfl : l = [] := List.eq_nil_of_length_eq_zero hl
    subst hi
    refine Ev.step (g' := fun _ => some (mkr (n + 0) (pre ++ []))) (Ev.cst rfl) fun k => ?_
    show laws_markInt64S.l0_ k (laws_markInt64S.l0 k) n _ (pre ++ []) = _
    unfold laws_markInt64S.l0_
    simp
  | succ d ih =>
    intro i pre l n hi hl h1 h0 hM
    obtain ⟨x, l, rfl⟩ : ∃ x m, l = x :: m := by
      cases l with
      | nil => simp at hl
      | cons x m => exact ⟨x, m, rfl⟩
    subst hi
    have hlt : pre.length < (pre ++ x :: l).length := by simp
    refine Ev.sc ?_
    show Ev (fun k => laws_markInt64S.l0_ k (laws_markInt64S.l0 k) n _ (pre ++ x :: l)) _
    unfold laws_markInt64S.l0_
    simp only [head_in hlt, head_0, Bool.and_self, cond_true, Int.toNat_natCast, wrap_nat (show pre.length < 9223372036854775807 by omega), wrap_id (x := n + 1) (by omega) (by omega)]
    have e : (pre ++ x :: l).set pre.length n = (pre ++ [n]) ++ l := by simp
    rw [e]
    refine (ih (pre.length + 1) (pre ++ [n]) l (n + 1) (by simp) (by simpa using hl) (by omega) (by omega) (by omega)).rw ?_
    have e1 : n + 1 + (d : Int) = n + ((d + 1 : Nat) : Int) := by omega
    simp [upFrom, e1]
theorem markInts (l : List Int) (n : Int) (hl : l.length ≤ 1048576) (h0 : 0 ≤ n) (hM : n + (l.length : Int) ≤ 9223372036854775807) : Ev (fun k => laws_markInt64S.f k n l) (mkr (n + (l.length : Int)) (upFrom n l.length)) :=
  markInts_l l.length 0 [] l n rfl rfl (by omega) h0 hM
theorem heldInts_l : ∀ (d i : Nat) (pre : List Int) (n : Int), pre.length = i → i + d ≤ 1048576 → 0 ≤ n → n + (d : Int) ≤ 9223372036854775807 → Ev (fun k => laws_heldInt64S.l0 k (pre ++ upFrom n d) n (i : Int)) (one (n + (d : Int))) := by
  intro d
  induction d with
  | zero =>
    intro i pre n hi h1 h0 hM
    subst hi
    refine Ev.step (g' := fun _ => some (one (n + 0))) (Ev.cst rfl) fun k => ?_
    show laws_heldInt64S.l0_ k (laws_heldInt64S.l0 k) (pre ++ []) n _ = _
    unfold laws_heldInt64S.l0_
    simp
  | succ d ih =>
    intro i pre n hi h1 h0 hM
    subst hi
    have hlt : pre.length < (pre ++ n :: upFrom (n + 1) d).length := by simp
    refine Ev.sc ?_
    show Ev (fun k => laws_heldInt64S.l0_ k (laws_heldInt64S.l0 k) (pre ++ n :: upFrom (n + 1) d) n _) _
    unfold laws_heldInt64S.l0_
    simp only [head_in hlt, head_0, Bool.and_self, cond_true, get_in hlt, wrap_nat (show pre.length < 9223372036854775807 by omega), wrap_id (x := n + 1) (by omega) (by omega)]
    refine Ev.neg (by simp) ?_
    have e : pre ++ n :: upFrom (n + 1) d = (pre ++ [n]) ++ upFrom (n + 1) d := by simp
    rw [e]
    refine (ih (pre.length + 1) (pre ++ [n]) (n + 1) (by simp) (by omega) (by omega) (by omega)).rw ?_
    have e1 : n + 1 + (d : Int) = n + ((d + 1 : Nat) : Int) := by omega
    rw [e1]
theorem heldInts (n : Int) (d : Nat) (hl : d ≤ 1048576) (h0 : 0 ≤ n) (hM : n + (d : Int) ≤ 9223372036854775807) : Ev (fun k => laws_heldInt64S.f k (upFrom n d) n) (one (n + (d : Int))) :=
  heldInts_l d 0 [] n rfl (by omega) h0 hM
end Go.Proofs.Ytkfehogikjcgkaa.V
namespace Go.Proofs.Ytkfehogikjcgkaa.V
open Go
set_option linter.unusedVariables false
set_option linter.unusedSimpArgs false
theorem markPhis (l : List tPhiD) (hs : Small (.list tPhi) l) (n : Int) (h0 : 0 ≤ n) (hM : n ≤ 4611686018427387904) : ∃ n' l', Ev (fun k => laws_markPhiS.f k n l) (mkr n' l') ∧ n ≤ n' ∧ n' ≤ n + 1048576 * 1048577 ∧ l'.length = l.length := by
  refine mark_all (z := tPhiZ) (B := 1048577) (by omega) (small := Small tPhi) (L := laws_markPhiS.l0) (M := 4611686018427387904 + 1048576 * 1048577) (fun l n k => ?_) (fun l i n hi hl hx h0 hM => ?_) l n hs.1 hs.2 h0 (by omega)
  · show laws_markPhiS.l0_ k (laws_markPhiS.l0 k) n _ l = _
    unfold laws_markPhiS.l0_
    rw [head_end]; rfl
  · have hlen : (l.getD i tPhiZ).2.1.length ≤ 1048576 := hx.2.1.1
    refine ⟨n + 1 + ((l.getD i tPhiZ).2.1.length : Int), updAt tPhiZ l i (fun q_ => (n, upFrom (n + 1) (l.getD i tPhiZ).2.1.length, q_.2.2)), by omega, by omega, updAt_length _ _ _ _, fun j hj => updAt_ne _ _ _ _ _ (by omega), fun r hr => Ev.sc ?_⟩
    show Ev (fun k => laws_markPhiS.l0_ k (laws_markPhiS.l0 k) n _ l) _
    unfold laws_markPhiS.l0_
    simp only [updAt_length, head_in hi, head_0, Bool.and_self, cond_true, Int.toNat_natCast, wrap_nat (show i < 9223372036854775807 by omega), wrap_id (x := n + 1) (by omega) (by omega), updAt_twice hi, updAt_at _ _ _ _ hi]
    exact Ev.bind (markInts _ (n + 1) hlen (by omega) (by omega)) hr
theorem markInsts (l : List tInstD) (hs : Small (.list tInst) l) (n : Int) (h0 : 0 ≤ n) (hM : n ≤ 4611686018427387904) : ∃ n' l', Ev (fun k => laws_markInstS.f k n l) (mkr n' l') ∧ n ≤ n' ∧ n' ≤ n + 1048576 * 1048582 ∧ l'.length = l.length := by
  refine mark_all (z := tInstZ) (B := 1048582) (by omega) (small := Small tInst) (L := laws_markInstS.l0) (M := 4611686018427387904 + 1048576 * 1048582) (fun l n k => ?_) (fun l i n hi hl hx h0 hM => ?_) l n hs.1 hs.2 h0 (by omega)
  · show laws_markInstS.l0_ k (laws_markInstS.l0 k) n _ l = _
    unfold laws_markInstS.l0_
    rw [head_end]; rfl
  · have hlen : (l.getD i tInstZ).2.2.2.2.2.2.1.length ≤ 1048576 := hx.2.2.2.2.2.2.1.1
    refine ⟨n + 1 + 1 + 1 + 1 + 1 + 1 + ((l.getD i tInstZ).2.2.2.2.2.2.1.length : Int), updAt tInstZ l i (fun q_ => (n, n + 1, n + 1 + 1, n + 1 + 1 + 1, n + 1 + 1 + 1 + 1, n + 1 + 1 + 1 + 1 + 1, upFrom (n + 1 + 1 + 1 + 1 + 1 + 1) (l.getD i tInstZ).2.2.2.2.2.2.1.length, q_.2.2.2.2.2.2.2)), by omega, by omega, updAt_length _ _ _ _, fun j hj => updAt_ne _ _ _ _ _ (by omega), fun r hr => Ev.sc ?_⟩
    show Ev (fun k => laws_markInstS.l0_ k (laws_markInstS.l0 k) n _ l) _
    unfold laws_markInstS.l0_
    simp only [updAt_length, head_in hi, head_0, Bool.and_self, cond_true, Int.toNat_natCast, wrap_nat (show i < 9223372036854775807 by omega), wrap_id (x := n + 1) (by omega) (by omega), wrap_id (x := n + 1 + 1) (by omega) (by omega), wrap_id (x := n + 1 + 1 + 1) (by omega) (by omega), wrap_id (x := n + 1 + 1 + 1 + 1) (by omega) (by omega), wrap_id (x := n + 1 + 1 + 1 + 1 + 1) (by omega) (by omega), wrap_id (x := n + 1 + 1 + 1 + 1 + 1 + 1) (by omega) (by omega), updAt_twice hi, updAt_at _ _ _ _ hi]
    exact Ev.bind (markInts _ (n + 1 + 1 + 1 + 1 + 1 + 1) hlen (by omega) (by omega)) hr
theorem markBlocks (l : List tBlockD) (hs : Small (.list tBlock) l) (n : Int) (h0 : 0 ≤ n) (hM : n ≤ 1048577) : ∃ n' l', Ev (fun k => laws_markBlockS.f k n l) (mkr n' l') ∧ n ≤ n' ∧ n' ≤ n + 1048576 * (1048576 * 1048577 + 1048576 * 1048582 + 4) ∧ l'.length = l.length := by
  refine mark_all (z := tBlockZ) (B := 1048576 * 1048577 + 1048576 * 1048582 + 4) (by omega) (small := Small tBlock) (L := laws_markBlockS.l0) (M := 4611686018427387904) (fun l n k => ?_) (fun l i n hi hl hx h0 hM => ?_) l n hs.1 hs.2 h0 (by omega)
  · show laws_markBlockS.l0_ k (laws_markBlockS.l0 k) n _ l = _
    unfold laws_markBlockS.l0_
    rw [head_end]; rfl
  · obtain ⟨n1, p1, e1, a1, b1, c1⟩ := markPhis (l.getD i tBlockZ).1 hx.1 n h0 (by omega)
    obtain ⟨n2, p2, e2, a2, b2, c2⟩ := markInsts (l.getD i tBlockZ).2.1 hx.2.1 n1 (by omega) (by omega)
    refine ⟨n2 + 1 + 1 + 1 + 1, updAt tBlockZ l i (fun q_ => (p1, p2, n2, n2 + 1, n2 + 1 + 1, n2 + 1 + 1 + 1, q_.2.2.2.2.2.2)), by omega, by omega, updAt_length _ _ _ _, fun j hj => updAt_ne _ _ _ _ _ (by omega), fun r hr => Ev.sc ?_⟩
    show Ev (fun k => laws_markBlockS.l0_ k (laws_markBlockS.l0 k) n _ l) _
    unfold laws_markBlockS.l0_
    simp only [updAt_length, head_in hi, head_0, Bool.and_self, cond_true, Int.toNat_natCast, wrap_nat (show i < 9223372036854775807 by omega), updAt_twice hi, updAt_at _ _ _ _ hi]
    refine Ev.bind e1 (Ev.bind e2 ?_)
    simp only [mkr, wrap_id (x := n2 + 1) (by omega) (by omega), wrap_id (x := n2 + 1 + 1) (by omega) (by omega), wrap_id (x := n2 + 1 + 1 + 1) (by omega) (by omega), wrap_id (x := n2 + 1 + 1 + 1 + 1) (by omega) (by omega)]
    exact hr
theorem markFunc (w : Int) {p : List Int} (hp : Small (.list (.int .i64)) p) {b : List tBlockD} (hb : Small (.list tBlock) b) : ∃ n' p' b', Ev (fun k => laws_markFunc.f k w 1 p b) (((n', ()), ()), (p', b', ())) ∧ 0 ≤ n' := by
  have hp1 : p.length ≤ 1048576 := hp.1
  obtain ⟨n2, p2, e2, a2, b2, c2⟩ := markBlocks b hb (1 + (p.length : Int)) (by omega) (by omega)
  exact ⟨n2, _, _, Ev.bind (markInts p 1 hp1 (by omega) (by omega)) (Ev.bind e2 (Ev.cst rfl)), by omega⟩
end Go.Proofs.Ytkfehogikjcgkaa.V
namespace Go.Proofs.Ytkfehogikjcgkaa.V
open Go
set_option linter.unusedVariables false
set_option linter.unusedSimpArgs false
def inB (lo hi x : Int) : Bool := decide (lo ≤ x) && decide (x ≤ hi)
def wOk (w : Int) : Bool := decide (w = 1) || decide (w = 8) || decide (w = 16) || decide (w = 32)
def opsB (i : tInstD) : List Int :=
  bif inB 1 17 i.1 then [i.2.2.1, i.2.2.2.1] else bif decide (i.1 = 24) then [i.2.2.1, i.2.2.2.1] else bif inB 18 20 i.1 then [i.2.2.1] else bif decide (i.1 = 23) then [i.2.2.1] else bif decide (i.1 = 25) then [i.2.2.1] else bif decide (i.1 = 27) then [i.2.2.1] else
  bif decide (i.1 = 22) then [i.2.2.1, i.2.2.2.1, i.2.2.2.2.1] else bif decide (i.1 = 26) then i.2.2.2.2.2.2.1 else []
theorem specIn (k : Nat) (a lo hi : Int) : spec_l1In.f k a lo hi = some (one (inB lo hi a)) := by
  unfold spec_l1In.f inB
  cases decide (lo ≤ a) <;> rfl
theorem implIn (k : Nat) (a lo hi : Int) : impl_within.f k a lo hi = some (one (inB lo hi a)) := by
  unfold impl_within.f inB
  cases decide (lo ≤ a) <;> rfl
theorem specW (k : Nat) (a : Int) : spec_WidthOk.f k a = some (one (wOk a)) := by
  unfold spec_WidthOk.f wOk
  cases decide (a = 1) <;> cases decide (a = 8) <;> cases decide (a = 16) <;> rfl
theorem implW (k : Nat) (a : Int) : impl_WidthOk.f k a = some (one (wOk a)) := by
  unfold impl_WidthOk.f wOk
  cases decide (a = 1) <;> cases decide (a = 8) <;> cases decide (a = 16) <;> rfl
theorem specCopy (k : Nat) {l : List Int} (h : l.length ≤ 1048576) : spec_l1Copy.f k l = some (rowR l) := by
  unfold spec_l1Copy.f
  rw [dpos (by simp; omega)]; rfl
theorem implClone (k : Nat) {l : List Int} (h : l.length ≤ 1048576) : slices_Clone_int64_int64.f k l = some (rowR l) := by
  unfold slices_Clone_int64_int64.f cloneF
  rw [dpos (by omega)]; rfl
theorem specOps (k : Nat) {i : tInstD} (h : i.2.2.2.2.2.2.1.length ≤ 1048576) : spec_l2Operands.f k i = some (rowR (opsB i)) := by
  unfold spec_l2Operands.f opsB
  simp only [specIn, specCopy k h, Option.bind_some]
  cases inB 1 17 i.1
  · cases decide (i.1 = 24)
    · cases inB 18 20 i.1
      · cases decide (i.1 = 23)
        · cases decide (i.1 = 25)
          · cases decide (i.1 = 27)
            · cases decide (i.1 = 22)
              · cases decide (i.1 = 26) <;> rfl
              · rfl
            · rfl
          · rfl
        · rfl
      · rfl
    · rfl
  · rfl
theorem implBin (k : Nat) (a : Int) : impl_isBinary.f k a = some (one (inB 1 17 a)) := by
  unfold impl_isBinary.f
  rw [implIn]; rfl
theorem implCast (k : Nat) (a : Int) : impl_isCast.f k a = some (one (inB 18 20 a)) := by
  unfold impl_isCast.f
  rw [implIn]; rfl
theorem implOps (k : Nat) {i : tInstD} (h : i.2.2.2.2.2.2.1.length ≤ 1048576) : impl_OperandsOf.f k i = some (rowR (opsB i)) := by
  unfold impl_OperandsOf.f opsB
  simp only [implBin, implCast, implClone k h, Option.bind_some]
  cases inB 1 17 i.1
  · cases decide (i.1 = 24)
    · cases inB 18 20 i.1
      · cases decide (i.1 = 23)
        · cases decide (i.1 = 25)
          · cases decide (i.1 = 27)
            · cases decide (i.1 = 22)
              · cases decide (i.1 = 26) <;> rfl
              · rfl
            · rfl
          · rfl
        · rfl
      · rfl
    · rfl
  · rfl
/-! ### instructions -/
def topOf (w : Int) : Int := bif decide (w = 1) then 1 else bif decide (w = 8) then 255 else bif decide (w = 16) then 65535 else 4294967295
def valB (w x : Int) : Bool := wOk w && inB 0 (topOf w) x
theorem wOk_cases {w : Int} (h : wOk w = true) : w = 1 ∨ w = 8 ∨ w = 16 ∨ w = 32 := by
  simp only [wOk, Bool.or_eq_true, decide_eq_true_eq] at h
  omega
theorem specVal (k : Nat) (w x : Int) : spec_l1Value.f k w x = some (one (valB w x)) := by
  unfold spec_l1Value.f valB
  simp only [specW, Option.bind_some]
  cases h : wOk w with
  | false => rfl
  | true => rcases wOk_cases h with rfl | rfl | rfl | rfl <;> (unfold spec_l1Top.f; simp only [specIn]; rfl)
theorem implVal (k : Nat) (w x : Int) : impl_isValue.f k w x = some (one (valB w x)) := by
  unfold impl_isValue.f valB
  simp only [implW, Option.bind_some]
  cases h : wOk w with
  | false => rfl
  | true => rcases wOk_cases h with rfl | rfl | rfl | rfl <;> (unfold impl_mask.f; simp only [implIn]; rfl)
def widB (i : tInstD) : Bool := bif decide (i.1 = 24) || decide (i.1 = 25) then decide (i.2.1 = 0) else bif decide (i.1 = 23) then decide (i.2.1 = 8) else wOk i.2.1
def immB (i : tInstD) (funcs : Int) : Bool := bif decide (i.1 = 21) then valB i.2.1 i.2.2.2.2.2.1 else bif decide (i.1 = 26) then inB 0 (funcs - 1) i.2.2.2.2.2.1 else decide (i.2.2.2.2.2.1 = 0)
def named (i : tInstD) : Nat := bif decide (i.1 = 26) then 0 else (opsB i).length
def zerosB (i : tInstD) : Bool := ([i.2.2.1, i.2.2.2.1, i.2.2.2.2.1].drop (named i)).all fun n => decide (n = 0)
def instB (count funcs : Int) (i : tInstD) : Bool :=
  inB 1 27 i.1 && decide (i.2.2.2.2.2.2.1.length ≤ 4) && (decide (i.2.2.2.2.2.2.1.length = 0) || decide (i.1 = 26)) && (opsB i).all (inB 0 (count - 1)) && zerosB i && widB i && immB i funcs
theorem implWid (k : Nat) (i : tInstD) : impl_isWidth.f k i = some (one (widB i)) := by
  unfold impl_isWidth.f widB
  simp only [implW, Option.bind_some]
  by_cases h : i.1 = 24
  · simp [h]
  · by_cases h2 : i.1 = 25
    · simp [h2]
    · simp only [dneg h, dneg h2, cond_false, Bool.or_self]
      cases decide (i.1 = 23) <;> rfl
theorem implImm (k : Nat) (i : tInstD) {funcs : Int} (h0 : 0 ≤ funcs) (h1 : funcs ≤ 9223372036854775807) : impl_isImm.f k i funcs = some (one (immB i funcs)) := by
  unfold impl_isImm.f immB
  simp only [implVal, implIn, Option.bind_some, wrap_id (show -9223372036854775808 ≤ funcs - 1 by omega) (show funcs - 1 ≤ 9223372036854775807 by omega)]
  cases decide (i.1 = 21) <;> cases decide (i.1 = 26) <;> rfl
/-! ### ends -/
def termB (count blocks : Int) (t : tTermD) : Bool :=
  bif decide (t.1 = 1) then inB 0 (count - 1) t.2.1 && decide (t.2.2.1 = 0) && decide (t.2.2.2.1 = 0) else
  bif decide (t.1 = 2) then decide (t.2.1 = 0) && inB 0 (blocks - 1) t.2.2.1 && decide (t.2.2.2.1 = 0) else
  bif decide (t.1 = 3) then inB 0 (count - 1) t.2.1 && inB 0 (blocks - 1) t.2.2.1 && inB 0 (blocks - 1) t.2.2.2.1 && !decide (t.2.2.1 = t.2.2.2.1) else
  decide (t.1 = 4) && decide (t.2.1 = 0) && decide (t.2.2.1 = 0) && decide (t.2.2.2.1 = 0)
theorem specTerm (k : Nat) (t : tTermD) {count blocks : Int} (h0 : 0 ≤ count) (h1 : count ≤ 9223372036854775807) (h2 : 0 ≤ blocks) (h3 : blocks ≤ 9223372036854775807) : spec_l2Term.f k t count blocks = some (one (termB count blocks t)) := by
  unfold spec_l2Term.f termB
  simp only [specIn, Option.bind_some, wrap_id (show -9223372036854775808 ≤ count - 1 by omega) (show count - 1 ≤ 9223372036854775807 by omega), wrap_id (show -9223372036854775808 ≤ blocks - 1 by omega) (show blocks - 1 ≤ 9223372036854775807 by omega)]
  cases decide (t.1 = 1)
  · cases decide (t.1 = 2)
    · cases decide (t.1 = 3)
      · cases decide (t.1 = 4) <;> cases decide (t.2.1 = 0) <;> cases decide (t.2.2.1 = 0) <;> rfl
      · cases inB 0 (count - 1) t.2.1 <;> cases inB 0 (blocks - 1) t.2.2.1 <;> cases inB 0 (blocks - 1) t.2.2.2.1 <;> rfl
    · cases decide (t.2.1 = 0) <;> cases inB 0 (blocks - 1) t.2.2.1 <;> rfl
  · cases inB 0 (count - 1) t.2.1 <;> cases decide (t.2.2.1 = 0) <;> rfl
theorem implTerm1 (k : Nat) (a : Int) {f : tFuncD} (h : f.2.2.1.length ≤ 1048576) : impl_isTerm_1.f k a f = some (one (inB 0 ((f.2.2.1.length : Int) - 1) a)) := by
  unfold impl_isTerm_1.f
  rw [implIn, wrap_id (by omega) (by omega)]; rfl
theorem implTerm (k : Nat) (t : tTermD) {f : tFuncD} (h : f.2.2.1.length ≤ 1048576) {count : Int} (h0 : 0 ≤ count) (h1 : count ≤ 9223372036854775807) : impl_isTerm.f k f t count = some (one (termB count (f.2.2.1.length : Int) t)) := by
  unfold impl_isTerm.f termB
  simp only [implIn, implTerm1 k _ h, Option.bind_some, wrap_id (show -9223372036854775808 ≤ count - 1 by omega) (show count - 1 ≤ 9223372036854775807 by omega)]
  generalize (f.2.2.1.length : Int) = blocks
  cases decide (t.1 = 1)
  · cases decide (t.1 = 2)
    · cases decide (t.1 = 3)
      · cases decide (t.1 = 4) <;> cases decide (t.2.1 = 0) <;> cases decide (t.2.2.1 = 0) <;> rfl
      · cases inB 0 (count - 1) t.2.1 <;> cases inB 0 (blocks - 1) t.2.2.1 <;> cases inB 0 (blocks - 1) t.2.2.2.1 <;> rfl
    · cases decide (t.2.1 = 0) <;> cases inB 0 (blocks - 1) t.2.2.1 <;> rfl
  · cases inB 0 (count - 1) t.2.1 <;> cases decide (t.2.2.1 = 0) <;> rfl
end Go.Proofs.Ytkfehogikjcgkaa.V
namespace Go.Proofs.Ytkfehogikjcgkaa.V
open Go
set_option linter.unusedVariables false
set_option linter.unusedSimpArgs false
theorem any_not {α : Type} {p : α → Bool} : ∀ {l : List α}, (l.any fun x => !p x) = !l.all p
  | [] => rfl
  | x :: l => by simp only [List.any_cons, List.all_cons, any_not (l := l), Bool.not_and]
theorem implIn1 {l : List Int} (h : l.length ≤ 1048576) {count : Int} (h0 : 0 ≤ count) (h1 : count ≤ 9223372036854775807) : Ev (fun k => slices_ContainsFunc_int64_int64_3.f k l count) (one (!l.all (inB 0 (count - 1)))) := by
  rw [← any_not]
  exact index_ev (z := 0) (L := fun k b a => slices_IndexFunc_int64_int64_3.l0 k l b a count) (q := fun k x => impl_isInst_1.f k x count) (by omega) (fun k b a => rfl) fun x _ => Ev.all fun k => by
    unfold impl_isInst_1.f
    rw [implIn, wrap_id (by omega) (by omega)]; rfl
theorem implZero {l : List Int} (h : l.length ≤ 1048576) : Ev (fun k => slices_ContainsFunc_int64_int64_4.f k l) (one (!l.all fun n => decide (n = 0))) := by
  rw [← any_not]
  exact index_ev (z := 0) (L := fun k b a => slices_IndexFunc_int64_int64_4.l0 k l b a) (q := fun k x => impl_isInst_2.f k x) (by omega) (fun k b a => rfl) fun x _ => Ev.all fun k => rfl
theorem opsB_len {i : tInstD} (h : i.2.2.2.2.2.2.1.length ≤ 1048576) : (opsB i).length ≤ 1048576 := by
  unfold opsB
  cases inB 1 17 i.1 <;> cases decide (i.1 = 24) <;> cases inB 18 20 i.1 <;> cases decide (i.1 = 23) <;> cases decide (i.1 = 25) <;> cases decide (i.1 = 27) <;> cases decide (i.1 = 22) <;> cases decide (i.1 = 26) <;> simp only [cond_true, cond_false, List.length_cons, List.length_nil] <;> omega
theorem opsB_few {i : tInstD} (h : i.1 ≠ 26) : (opsB i).length ≤ 3 := by
  unfold opsB
  rw [dneg h]
  cases inB 1 17 i.1 <;> cases decide (i.1 = 24) <;> cases inB 18 20 i.1 <;> cases decide (i.1 = 23) <;> cases decide (i.1 = 25) <;> cases decide (i.1 = 27) <;> cases decide (i.1 = 22) <;> simp
theorem ev_and {g : Nat → Option BR} {b c : Bool} (h : Ev g (one c)) : Ev (fun k => bif !b then some (one false) else g k) (one (b && c)) := by
  cases b with
  | true => exact Ev.neg rfl h
  | false => exact Ev.pos rfl (Ev.cst rfl)
theorem ev_and' {g : Nat → Option BR} {b c : Bool} (h : Ev g (one c)) : Ev (fun k => bif b then some (one false) else g k) (one (!b && c)) := by
  cases b with
  | true => exact Ev.pos rfl (Ev.cst rfl)
  | false => exact Ev.neg rfl h
/-- What comes behind the operands, in the program. -/
theorem implTail {i : tInstD} {l : List Int} (hl : l.length ≤ 1048576) {funcs : Int} (h0 : 0 ≤ funcs) (h1 : funcs ≤ 9223372036854775807) : Ev (fun k => Option.bind (slices_ContainsFunc_int64_int64_4.f k l) fun r4 => bif r4.1.1.1 then some (((false, ()), ()), ()) else Option.bind (impl_isWidth.f k i) fun r5 => bif r5.1.1.1 then Option.bind (impl_isImm.f k i funcs) fun r6 => some (((r6.1.1.1, ()), ()), ()) else some (((false, ()), ()), ())) (one ((l.all fun n => decide (n = 0)) && widB i && immB i funcs)) := by
  refine Ev.bind (implZero hl) ?_
  cases l.all fun n => decide (n = 0) with
  | false => exact Ev.cst rfl
  | true =>
    refine Ev.all fun k => ?_
    simp only [implWid, implImm k i h0 h1, Option.bind_some]
    cases widB i <;> cases immB i funcs <;> rfl
theorem implInst {i : tInstD} (hs : i.2.2.2.2.2.2.1.length ≤ 1048576) {count funcs : Int} (h0 : 0 ≤ count) (h1 : count ≤ 9223372036854775807) (h2 : 0 ≤ funcs) (h3 : funcs ≤ 9223372036854775807) : Ev (fun k => impl_isInst.f k i count funcs) (one (instB count funcs i)) := by
  have rest : i.1 = 26 ∨ i.1 ≠ 26 → Ev (fun k => Option.bind (impl_OperandsOf.f k i) fun r2 => Option.bind (slices_ContainsFunc_int64_int64_3.f k r2.2.1 count) fun r3 => bif r3.1.1.1 then some (((false, ()), ()), ()) else
      bif decide (i.1 = 26) then (bif (decide ((0 : Int) ≤ 0)) && (decide ((0 : Int) ≤ ((List.length [i.2.2.1, i.2.2.2.1, i.2.2.2.2.1] : Nat) : Int))) then (Option.bind (slices_ContainsFunc_int64_int64_4.f k [i.2.2.1, i.2.2.2.1, i.2.2.2.2.1]) fun r4 => bif r4.1.1.1 then some (((false, ()), ()), ()) else Option.bind (impl_isWidth.f k i) fun r5 => bif r5.1.1.1 then Option.bind (impl_isImm.f k i funcs) fun r6 => some (((r6.1.1.1, ()), ()), ()) else some (((false, ()), ()), ())) else none)
      else (bif (decide (0 ≤ ((List.length r2.2.1 : Nat) : Int))) && (decide (((List.length r2.2.1 : Nat) : Int) ≤ ((List.length [i.2.2.1, i.2.2.2.1, i.2.2.2.2.1] : Nat) : Int))) then (Option.bind (slices_ContainsFunc_int64_int64_4.f k (List.drop (Int.toNat ((List.length r2.2.1 : Nat) : Int)) [i.2.2.1, i.2.2.2.1, i.2.2.2.2.1])) fun r4 => bif r4.1.1.1 then some (((false, ()), ()), ()) else Option.bind (impl_isWidth.f k i) fun r5 => bif r5.1.1.1 then Option.bind (impl_isImm.f k i funcs) fun r6 => some (((r6.1.1.1, ()), ()), ()) else some (((false, ()), ()), ())) else none))
      (one ((opsB i).all (inB 0 (count - 1)) && (zerosB i && widB i && immB i funcs))) := by
    intro hd
    refine Ev.bind (Ev.all fun k => implOps k hs) (Ev.bind (implIn1 (opsB_len hs) h0 h1) ?_)
    cases (opsB i).all (inB 0 (count - 1)) with
    | false => exact Ev.cst rfl
    | true =>
      rcases hd with hd | hd
      · refine Ev.neg rfl (Ev.pos (dpos hd) (Ev.pos rfl ?_))
        have := implTail (i := i) (l := [i.2.2.1, i.2.2.2.1, i.2.2.2.2.1]) (by simp) h2 h3
        refine this.rw ?_
        unfold zerosB named
        rw [dpos hd]; rfl
      · refine Ev.neg rfl (Ev.neg (dneg hd) (Ev.pos ?_ ?_))
        · have := opsB_few hd
          show (decide (0 ≤ ((opsB i).length : Int)) && decide (((opsB i).length : Int) ≤ 3)) = true
          rw [dpos (by omega), dpos (by omega)]; rfl
        · have := implTail (i := i) (l := List.drop (opsB i).length [i.2.2.1, i.2.2.2.1, i.2.2.2.2.1]) (by simp; omega) h2 h3
          refine this.rw ?_
          unfold zerosB named
          rw [dneg hd]; rfl
  have rest := rest (Decidable.em _)
  unfold impl_isInst.f
  refine Ev.bind (Ev.all fun k => implIn k _ _ _) ?_
  unfold instB
  generalize hz : ((opsB i).all (inB 0 (count - 1)) && (zerosB i && widB i && immB i funcs)) = zz at rest
  have hzz : ∀ b c d : Bool, (b && c && d && (opsB i).all (inB 0 (count - 1)) && zerosB i && widB i && immB i funcs) = (b && c && d && zz) := fun b c d => by rw [← hz]; simp only [Bool.and_assoc]
  rw [hzz]
  cases inB 1 27 i.1 with
  | false => exact Ev.pos rfl (Ev.cst rfl)
  | true =>
    refine Ev.neg rfl ?_
    by_cases h4 : 4 < ((i.2.2.2.2.2.2.1.length : Nat) : Int)
    · refine Ev.pos (dpos h4) (Ev.cst ?_)
      rw [dneg (show ¬ i.2.2.2.2.2.2.1.length ≤ 4 by omega)]; rfl
    · refine Ev.neg (dneg h4) ?_
      rw [dpos (show i.2.2.2.2.2.2.1.length ≤ 4 by omega)]
      by_cases h5 : 0 < ((i.2.2.2.2.2.2.1.length : Nat) : Int)
      · refine Ev.pos (dpos h5) ?_
        rw [dneg (show ¬ i.2.2.2.2.2.2.1.length = 0 by omega)]
        by_cases h6 : i.1 = 26
        · exact Ev.neg (by rw [dpos h6]; rfl) (rest.rw (by rw [dpos h6]; rfl))
        · exact Ev.pos (by rw [dneg h6]; rfl) (Ev.cst (by rw [dneg h6]; rfl))
      · refine Ev.neg (dneg h5) (rest.rw ?_)
        rw [dpos (show i.2.2.2.2.2.2.1.length = 0 by omega)]; rfl
/-! ### the specification's -/
theorem zeros_at {a b c : Int} : ∀ n : Nat, ([a, b, c].drop n).all (fun n => decide (n = 0)) = ((bif decide ((n : Int) < 1) then decide (a = 0) else true) && (bif decide ((n : Int) < 2) then decide (b = 0) else true) && (bif decide ((n : Int) < 3) then decide (c = 0) else true))
  | 0 => by simp [Bool.and_assoc]
  | 1 => by simp
  | 2 => by simp
  | n + 3 => by
    rw [dneg (show ¬ (((n + 3 : Nat) : Int) < 1) by omega), dneg (show ¬ (((n + 3 : Nat) : Int) < 2) by omega), dneg (show ¬ (((n + 3 : Nat) : Int) < 3) by omega)]
    simp
set_option synthInstance.maxHeartbeats 400000 in
set_option synthInstance.maxSize 100000 in
theorem specInst0 {i : tInstD} {ids : List Int} (hl : ids.length ≤ 1048576) {count funcs : Int} (h0 : 0 ≤ count) (h1 : count ≤ 9223372036854775807) (h2 : 0 ≤ funcs) (h3 : funcs ≤ 9223372036854775807) (hn : named i = bif decide (i.1 = 26) then 0 else ids.length) :
    Ev (fun k => spec_l2Inst.l0 k count funcs 0 i ids) (one (ids.all (inB 0 (count - 1)) && (decide (i.2.2.2.2.2.2.1.length ≤ 4) && zerosB i && widB i && immB i funcs))) := by
  refine each_ev (z := 0) (L := fun k a => spec_l2Inst.l0 k count funcs a i ids) (V := fun m => one (m.all (inB 0 (count - 1)) && (decide (i.2.2.2.2.2.2.1.length ≤ 4) && zerosB i && widB i && immB i funcs))) (q := fun k x g => Option.bind (spec_l1In.f k x 0 (IntKind.wrap .i64 (count - 1))) fun r1 => bif !r1.1.1.1 then some (((false, ()), ()), ()) else g k) (by omega) (fun k a => rfl) ?_ ?_
  · refine Ev.all fun k => ?_
    have hz : zerosB i = ((bif decide (((named i : Nat) : Int) < 1) then decide (i.2.2.1 = 0) else true) && (bif decide (((named i : Nat) : Int) < 2) then decide (i.2.2.2.1 = 0) else true) && (bif decide (((named i : Nat) : Int) < 3) then decide (i.2.2.2.2.1 = 0) else true)) := zeros_at _
    rw [hz, hn]
    simp only [specVal, specIn, specW, Option.bind_some, wrap_id (show -9223372036854775808 ≤ funcs - 1 by omega) (show funcs - 1 ≤ 9223372036854775807 by omega), List.all_nil, Bool.true_and]
    have h4 : decide (i.2.2.2.2.2.2.1.length ≤ 4) = !decide (4 < ((List.length i.2.2.2.2.2.2.1 : Nat) : Int)) := by
      by_cases h : 4 < ((List.length i.2.2.2.2.2.2.1 : Nat) : Int)
      · rw [dpos h, dneg (by omega)]; rfl
      · rw [dneg h, dpos (by omega)]; rfl
    rw [h4]
    unfold widB immB
    have fin : ∀ (o24 o25 o26 o21 o23 w0 w8 wk : Bool), decide (i.1 = 24) = o24 → decide (i.1 = 25) = o25 → decide (i.1 = 26) = o26 → decide (i.1 = 21) = o21 → decide (i.1 = 23) = o23 → decide (i.2.1 = 0) = w0 → decide (i.2.1 = 8) = w8 → wOk i.2.1 = wk →
        (o24 = true ∧ o25 = false ∧ o26 = false ∧ o21 = false ∧ o23 = false ∨ o24 = false ∧ o25 = true ∧ o26 = false ∧ o21 = false ∧ o23 = false ∨ o24 = false ∧ o25 = false ∧ o26 = true ∧ o21 = false ∧ o23 = false ∨ o24 = false ∧ o25 = false ∧ o26 = false ∧ o21 = true ∧ o23 = false ∨ o24 = false ∧ o25 = false ∧ o26 = false ∧ o21 = false ∧ o23 = true ∨ o24 = false ∧ o25 = false ∧ o26 = false ∧ o21 = false ∧ o23 = false) ∧
        (w0 = true ∧ w8 = false ∧ wk = false ∨ w0 = false ∧ w8 = true ∧ wk = true ∨ w0 = false ∧ w8 = false) := by
      rintro _ _ _ _ _ _ _ _ rfl rfl rfl rfl rfl rfl rfl rfl
      simp only [decide_eq_true_eq, decide_eq_false_iff_not]
      refine ⟨by omega, ?_⟩
      by_cases h : i.2.1 = 0
      · exact .inl ⟨h, by omega, by rw [h]; rfl⟩
      · by_cases h' : i.2.1 = 8
        · exact .inr (.inl ⟨h, h', by rw [h']; rfl⟩)
        · exact .inr (.inr ⟨h, h'⟩)
    have fin := fin _ _ _ _ _ _ _ _ rfl rfl rfl rfl rfl rfl rfl rfl
    clear hz h4 hn
    generalize decide (i.1 = 24) = o24 at fin ⊢
    generalize decide (i.1 = 25) = o25 at fin ⊢
    generalize decide (i.1 = 26) = o26 at fin ⊢
    generalize decide (i.1 = 21) = o21 at fin ⊢
    generalize decide (i.1 = 23) = o23 at fin ⊢
    generalize decide (i.2.1 = 0) = w0 at fin ⊢
    generalize decide (i.2.1 = 8) = w8 at fin ⊢
    generalize wOk i.2.1 = wk at fin ⊢
    have z1 : decide (((0 : Nat) : Int) < 1) = true := rfl
    have z2 : decide (((0 : Nat) : Int) < 2) = true := rfl
    have z3 : decide (((0 : Nat) : Int) < 3) = true := rfl
    have y1 : decide ((0 : Int) < 1) = true := rfl
    have y2 : decide ((0 : Int) < 2) = true := rfl
    have y3 : decide ((0 : Int) < 3) = true := rfl
    obtain ⟨f1, f2⟩ := fin
    rcases f1 with ⟨rfl, rfl, rfl, rfl, rfl⟩ | ⟨rfl, rfl, rfl, rfl, rfl⟩ | ⟨rfl, rfl, rfl, rfl, rfl⟩ | ⟨rfl, rfl, rfl, rfl, rfl⟩ | ⟨rfl, rfl, rfl, rfl, rfl⟩ | ⟨rfl, rfl, rfl, rfl, rfl⟩ <;> rcases f2 with ⟨rfl, rfl, rfl⟩ | ⟨rfl, rfl, rfl⟩ | ⟨rfl, rfl⟩ <;>
      simp only [cond_true, cond_false, z1, z2, z3, y1, y2, y3, beq_self_eq_true, Bool.not_true, Bool.not_false, Bool.or_true, Bool.or_false, Bool.and_false, Bool.false_and, Bool.true_and, Bool.and_true, show (true == false) = false from rfl, show (false == true) = false from rfl, Int.reduceLT, decide_true, decide_false] <;>
      generalize decide (4 < ((List.length i.2.2.2.2.2.2.1 : Nat) : Int)) = l4 <;>
      generalize decide (((ids.length : Nat) : Int) < 1) = n1 <;> generalize decide (((ids.length : Nat) : Int) < 2) = n2 <;> generalize decide (((ids.length : Nat) : Int) < 3) = n3 <;>
      generalize decide (i.2.2.1 = 0) = a <;> generalize decide (i.2.2.2.1 = 0) = b <;> generalize decide (i.2.2.2.2.1 = 0) = c <;> generalize decide (i.2.2.2.2.2.1 = 0) = m <;>
      generalize valB i.2.1 i.2.2.2.2.2.1 = va <;> generalize inB 0 (funcs - 1) i.2.2.2.2.2.1 = vb <;> revert l4 n1 n2 n3 a b c m va vb <;> (try revert wk) <;> decide +kernel
  · intro x m g hx hg
    refine Ev.bind (Ev.all fun k => specIn k _ _ _) ?_
    rw [wrap_id (by omega) (by omega), List.all_cons, Bool.and_assoc]
    exact ev_and hg
end Go.Proofs.Ytkfehogikjcgkaa.V
namespace Go.Proofs.Ytkfehogikjcgkaa.V
open Go
set_option linter.unusedVariables false
set_option linter.unusedSimpArgs false
theorem specInst {i : tInstD} (hs : i.2.2.2.2.2.2.1.length ≤ 1048576) {count funcs : Int} (h0 : 0 ≤ count) (h1 : count ≤ 9223372036854775807) (h2 : 0 ≤ funcs) (h3 : funcs ≤ 9223372036854775807) : Ev (fun k => spec_l2Inst.f k i count funcs) (one (instB count funcs i)) := by
  have hn : named i = bif decide (i.1 = 26) then 0 else (opsB i).length := rfl
  have l0 := specInst0 (opsB_len hs) h0 h1 h2 h3 hn
  unfold spec_l2Inst.f
  refine Ev.bind (Ev.all fun k => specIn k _ _ _) ?_
  unfold instB
  generalize hz : ((opsB i).all (inB 0 (count - 1))) = za at l0 ⊢
  cases inB 1 27 i.1 with
  | false => exact Ev.pos rfl (Ev.cst rfl)
  | true =>
    refine Ev.neg rfl ?_
    have done : ∀ b : Bool, b = true → Ev (fun k => Option.bind (spec_l2Operands.f k i) fun r3 => spec_l2Inst.l0 k count funcs 0 i r3.2.1) (one (true && decide (i.2.2.2.2.2.2.1.length ≤ 4) && b && za && zerosB i && widB i && immB i funcs)) := by
      rintro _ rfl
      refine (Ev.bind (f := fun k r3 => spec_l2Inst.l0 k count funcs 0 i r3.2.1) (Ev.all fun k => specOps k hs) l0).rw ?_
      generalize decide (i.2.2.2.2.2.2.1.length ≤ 4) = z4
      generalize zerosB i = z5
      generalize widB i = z6
      generalize immB i funcs = z7
      clear l0 hz
      revert za z4 z5 z6 z7
      decide
    by_cases h6 : i.1 = 26
    · exact Ev.neg (by rw [dpos h6]; rfl) (done _ (by rw [dpos h6, Bool.or_true]))
    · refine Ev.pos (by rw [dneg h6]; rfl) ?_
      by_cases h5 : 0 < ((i.2.2.2.2.2.2.1.length : Nat) : Int)
      · refine Ev.pos (dpos h5) (Ev.cst ?_)
        rw [dneg (show ¬ i.2.2.2.2.2.2.1.length = 0 by omega), dneg h6]
        simp
      · exact Ev.neg (dneg h5) (done _ (by rw [dpos (show i.2.2.2.2.2.2.1.length = 0 by omega), Bool.true_or]))
/-! ### how many ids -/
def sumB {α : Type} (w : α → Int) : List α → Int
  | [] => 0
  | x :: l => w x + sumB w l
theorem sumB_le {α : Type} {w : α → Int} {m : Int} : ∀ {l : List α}, (∀ x ∈ l, 0 ≤ w x ∧ w x ≤ m) → 0 ≤ sumB w l ∧ sumB w l ≤ l.length * m
  | [], _ => by simp [sumB]
  | x :: l, h => by
    obtain ⟨a, b⟩ := sumB_le (l := l) fun y hy => h y (by simp [hy])
    obtain ⟨c, d⟩ := h x (by simp)
    simp only [sumB, List.length_cons]
    have : ((l.length + 1 : Nat) : Int) * m = l.length * m + m := by
      rw [Int.natCast_add, Int.add_mul]; simp
    omega
theorem acc_ev {α : Type} {l : List α} {w : α → Int} {L : Nat → Int → Int → Option IR} (hw : ∀ x ∈ l, 0 ≤ w x ∧ w x ≤ 2097152) (hlen : l.length ≤ 1048576)
    (h1 : ∀ k a (i : Nat) (h : i < l.length), L (k + 1) a (i : Int) = L k (IntKind.wrap .i64 (a + IntKind.wrap .i64 (w l[i]))) ((i + 1 : Nat) : Int)) (h2 : ∀ k a, L (k + 1) a (l.length : Int) = some (one a)) {a : Int} (ha : 0 ≤ a) (ha' : a ≤ 1048576) : Ev (fun k => L k a 0) (one (a + sumB w l)) := by
  have key : ∀ (d i : Nat) (a : Int), i + d = l.length → 0 ≤ a → a ≤ 1048576 + i * 2097152 → Ev (fun k => L k a (i : Int)) (one (a + sumB w (l.drop i))) := by
    intro d
    induction d with
    | zero =>
      intro i a hi h0 h3
      have hi' : i = l.length := by omega
      subst hi'
      rw [List.drop_length]
      exact Ev.step (g' := fun _ => some (one a)) (Ev.cst (by simp [sumB])) fun k => h2 k a
    | succ d ih =>
      intro i a hi h0 h3
      have hi' : i < l.length := by omega
      obtain ⟨w0, w1⟩ := hw l[i] (List.getElem_mem hi')
      have := ih (i + 1) (a + w l[i]) (by omega) (by omega) (by omega)
      refine (Ev.step this fun k => ?_).rw ?_
      · show L (k + 1) a (i : Int) = _
        rw [h1 k a i hi', wrap_id (x := w l[i]) (by omega) (by omega), wrap_id (by omega) (by omega)]
      · rw [List.drop_eq_getElem_cons hi']
        simp only [sumB]
        rw [Int.add_assoc]
  have := key l.length 0 a (by omega) ha (by omega)
  simpa using this
def cntB (f : tFuncD) : Int := (f.1.length : Int) + sumB (fun x : tBlockD => ((x.1.length : Nat) : Int) + ((x.2.1.length : Nat) : Int)) f.2.2.1
theorem blk_small {f : tFuncD} (h : Small tFunc f) : ∀ x ∈ f.2.2.1, x.1.length ≤ 1048576 ∧ x.2.1.length ≤ 1048576 := fun x hx => by
  have := h.2.2.1.2 x hx
  exact ⟨this.1.1, this.2.1.1⟩
theorem cntB_le {f : tFuncD} (h : Small tFunc f) : 0 ≤ cntB f ∧ cntB f ≤ 1048576 + 1048576 * 2097152 := by
  have h1 : f.1.length ≤ 1048576 := h.1.1
  have h2 : f.2.2.1.length ≤ 1048576 := h.2.2.1.1
  have := sumB_le (w := fun x : tBlockD => ((x.1.length : Nat) : Int) + ((x.2.1.length : Nat) : Int)) (m := 2097152) (l := f.2.2.1) fun x hx => by
    have := blk_small h x hx
    omega
  unfold cntB
  omega
theorem specCount {f : tFuncD} (h : Small tFunc f) : Ev (fun k => spec_CountOf.f k f) (one (cntB f)) := by
  have h1 : f.1.length ≤ 1048576 := h.1.1
  exact acc_ev (L := fun k a i => spec_CountOf.l0 k a i f) (l := f.2.2.1) (w := fun x : tBlockD => ((x.1.length : Nat) : Int) + ((x.2.1.length : Nat) : Int)) (fun x hx => by have := blk_small h x hx; omega) h.2.2.1.1 (fun k a i hi => by
      show spec_CountOf.l0_ k (spec_CountOf.l0 k) a i f = _
      unfold spec_CountOf.l0_
      have hlen : f.2.2.1.length ≤ 1048576 := h.2.2.1.1
      simp only [head_in hi, head_0, Bool.and_self, cond_true, get_in hi, wrap_nat (show i < 9223372036854775807 by omega)]) (fun k a => by
      show spec_CountOf.l0_ k (spec_CountOf.l0 k) a _ f = _
      unfold spec_CountOf.l0_
      simp only [head_end, cond_false]) (by omega) (by omega)
theorem implCount {f : tFuncD} (h : Small tFunc f) : Ev (fun k => impl_CountOf.f k f) (one (cntB f)) := by
  have h1 : f.1.length ≤ 1048576 := h.1.1
  exact acc_ev (L := fun k a i => impl_CountOf.l0 k a f.2.2.1 ((List.length f.2.2.1 : Nat) : Int) i) (l := f.2.2.1) (w := fun x : tBlockD => ((x.1.length : Nat) : Int) + ((x.2.1.length : Nat) : Int)) (fun x hx => by have := blk_small h x hx; omega) h.2.2.1.1 (fun k a i hi => by
      show impl_CountOf.l0_ k (impl_CountOf.l0 k) a f.2.2.1 _ i = _
      unfold impl_CountOf.l0_
      have hlen : f.2.2.1.length ≤ 1048576 := h.2.2.1.1
      simp only [head_in hi, head_0, Bool.and_self, cond_true, get_in hi, wrap_nat (show i < 9223372036854775807 by omega)]) (fun k a => by
      show impl_CountOf.l0_ k (impl_CountOf.l0 k) a f.2.2.1 _ _ = _
      unfold impl_CountOf.l0_
      simp only [head_end, cond_false]) (by omega) (by omega)
/-! ### functions -/
def phiB (count : Int) (p : tPhiD) : Bool := wOk p.1 && decide (p.2.1.length ≤ 10) && p.2.1.all (inB 0 (count - 1))
def blockB (count funcs blocks : Int) (b : tBlockD) : Bool := b.1.all (phiB count) && b.2.1.all (instB count funcs) && termB count blocks b.2.2
def funcB (funcs : Int) (f : tFuncD) : Bool :=
  decide (f.1.length ≤ 4) && wOk f.2.1 && inB 1 10 (f.2.2.1.length : Int) && decide (cntB f ≤ 60) && f.1.all wOk && f.2.2.1.all (blockB (cntB f) funcs (f.2.2.1.length : Int))
section
variable {f : tFuncD} {funcs count blocks : Int}
theorem specFunc4 {x : tBlockD} (hx : Small tBlock x) (h0 : 0 ≤ count) (h1 : count ≤ 9223372036854775807) (h2 : 0 ≤ funcs) (h3 : funcs ≤ 9223372036854775807) (h4 : 0 ≤ blocks) (h5 : blocks ≤ 9223372036854775807) {j : Nat} (hj : j < 9223372036854775807) {r : Bool}
    (hr : Ev (fun k => spec_l2Func.l1 k funcs count blocks ((j + 1 : Nat) : Int) f) (one r)) : Ev (fun k => spec_l2Func.l4 k funcs count blocks j 0 f x) (one (x.2.1.all (instB count funcs) && (termB count blocks x.2.2 && r))) := by
  have hs := hx.2.1
  refine each_ev (z := tInstZ) (l := x.2.1) (L := fun k a => spec_l2Func.l4 k funcs count blocks j a f x) (V := fun m => one (m.all (instB count funcs) && (termB count blocks x.2.2 && r))) (q := fun k y g => Option.bind (spec_l2Inst.f k y count funcs) fun r1 => bif !r1.1.1.1 then some (((false, ()), ()), ()) else g k)
    (by have := hs.1; show List.length (α := tInstD) x.2.1 ≤ _; have : List.length (α := tInstD) x.2.1 ≤ 1048576 := this; omega) (fun k a => rfl) ?_ ?_
  · refine Ev.bind (Ev.all fun k => specTerm k x.2.2 h0 h1 h4 h5) ?_
    rw [wrap_nat hj, List.all_nil, Bool.true_and]
    exact ev_and hr
  · intro y m g hy hg
    refine Ev.bind (specInst (i := y) ((hs.2 y hy).2.2.2.2.2.2.1.1) h0 h1 h2 h3) ?_
    rw [List.all_cons, Bool.and_assoc]
    exact ev_and hg
theorem specFunc2 {x : tBlockD} (hx : Small tBlock x) (h0 : 0 ≤ count) (h1 : count ≤ 9223372036854775807) (h2 : 0 ≤ funcs) (h3 : funcs ≤ 9223372036854775807) (h4 : 0 ≤ blocks) (h5 : blocks ≤ 9223372036854775807) {j : Nat} (hj : j < 9223372036854775807) {r : Bool}
    (hr : Ev (fun k => spec_l2Func.l1 k funcs count blocks ((j + 1 : Nat) : Int) f) (one r)) : Ev (fun k => spec_l2Func.l2 k funcs count blocks j 0 f x) (one (blockB count funcs blocks x && r)) := by
  have hs := hx.1
  have hlen : x.1.length ≤ 1048576 := hs.1
  have tail := specFunc4 (f := f) hx h0 h1 h2 h3 h4 h5 hj hr
  have key := Ev.down (G := fun i k => spec_l2Func.l2 k funcs count blocks j (i : Int) f x) (V := fun i => one ((x.1.drop i).all (phiB count) && (x.2.1.all (instB count funcs) && (termB count blocks x.2.2 && r)))) x.1.length ?_ ?_ 0 (Nat.zero_le _)
  · refine key.rw ?_
    unfold blockB
    rw [List.drop_zero, Bool.and_assoc, Bool.and_assoc]
  · rw [List.drop_length]
    refine tail.step fun k => ?_
    show spec_l2Func.l2_ k (spec_l2Func.l0 k) (spec_l2Func.l1 k) (spec_l2Func.l2 k) (spec_l2Func.l3 k) (spec_l2Func.l4 k) funcs count blocks j _ f x = _
    unfold spec_l2Func.l2_
    simp only [head_end, cond_false]
  · intro i hi ih
    have hp := hs.2 x.1[i] (List.getElem_mem hi)
    have hpl : x.1[i].2.1.length ≤ 1048576 := hp.2.1.1
    -- the inner loop
    have inner := Ev.down (G := fun q k => spec_l2Func.l3 k funcs count blocks j i (q : Int) f x) (V := fun q => one ((x.1[i].2.1.drop q).all (inB 0 (count - 1)) && ((x.1.drop (i + 1)).all (phiB count) && (x.2.1.all (instB count funcs) && (termB count blocks x.2.2 && r))))) x.1[i].2.1.length ?_ ?_ 0 (Nat.zero_le _)
    · rw [List.drop_eq_getElem_cons hi, List.all_cons]
      refine Ev.step (g' := fun k => Option.bind (spec_WidthOk.f k x.1[i].1) fun r1 => bif !r1.1.1.1 then some (((false, ()), ()), ()) else bif decide (10 < ((List.length x.1[i].2.1 : Nat) : Int)) then some (((false, ()), ()), ()) else spec_l2Func.l3 k funcs count blocks j i 0 f x) ?_ fun k => ?_
      · refine Ev.bind (Ev.all fun k => specW k _) ?_
        have e1 : ∀ R, (phiB count x.1[i] && R) = (wOk x.1[i].1 && (!decide (10 < ((List.length x.1[i].2.1 : Nat) : Int)) && (x.1[i].2.1.all (inB 0 (count - 1)) && R))) := fun R => by
          have e : decide (x.1[i].2.1.length ≤ 10) = !decide (10 < ((List.length x.1[i].2.1 : Nat) : Int)) := by
            by_cases h : 10 < ((List.length x.1[i].2.1 : Nat) : Int)
            · rw [dpos h, dneg (by omega)]; rfl
            · rw [dneg h, dpos (by omega)]; rfl
          unfold phiB
          rw [e, Bool.and_assoc, Bool.and_assoc]
        rw [Bool.and_assoc, e1]
        refine ev_and ?_
        exact ev_and' inner
      · show spec_l2Func.l2_ k (spec_l2Func.l0 k) (spec_l2Func.l1 k) (spec_l2Func.l2 k) (spec_l2Func.l3 k) (spec_l2Func.l4 k) funcs count blocks j _ f x = _
        unfold spec_l2Func.l2_
        simp only [head_in hi, head_0, Bool.and_self, cond_true, get_in hi]
    · rw [List.drop_length, List.all_nil, Bool.true_and]
      refine ih.step fun k => ?_
      show spec_l2Func.l3_ k (spec_l2Func.l0 k) (spec_l2Func.l1 k) (spec_l2Func.l2 k) (spec_l2Func.l3 k) (spec_l2Func.l4 k) funcs count blocks j _ _ f x = _
      unfold spec_l2Func.l3_
      simp only [head_in hi, head_0, Bool.and_self, cond_true, get_in hi, head_end, cond_false, wrap_nat (show i < 9223372036854775807 by omega)]
    · intro q hq ihq
      rw [List.drop_eq_getElem_cons hq, List.all_cons, Bool.and_assoc]
      refine Ev.step (g' := fun k => Option.bind (spec_l1In.f k x.1[i].2.1[q] 0 (IntKind.wrap .i64 (count - 1))) fun r1 => bif !r1.1.1.1 then some (((false, ()), ()), ()) else spec_l2Func.l3 k funcs count blocks j i ((q + 1 : Nat) : Int) f x) ?_ fun k => ?_
      · rw [wrap_id (by omega) (by omega)]
        exact Ev.bind (Ev.all fun k => specIn k _ _ _) (ev_and ihq)
      · show spec_l2Func.l3_ k (spec_l2Func.l0 k) (spec_l2Func.l1 k) (spec_l2Func.l2 k) (spec_l2Func.l3 k) (spec_l2Func.l4 k) funcs count blocks j _ _ f x = _
        unfold spec_l2Func.l3_
        simp only [head_in hi, head_0, Bool.and_self, cond_true, get_in hi, head_in hq, get_in hq, wrap_nat (show q < 9223372036854775807 by omega)]
theorem specFunc1 (hf : Small tFunc f) (h0 : 0 ≤ count) (h1 : count ≤ 9223372036854775807) (h2 : 0 ≤ funcs) (h3 : funcs ≤ 9223372036854775807) (h4 : 0 ≤ blocks) (h5 : blocks ≤ 9223372036854775807) : Ev (fun k => spec_l2Func.l1 k funcs count blocks 0 f) (one (f.2.2.1.all (blockB count funcs blocks))) := by
  have hs := hf.2.2.1
  have hlen : f.2.2.1.length ≤ 1048576 := hs.1
  have key := Ev.down (G := fun i k => spec_l2Func.l1 k funcs count blocks (i : Int) f) (V := fun i => one ((f.2.2.1.drop i).all (blockB count funcs blocks))) f.2.2.1.length ?_ ?_ 0 (Nat.zero_le _)
  · exact key
  · rw [List.drop_length]
    refine Ev.step (g' := fun _ => some (one true)) (Ev.cst rfl) fun k => ?_
    show spec_l2Func.l1_ k (spec_l2Func.l0 k) (spec_l2Func.l1 k) (spec_l2Func.l2 k) (spec_l2Func.l3 k) (spec_l2Func.l4 k) funcs count blocks _ f = _
    unfold spec_l2Func.l1_
    simp only [head_end, cond_false]
  · intro i hi ih
    rw [List.drop_eq_getElem_cons hi, List.all_cons]
    refine (specFunc2 (f := f) (x := f.2.2.1[i]) (hs.2 _ (List.getElem_mem hi)) h0 h1 h2 h3 h4 h5 (show i < 9223372036854775807 by omega) ih).step fun k => ?_
    show spec_l2Func.l1_ k (spec_l2Func.l0 k) (spec_l2Func.l1 k) (spec_l2Func.l2 k) (spec_l2Func.l3 k) (spec_l2Func.l4 k) funcs count blocks _ f = _
    unfold spec_l2Func.l1_
    simp only [head_in hi, head_0, Bool.and_self, cond_true, get_in hi]
theorem le_not {a b : Int} : decide (a ≤ b) = !decide (b < a) := by
  by_cases h : b < a
  · rw [dpos h, dneg (by omega)]; rfl
  · rw [dneg h, dpos (by omega)]; rfl
theorem len_not {n m : Nat} : decide (n ≤ m) = !decide ((m : Int) < (n : Int)) := by
  by_cases h : (m : Int) < (n : Int)
  · rw [dpos h, dneg (by omega)]; rfl
  · rw [dneg h, dpos (by omega)]; rfl
theorem specFunc (hf : Small tFunc f) (h2 : 0 ≤ funcs) (h3 : funcs ≤ 9223372036854775807) : Ev (fun k => spec_l2Func.f k f funcs) (one (funcB funcs f)) := by
  have hs := hf.2.2.1
  have hlen : f.2.2.1.length ≤ 1048576 := hs.1
  have hpl : f.1.length ≤ 1048576 := hf.1.1
  obtain ⟨c0, c1⟩ := cntB_le hf
  unfold spec_l2Func.f funcB
  simp only [Bool.and_assoc]
  refine Ev.bind (specCount hf) ?_
  rw [len_not]
  refine ev_and' (Ev.bind (Ev.all fun k => specW k _) (ev_and (Ev.bind (Ev.all fun k => specIn k _ _ _) (ev_and ?_))))
  rw [le_not]
  refine ev_and' ?_
  exact each_ev (z := 0) (l := f.1) (L := fun k a => spec_l2Func.l0 k funcs (cntB f) (f.2.2.1.length : Int) a f) (V := fun m => one (m.all wOk && f.2.2.1.all (blockB (cntB f) funcs (f.2.2.1.length : Int)))) (q := fun k y g => Option.bind (spec_WidthOk.f k y) fun r1 => bif !r1.1.1.1 then some (((false, ()), ()), ()) else g k)
    (by omega) (fun k a => rfl) (specFunc1 hf c0 (by omega) h2 h3 (by omega) (by omega)) fun y m g hy hg => by
      refine Ev.bind (Ev.all fun k => specW k _) ?_
      rw [List.all_cons, Bool.and_assoc]
      exact ev_and hg
end
end Go.Proofs.Ytkfehogikjcgkaa.V
namespace Go.Proofs.Ytkfehogikjcgkaa.V
open Go
set_option linter.unusedVariables false
set_option linter.unusedSimpArgs false
theorem implWs {l : List Int} (h : l.length ≤ 1048576) : Ev (fun k => slices_ContainsFunc_int64_int64.f k l) (one (!l.all wOk)) := by
  rw [← any_not]
  exact index_ev (z := 0) (L := fun k b a => slices_IndexFunc_int64_int64.l0 k l b a) (q := fun k x => impl_isFunc_1.f k x) (by omega) (fun k b a => rfl) fun x _ => Ev.all fun k => by
    unfold impl_isFunc_1.f
    rw [implW]; rfl
theorem implIds {l : List Int} (h : l.length ≤ 1048576) {count : Int} (h0 : 0 ≤ count) (h1 : count ≤ 9223372036854775807) : Ev (fun k => slices_ContainsFunc_int64_int64_2.f k l count) (one (!l.all (inB 0 (count - 1)))) := by
  rw [← any_not]
  exact index_ev (z := 0) (L := fun k b a => slices_IndexFunc_int64_int64_2.l0 k l b a count) (q := fun k x => impl_isFunc_2_1.f k x count) (by omega) (fun k b a => rfl) fun x _ => Ev.all fun k => by
    unfold impl_isFunc_2_1.f
    rw [implIn, wrap_id (by omega) (by omega)]; rfl
theorem ev_nt {g : Nat → Option BR} {b c : Bool} (h : Ev g (one (!c))) : Ev (fun k => bif !b then some (one true) else g k) (one (!(b && c))) := by
  cases b with
  | true => exact Ev.neg rfl h
  | false => exact Ev.pos rfl (Ev.cst rfl)
theorem ev_nt' {g : Nat → Option BR} {b c : Bool} (h : Ev g (one (!c))) : Ev (fun k => bif b then some (one true) else g k) (one (!(!b && c))) := by
  cases b with
  | true => exact Ev.pos rfl (Ev.cst rfl)
  | false => exact Ev.neg rfl h
theorem implPhi {p : tPhiD} (hp : Small tPhi p) {count : Int} (h0 : 0 ≤ count) (h1 : count ≤ 9223372036854775807) : Ev (fun k => impl_isFunc_2.f k p count) (one (!phiB count p)) := by
  have hl : p.2.1.length ≤ 1048576 := hp.2.1.1
  unfold impl_isFunc_2.f phiB
  rw [Bool.and_assoc, len_not]
  exact Ev.bind (Ev.all fun k => implW k _) (ev_nt (ev_nt' (Ev.bind (implIds hl h0 h1) (Ev.cst rfl))))
theorem implPhis {l : List tPhiD} (hs : Small (.list tPhi) l) {count : Int} (h0 : 0 ≤ count) (h1 : count ≤ 9223372036854775807) : Ev (fun k => slices_ContainsFunc_impl_Phi_impl_Phi.f k l count) (one (!l.all (phiB count))) := by
  have hl : l.length ≤ 1048576 := hs.1
  rw [← any_not]
  exact index_ev (z := tPhiZ) (L := fun k b a => slices_IndexFunc_impl_Phi_impl_Phi.l0 k l b a count) (q := fun k x => impl_isFunc_2.f k x count) (by omega) (fun k b a => rfl) fun x hx => implPhi (hs.2 x hx) h0 h1
theorem implInsts {l : List tInstD} (hs : Small (.list tInst) l) {count funcs : Int} (h0 : 0 ≤ count) (h1 : count ≤ 9223372036854775807) (h2 : 0 ≤ funcs) (h3 : funcs ≤ 9223372036854775807) : Ev (fun k => slices_ContainsFunc_impl_Inst_impl_Inst.f k l count funcs) (one (!l.all (instB count funcs))) := by
  have hl : l.length ≤ 1048576 := hs.1
  rw [← any_not]
  refine index_ev (z := tInstZ) (L := fun k b a => slices_IndexFunc_impl_Inst_impl_Inst.l0 k l b a count funcs) (q := fun k x => impl_isFunc_3.f k x count funcs) (by omega) (fun k b a => rfl) fun x hx => ?_
  exact Ev.bind (implInst (i := x) ((hs.2 x hx).2.2.2.2.2.2.1.1) h0 h1 h2 h3) (Ev.cst rfl)
theorem implFunc {f : tFuncD} (hf : Small tFunc f) {funcs : Int} (h2 : 0 ≤ funcs) (h3 : funcs ≤ 9223372036854775807) : Ev (fun k => impl_isFunc.f k f funcs) (one (funcB funcs f)) := by
  have hs := hf.2.2.1
  have hlen : f.2.2.1.length ≤ 1048576 := hs.1
  have hpl : f.1.length ≤ 1048576 := hf.1.1
  obtain ⟨c0, c1⟩ := cntB_le hf
  have c1 : cntB f ≤ 9223372036854775807 := by omega
  have hord : funcB funcs f = (!decide (((4 : Nat) : Int) < ((f.1.length : Nat) : Int)) && (wOk f.2.1 && (inB 1 10 (f.2.2.1.length : Int) && (f.1.all wOk && (!decide (60 < cntB f) && f.2.2.1.all (blockB (cntB f) funcs (f.2.2.1.length : Int))))))) := by
    unfold funcB
    rw [len_not, le_not]
    generalize decide (((4 : Nat) : Int) < ((f.1.length : Nat) : Int)) = a
    generalize decide (60 < cntB f) = b
    generalize f.1.all wOk = c
    cases a <;> cases b <;> cases c <;> simp [Bool.and_assoc]
  rw [hord]
  unfold impl_isFunc.f
  refine ev_and' (Ev.bind (Ev.all fun k => implW k _) (ev_and (Ev.bind (Ev.all fun k => implIn k _ _ _) (ev_and (Ev.bind (implWs hpl) ?_)))))
  have inner : Ev (fun k => Option.bind (impl_CountOf.f k f) fun r4 => bif decide (60 < r4.1.1.1) then some (((false, ()), ()), ()) else impl_isFunc.l0 k f.2.2.1 ((List.length f.2.2.1 : Nat) : Int) 0 f funcs r4.1.1.1) (one (!decide (60 < cntB f) && f.2.2.1.all (blockB (cntB f) funcs (f.2.2.1.length : Int)))) := by
    refine Ev.bind (implCount hf) (ev_and' ?_)
    refine each_ev (z := tBlockZ) (l := f.2.2.1) (L := fun k a => impl_isFunc.l0 k f.2.2.1 ((List.length f.2.2.1 : Nat) : Int) a f funcs (cntB f)) (V := fun m => one (m.all (blockB (cntB f) funcs (f.2.2.1.length : Int))))
      (q := fun k x g => Option.bind (slices_ContainsFunc_impl_Phi_impl_Phi.f k x.1 (cntB f)) fun r1 => bif r1.1.1.1 then some (((false, ()), ()), ()) else Option.bind (slices_ContainsFunc_impl_Inst_impl_Inst.f k x.2.1 (cntB f) funcs) fun r2 => bif r2.1.1.1 then some (((false, ()), ()), ()) else Option.bind (impl_isTerm.f k f x.2.2 (cntB f)) fun r3 => bif !r3.1.1.1 then some (((false, ()), ()), ()) else g k)
      (by omega) (fun k a => rfl) (Ev.cst rfl) fun x m g hx hg => ?_
    have hx' := hs.2 x hx
    have hb : (blockB (cntB f) funcs (f.2.2.1.length : Int) x && m.all (blockB (cntB f) funcs (f.2.2.1.length : Int))) = (!(!x.1.all (phiB (cntB f))) && (!(!x.2.1.all (instB (cntB f) funcs)) && (termB (cntB f) (f.2.2.1.length : Int) x.2.2 && m.all (blockB (cntB f) funcs (f.2.2.1.length : Int))))) := by
      have e : blockB (cntB f) funcs (f.2.2.1.length : Int) x = (x.1.all (phiB (cntB f)) && x.2.1.all (instB (cntB f) funcs) && termB (cntB f) (f.2.2.1.length : Int) x.2.2) := rfl
      rw [e, Bool.not_not, Bool.not_not, Bool.and_assoc, Bool.and_assoc]
    rw [List.all_cons, hb]
    exact Ev.bind (implPhis hx'.1 c0 c1) (ev_and' (Ev.bind (implInsts hx'.2.1 c0 c1 h2 h3) (ev_and' (Ev.bind (Ev.all fun k => implTerm k x.2.2 hlen c0 c1) (ev_and hg)))))
  have := ev_and' (b := !f.1.all wOk) inner
  rw [Bool.not_not] at this
  exact this
end Go.Proofs.Ytkfehogikjcgkaa.V
namespace Go.Proofs.Ytkfehogikjcgkaa.V
open Go
set_option linter.unusedVariables false
set_option linter.unusedSimpArgs false
theorem Ev.dp {R : Type} {p : Prop} [Decidable p] {f g : Nat → Option R} {r : R} (h : p) (e : Ev f r) : Ev (fun k => bif decide p then f k else g k) r := Ev.pos (dpos h) e
theorem Ev.dn {R : Type} {p : Prop} [Decidable p] {f g : Nat → Option R} {r : R} (h : ¬ p) (e : Ev g r) : Ev (fun k => bif decide p then f k else g k) r := Ev.neg (dneg h) e
theorem Ev.dd {R : Type} {p q : Prop} [Decidable p] [Decidable q] {f g : Nat → Option R} {r : R} (h : p) (h' : q) (e : Ev f r) : Ev (fun k => bif decide p && decide q then f k else g k) r := Ev.pos (by rw [dpos h, dpos h']; rfl) e
theorem Ev.succ {R : Type} {g : Nat → Option R} {r : R} (h : Ev (fun k => g (k + 1)) r) : Ev g r := Ev.step h fun _ => rfl
/-- The places that are marked, from i on. -/
def idx : List Bool → Int → List Int
  | [], _ => []
  | x :: l, i => if x = true then i :: idx l (i + 1) else idx l (i + 1)
theorem idx_ge : ∀ (l : List Bool) (i n : Int), n ∈ idx l i → i ≤ n
  | [], i, n, h => by simp [idx] at h
  | x :: l, i, n, h => by
    simp only [idx] at h
    split at h
    · rcases List.mem_cons.1 h with rfl | h
      · omega
      · have := idx_ge l (i + 1) n h; omega
    · have := idx_ge l (i + 1) n h; omega
theorem mem_idx : ∀ (l : List Bool) (i : Int) (b : Nat), (i + b) ∈ idx l i ↔ l.getD b false = true
  | [], i, b => by simp [idx]
  | x :: l, i, 0 => by
    simp only [idx]
    have hn : ¬ (i ∈ idx l (i + 1)) := fun h => by have := idx_ge _ _ _ h; omega
    by_cases hx : x = true
    · simp [hx]
    · rw [if_neg hx]
      simp only [Int.natCast_zero, Int.add_zero, List.getD_cons_zero]
      exact ⟨fun h => absurd h hn, fun h => absurd h hx⟩
  | x :: l, i, b + 1 => by
    have ih := mem_idx l (i + 1) b
    rw [show i + 1 + (b : Int) = i + ((b + 1 : Nat) : Int) by push_cast; omega] at ih
    simp only [idx, List.getD_cons_succ]
    split
    · rw [List.mem_cons, ih]
      exact ⟨fun h => h.elim (fun h => by exfalso; push_cast at h; omega) id, .inr⟩
    · exact ih
theorem mem_idx0 (l : List Bool) (b : Int) (h : 0 ≤ b) : b ∈ idx l 0 ↔ l.getD b.toNat false = true := by
  have := mem_idx l 0 b.toNat
  rw [show (0 : Int) + (b.toNat : Int) = b by omega] at this
  exact this
theorem idx_length : ∀ (l : List Bool) (i : Int), (idx l i).length ≤ l.length
  | [], i => by simp [idx]
  | x :: l, i => by
    have := idx_length l (i + 1)
    simp only [idx]
    split <;> simp <;> omega
/-- A number put into a list of numbers that rise. -/
def putI (n : Int) : List Int → List Int
  | [] => [n]
  | x :: l => if x < n then x :: putI n l else n :: x :: l
theorem putI_ge (n : Int) : ∀ (l : List Int), (∀ x ∈ l, n ≤ x) → putI n l = n :: l
  | [], _ => rfl
  | x :: l, h => by simp only [putI]; rw [if_neg (by have := h x (by simp); omega)]
theorem idx_set : ∀ (l : List Bool) (i : Int) (b : Nat), b < l.length → l.getD b false = false → idx (l.set b true) i = putI (i + b) (idx l i)
  | [], i, b, h, _ => by simp at h
  | x :: l, i, 0, h, hx => by
    simp only [List.getD_cons_zero] at hx
    subst hx
    simp only [List.set_cons_zero, idx, if_true, Int.natCast_zero, Int.add_zero]
    rw [if_neg (by decide), putI_ge]
    intro y hy
    have := idx_ge _ _ _ hy; omega
  | x :: l, i, b + 1, h, hx => by
    have ih := idx_set l (i + 1) b (by simpa using h) (by simpa using hx)
    rw [show i + 1 + (b : Int) = i + ((b + 1 : Nat) : Int) by push_cast; omega] at ih
    simp only [List.set_cons_succ, idx, ih]
    split
    · simp only [putI]; rw [if_pos (by push_cast; omega)]
    · rfl
def smI (l : List Int) : Prop := l.length ≤ 1048576
theorem smI_small {l : List Int} (h : l.length ≤ 200) : smI l := Nat.le_trans h (by decide)
theorem has_ev (l : List Int) (n : Int) (h : smI l) : Ev (fun k => spec_l1Has.f k l n) (one (decide (n ∈ l))) := by
  have h' : l.length ≤ 1048576 := h
  refine each_ev (z := 0) (L := fun k a => spec_l1Has.l0 k l n a) (V := fun m => one (decide (n ∈ m))) (q := fun k x g => bif decide (x = n) then some (((true, ()), ()), ()) else g k) (by omega) (fun k a => rfl) (Ev.cst (by simp)) fun x m g hx hg => ?_
  by_cases c : x = n
  · exact Ev.dp c (Ev.cst (by simp [c]))
  · refine Ev.dn c (hg.rw ?_)
    congr 1
    simp [Ne.symm c]
theorem put_l (l : List Int) (n : Int) (h : smI l) (hn : n ∉ l) : ∀ (d i : Nat), i + d = l.length → Ev (fun k => spec_l1Put.l0 k l n i) (one (l.take i ++ putI n (l.drop i))) := by
  have h' : l.length ≤ 1048576 := h
  intro d
  induction d with
  | zero =>
    intro i hi
    obtain rfl : i = l.length := by omega
    refine Ev.step (g' := fun k => some (one (l ++ [n]))) (Ev.cst ?_) fun k => ?_
    · rw [List.drop_of_length_le (Nat.le_refl _), List.take_of_length_le (Nat.le_refl _)]; rfl
    · show spec_l1Put.l0_ k (spec_l1Put.l0 k) l n _ = _
      unfold spec_l1Put.l0_
      simp only [head_end, head_0, cond_false, cond_true, Bool.and_self, Int.toNat_natCast, List.nil_append, List.length_nil, List.take_length, List.drop_length, List.append_nil]
      rw [dpos (show (0 : Nat) ≤ 0 by omega), dpos (show (l.length : Int) ≤ (l.length : Int) by omega), dpos (show (0 + l.length) * 8 ≤ 140737488355328 by omega), dpos (show (l.length + [n].length) * 8 ≤ 140737488355328 by simp; omega), dpos (show ((l ++ [n]).length + 0) * 8 ≤ 140737488355328 by simp; omega)]
      rfl
  | succ d ih =>
    intro i hi
    have hlt : i < l.length := by omega
    have hm : (List.take i l).length = i := by rw [List.length_take]; omega
    by_cases c : l[i] < n
    · refine (Ev.step (ih (i + 1) (by omega)) fun k => ?_).rw ?_
      · show spec_l1Put.l0_ k (spec_l1Put.l0 k) l n _ = _
        unfold spec_l1Put.l0_
        simp only [head_in hlt, head_0, Bool.and_self, cond_true, get_in hlt, dpos c, wrap_nat (show i < 9223372036854775807 by omega)]
      · rw [List.drop_eq_getElem_cons hlt, List.take_succ_eq_append_getElem hlt]
        simp only [putI]
        rw [if_pos c, List.append_assoc]; rfl
    · have hne : ¬ l[i] = n := fun e => hn (e ▸ List.getElem_mem hlt)
      refine Ev.step (g' := fun k => some (one ((l.take i ++ [n]) ++ l.drop i))) (Ev.cst ?_) fun k => ?_
      · have e : putI n (l.drop i) = n :: l.drop i := by
          rw [List.drop_eq_getElem_cons hlt]
          simp only [putI]
          rw [if_neg c]
        rw [e, List.append_assoc]; rfl
      · show spec_l1Put.l0_ k (spec_l1Put.l0 k) l n _ = _
        unfold spec_l1Put.l0_
        simp only [head_in hlt, head_0, Bool.and_self, cond_true, cond_false, get_in hlt, dneg c, dneg hne]
        simp only [Int.toNat_natCast, List.nil_append, List.length_nil, hm]
        rw [dpos (show (0 : Nat) ≤ 0 by omega), dpos (show (i : Int) ≤ (l.length : Int) by omega), dpos (show (0 + i) * 8 ≤ 140737488355328 by omega), dpos (show (i + [n].length) * 8 ≤ 140737488355328 by simp; omega), dpos (show ((l.take i ++ [n]).length + (l.drop i).length) * 8 ≤ 140737488355328 by simp; omega)]
        rfl
theorem put_ev (l : List Int) (n : Int) (h : smI l) (hn : n ∉ l) : Ev (fun k => spec_l1Put.f k l n) (one (putI n l)) := by
  have := put_l l n h hn l.length 0 (by omega)
  rw [List.drop_zero, List.take_zero, List.nil_append] at this
  exact this
end Go.Proofs.Ytkfehogikjcgkaa.V
namespace Go.Proofs.Ytkfehogikjcgkaa.V
open Go
set_option linter.unusedVariables false
set_option linter.unusedSimpArgs false
abbrev IIR := (((Int × Unit) × (Int × Unit) × Unit) × Unit)
abbrev two (p : Int × Int) : IIR := (((p.1, ()), (p.2, ()), ()), ())
structure Fm (funcs : Int) (f : tFuncD) : Prop where
  p4 : f.1.length ≤ 4
  b1 : 1 ≤ f.2.2.1.length
  b10 : f.2.2.1.length ≤ 10
  cnt : cntB f ≤ 60
  pw : ∀ w ∈ f.1, wOk w = true
  ph : ∀ x ∈ f.2.2.1, ∀ p ∈ x.1, phiB (cntB f) p = true
  ins : ∀ x ∈ f.2.2.1, ∀ i ∈ x.2.1, instB (cntB f) funcs i = true
  tm : ∀ x ∈ f.2.2.1, termB (cntB f) (f.2.2.1.length : Int) x.2.2 = true
theorem inB_iff {lo hi x : Int} : inB lo hi x = true ↔ lo ≤ x ∧ x ≤ hi := by simp [inB]
theorem Fm.of {funcs : Int} {f : tFuncD} (h : funcB funcs f = true) : Fm funcs f := by
  simp only [funcB, Bool.and_eq_true, decide_eq_true_eq, List.all_eq_true, inB_iff, blockB] at h
  obtain ⟨⟨⟨⟨⟨h1, h2⟩, h3⟩, h4⟩, h5⟩, h6⟩ := h
  exact ⟨h1, by omega, by omega, h4, h5, fun x hx => (h6 x hx).1.1, fun x hx => (h6 x hx).1.2, fun x hx => (h6 x hx).2⟩
/-- How many ids a block gives. -/
def wB (x : tBlockD) : Int := ((x.1.length : Nat) : Int) + ((x.2.1.length : Nat) : Int)
theorem wB_nonneg (x : tBlockD) : 0 ≤ wB x := by unfold wB; omega
theorem cntB_eq (f : tFuncD) : cntB f = (f.1.length : Int) + sumB wB f.2.2.1 := rfl
theorem sumB_nonneg {α : Type} {w : α → Int} : ∀ {l : List α}, (∀ x ∈ l, 0 ≤ w x) → 0 ≤ sumB w l
  | [], _ => Int.le_refl _
  | x :: l, h => by
    have := h x (by simp)
    have := sumB_nonneg (l := l) fun y hy => h y (by simp [hy])
    simp only [sumB]; omega
theorem le_sumB {α : Type} {w : α → Int} {l : List α} (h : ∀ x ∈ l, 0 ≤ w x) {x : α} (hx : x ∈ l) : w x ≤ sumB w l := by
  induction l with
  | nil => cases hx
  | cons y l ih =>
    have hn := sumB_nonneg (l := l) fun z hz => h z (by simp [hz])
    simp only [sumB]
    rcases List.mem_cons.1 hx with rfl | hx
    · omega
    · have := ih (fun z hz => h z (by simp [hz])) hx
      have := h y (by simp)
      omega
theorem sumB_drop {α : Type} (w : α → Int) (l : List α) (i : Nat) (h : i < l.length) : sumB w (l.drop i) = w l[i] + sumB w (l.drop (i + 1)) := by
  rw [List.drop_eq_getElem_cons h]; rfl
theorem Fm.w60 {funcs : Int} {f : tFuncD} (h : Fm funcs f) {x : tBlockD} (hx : x ∈ f.2.2.1) : wB x ≤ 60 := by
  have := le_sumB (w := wB) (fun y _ => wB_nonneg y) hx
  have := h.cnt
  rw [cntB_eq] at this
  omega
theorem Fm.phis {funcs : Int} {f : tFuncD} (h : Fm funcs f) {x : tBlockD} (hx : x ∈ f.2.2.1) : x.1.length ≤ 60 ∧ x.2.1.length ≤ 60 := by
  have := h.w60 hx
  unfold wB at this
  omega
/-- The place of an id that is counted from block b on. -/
def placeL : List tBlockD → Nat → Int → Int × Int
  | [], _, _ => (-2, 0)
  | x :: l, b, id => if id < wB x then ((b : Int), id) else placeL l (b + 1) (id - wB x)
def placeOf (f : tFuncD) (id : Int) : Int × Int := if id < (f.1.length : Int) then (-1, id) else placeL f.2.2.1 0 (id - (f.1.length : Int))
theorem placeL_in : ∀ (l : List tBlockD) (b : Nat) (id : Int), 0 ≤ id → id < sumB wB l → ∃ j : Nat, ∃ h : j < l.length, placeL l b id = (((b + j : Nat) : Int), id - sumB wB (l.take j)) ∧ 0 ≤ id - sumB wB (l.take j) ∧ id - sumB wB (l.take j) < wB l[j]
  | [], _, id, h0, h => by simp [sumB] at h; omega
  | x :: l, b, id, h0, h => by
    simp only [sumB] at h
    unfold placeL
    by_cases c : id < wB x
    · exact ⟨0, by simp, by rw [if_pos c]; simp [sumB], by simpa [sumB] using h0, by simpa [sumB] using c⟩
    · obtain ⟨j, hj, e, a, b'⟩ := placeL_in l (b + 1) (id - wB x) (by omega) (by omega)
      refine ⟨j + 1, by simpa using hj, ?_, ?_, ?_⟩
      · rw [if_neg c, e]
        simp only [List.take_succ_cons, sumB]
        refine Prod.ext ?_ ?_
        · show ((b + 1 + j : Nat) : Int) = ((b + (j + 1) : Nat) : Int); omega
        · show _ = _; omega
      · simp only [List.take_succ_cons, sumB]; omega
      · simp only [List.take_succ_cons, sumB, List.getElem_cons_succ]; omega
section
variable {funcs : Int} {f : tFuncD}
/-- Where an id stands. -/
theorem place_cases (id : Int) (h0 : 0 ≤ id) (h1 : id < cntB f) : (id < (f.1.length : Int) ∧ placeOf f id = (-1, id)) ∨ ((f.1.length : Int) ≤ id ∧ ∃ j : Nat, ∃ hj : j < f.2.2.1.length, placeOf f id = ((j : Int), id - (f.1.length : Int) - sumB wB (f.2.2.1.take j)) ∧ 0 ≤ id - (f.1.length : Int) - sumB wB (f.2.2.1.take j) ∧ id - (f.1.length : Int) - sumB wB (f.2.2.1.take j) < wB f.2.2.1[j]) := by
  rw [cntB_eq] at h1
  unfold placeOf
  by_cases c : id < (f.1.length : Int)
  · exact .inl ⟨c, if_pos c⟩
  · obtain ⟨j, hj, e, a, b⟩ := placeL_in f.2.2.1 0 (id - (f.1.length : Int)) (by omega) (by omega)
    refine .inr ⟨by omega, j, hj, ?_, a, b⟩
    rw [if_neg c, e, Nat.zero_add]
theorem blk_wrap {x : tBlockD} (h : wB x ≤ 60) : IntKind.wrap .i64 (((List.length x.1 : Nat) : Int) + ((List.length x.2.1 : Nat) : Int)) = wB x := wrap_id (by omega) (by unfold wB at h; omega)
theorem specPlace_l (hf : Fm funcs f) : ∀ (d i : Nat) (id : Int), i + d = f.2.2.1.length → 0 ≤ id → id ≤ 100 → Ev (fun k => spec_l2Place.l0 k id i f) (two (placeL (f.2.2.1.drop i) i id)) := by
  intro d
  induction d with
  | zero =>
    intro i id hi h0 h1
    obtain rfl : i = f.2.2.1.length := by omega
    rw [List.drop_length]
    refine Ev.step (g' := fun _ => some (two (-2, 0))) (Ev.cst rfl) fun k => ?_
    show spec_l2Place.l0_ k (spec_l2Place.l0 k) id _ f = _
    unfold spec_l2Place.l0_
    simp only [head_end, cond_false]
  | succ d ih =>
    intro i id hi h0 h1
    have hlt : i < f.2.2.1.length := by omega
    have hb := hf.w60 (List.getElem_mem hlt)
    have hc := wB_nonneg f.2.2.1[i]
    have h10 := hf.b10
    rw [List.drop_eq_getElem_cons hlt]
    refine Ev.succ ?_
    show Ev (fun k => spec_l2Place.l0_ k (spec_l2Place.l0 k) id _ f) _
    unfold spec_l2Place.l0_ placeL
    simp only [head_in hlt, head_0, Bool.and_self, cond_true, get_in hlt, blk_wrap hb, wrap_nat (show i < 9223372036854775807 by omega)]
    by_cases c : id < wB f.2.2.1[i]
    · rw [if_pos c]
      exact Ev.dp c (Ev.cst rfl)
    · rw [if_neg c]
      refine Ev.dn c ?_
      rw [wrap_id (x := id - wB f.2.2.1[i]) (by omega) (by omega)]
      exact ih (i + 1) _ (by omega) (by omega) (by omega)
theorem specPlace (hf : Fm funcs f) {id : Int} (h0 : 0 ≤ id) (h1 : id < cntB f) : Ev (fun k => spec_l2Place.f k f id) (two (placeOf f id)) := by
  have h60 := hf.cnt
  have h4 := hf.p4
  unfold spec_l2Place.f placeOf
  refine Ev.dn (by omega) ?_
  by_cases c : id < (f.1.length : Int)
  · rw [if_pos c]; exact Ev.dp c (Ev.cst rfl)
  · rw [if_neg c]
    refine Ev.dn c ?_
    rw [wrap_id (by omega) (by omega)]
    exact specPlace_l hf f.2.2.1.length 0 _ (by omega) (by omega) (by omega)
theorem implPlace_l (hf : Fm funcs f) (id : Int) (h1 : id ≤ 100) : ∀ (d i : Nat) (n : Int), i + d = f.2.2.1.length → 0 ≤ n → n ≤ id → Ev (fun k => impl_PlaceOf.l0 k id n f.2.2.1 ((List.length f.2.2.1 : Nat) : Int) i) (two (placeL (f.2.2.1.drop i) i (id - n))) := by
  intro d
  induction d with
  | zero =>
    intro i n hi h0 hn
    obtain rfl : i = f.2.2.1.length := by omega
    rw [List.drop_length]
    refine Ev.step (g' := fun _ => some (two (-2, 0))) (Ev.cst rfl) fun k => ?_
    show impl_PlaceOf.l0_ k (impl_PlaceOf.l0 k) id n _ _ _ = _
    unfold impl_PlaceOf.l0_
    simp only [head_end, cond_false]
  | succ d ih =>
    intro i n hi h0 hn
    have hlt : i < f.2.2.1.length := by omega
    have hb := hf.w60 (List.getElem_mem hlt)
    have hc := wB_nonneg f.2.2.1[i]
    have h10 := hf.b10
    rw [List.drop_eq_getElem_cons hlt]
    refine Ev.succ ?_
    show Ev (fun k => impl_PlaceOf.l0_ k (impl_PlaceOf.l0 k) id n _ _ _) _
    unfold impl_PlaceOf.l0_ placeL
    simp only [head_in hlt, head_0, Bool.and_self, cond_true, get_in hlt, blk_wrap hb, wrap_nat (show i < 9223372036854775807 by omega), wrap_id (x := n + wB f.2.2.1[i]) (by omega) (by omega), wrap_id (x := id - n) (by omega) (by omega)]
    by_cases c : id < n + wB f.2.2.1[i]
    · rw [if_pos (show id - n < wB f.2.2.1[i] by omega)]
      exact Ev.dp c (Ev.cst rfl)
    · rw [if_neg (show ¬ id - n < wB f.2.2.1[i] by omega)]
      refine Ev.dn c ?_
      rw [show id - n - wB f.2.2.1[i] = id - (n + wB f.2.2.1[i]) by omega]
      exact ih (i + 1) _ (by omega) (by omega) (by omega)
theorem implIsId (hs : Small tFunc f) {id : Int} (h0 : 0 ≤ id) (h1 : id < cntB f) : Ev (fun k => impl_isId.f k f id) (one true) := by
  obtain ⟨c0, c1⟩ := cntB_le hs
  refine Ev.bind (implCount hs) (Ev.bind (Ev.all fun k => implIn k _ _ _) (Ev.cst ?_))
  rw [show IntKind.wrap .i64 ((one (cntB f)).1.1.1 - 1) = cntB f - 1 from wrap_id (by show -9223372036854775808 ≤ cntB f - 1; omega) (by show cntB f - 1 ≤ _; omega)]
  rw [show inB 0 (cntB f - 1) id = true from inB_iff.2 ⟨h0, by omega⟩]
theorem implPlace (hs : Small tFunc f) (hf : Fm funcs f) {id : Int} (h0 : 0 ≤ id) (h1 : id < cntB f) : Ev (fun k => impl_PlaceOf.f k f id) (two (placeOf f id)) := by
  have h60 := hf.cnt
  have h4 := hf.p4
  unfold impl_PlaceOf.f placeOf
  refine Ev.bind (implIsId hs h0 h1) (Ev.neg rfl ?_)
  by_cases c : id < (f.1.length : Int)
  · rw [if_pos c]; exact Ev.dp c (Ev.cst rfl)
  · rw [if_neg c]
    exact Ev.dn c (implPlace_l hf id (by omega) f.2.2.1.length 0 _ (by omega) (by omega) (by omega))
end
end Go.Proofs.Ytkfehogikjcgkaa.V
namespace Go.Proofs.Ytkfehogikjcgkaa.V
open Go
set_option linter.unusedVariables false
set_option linter.unusedSimpArgs false
section
variable {funcs : Int} {f : tFuncD}
def vid (f : tFuncD) (id : Int) : Prop := 0 ≤ id ∧ id < cntB f
theorem vid_of {id : Int} (h : inB 0 (cntB f - 1) id = true) : vid f id := by
  have := inB_iff.1 h
  exact ⟨this.1, by omega⟩
theorem Fm.vt (hf : Fm funcs f) {x : tBlockD} (hx : x ∈ f.2.2.1) (h : x.2.2.1 = 1 ∨ x.2.2.1 = 3) : vid f x.2.2.2.1 := by
  have := hf.tm x hx
  unfold termB at this
  rcases h with h | h <;> rw [h] at this
  · have h2 : (inB 0 (cntB f - 1) x.2.2.2.1 && decide (x.2.2.2.2.1 = 0) && decide (x.2.2.2.2.2.1 = 0)) = true := this
    simp only [Bool.and_eq_true] at h2
    exact vid_of h2.1.1
  · have h2 : (inB 0 (cntB f - 1) x.2.2.2.1 && inB 0 ((f.2.2.1.length : Int) - 1) x.2.2.2.2.1 && inB 0 ((f.2.2.1.length : Int) - 1) x.2.2.2.2.2.1 && !decide (x.2.2.2.2.1 = x.2.2.2.2.2.1)) = true := this
    simp only [Bool.and_eq_true] at h2
    exact vid_of h2.1.1.1
theorem Fm.vp (hf : Fm funcs f) {x : tBlockD} (hx : x ∈ f.2.2.1) {p : tPhiD} (hp : p ∈ x.1) {id : Int} (h : id ∈ p.2.1) : vid f id := by
  have := hf.ph x hx p hp
  simp only [phiB, Bool.and_eq_true, List.all_eq_true] at this
  exact vid_of (this.2 id h)
theorem Fm.vo (hf : Fm funcs f) {x : tBlockD} (hx : x ∈ f.2.2.1) {i : tInstD} (hi : i ∈ x.2.1) : i.2.2.2.2.2.2.1.length ≤ 4 ∧ ∀ id ∈ opsB i, vid f id := by
  have hin := hf.ins x hx i hi
  simp only [instB, Bool.and_eq_true, decide_eq_true_eq, List.all_eq_true] at hin
  exact ⟨hin.1.1.1.1.1.2, fun id h => vid_of (hin.1.1.1.2 id h)⟩
end
end Go.Proofs.Ytkfehogikjcgkaa.V
namespace Go.Proofs.Ytkfehogikjcgkaa.V
open Go
set_option linter.unusedVariables false
set_option linter.unusedSimpArgs false
section
variable {funcs : Int} {f : tFuncD}
abbrev InstR := (((tInstD) × (Bool × Unit) × Unit) × Unit)
def instP (f : tFuncD) (id : Int) : tInstD × Bool :=
  if (placeOf f id).1 = -1 then (tInstZ, false) else
    if (placeOf f id).2 < ((f.2.2.1.getD (placeOf f id).1.toNat tBlockZ).1.length : Int) then (tInstZ, false)
    else ((f.2.2.1.getD (placeOf f id).1.toNat tBlockZ).2.1.getD ((placeOf f id).2 - ((f.2.2.1.getD (placeOf f id).1.toNat tBlockZ).1.length : Int)).toNat tInstZ, true)
def instQ (f : tFuncD) (id : Int) : InstR := (((instP f id).1, ((instP f id).2, ()), ()), ())
theorem implInstOf (hs : Small tFunc f) (hf : Fm funcs f) {id : Int} (v : vid f id) : Ev (fun k => impl_instOf.f k f id) (instQ f id) := by
  have h10 := hf.b10
  unfold impl_instOf.f instQ instP
  refine Ev.bind (implPlace hs hf v.1 v.2) ?_
  rcases place_cases id v.1 v.2 with ⟨hl, hp⟩ | ⟨hl, j, hj, hp, ha, hb⟩
  · rw [hp, if_pos rfl]
    exact Ev.dp (show (-1 : Int) < 0 by decide) (Ev.cst rfl)
  · rw [hp]
    generalize id - (f.1.length : Int) - sumB wB (f.2.2.1.take j) = at' at ha hb
    have hx := hf.w60 (List.getElem_mem hj)
    rw [if_neg (by show ¬ ((j : Int) = -1); omega)]
    refine Ev.dn (show ¬ ((j : Int) < 0) by omega) (Ev.dd (show 0 ≤ (j : Int) by omega) (show (j : Int) < (f.2.2.1.length : Int) by omega) ?_)
    show Ev (fun k => bif decide (at' < ((List.length (f.2.2.1.getD (Int.toNat (j : Int)) tBlockZ).1 : Nat) : Int)) then _ else (bif decide (0 ≤ (j : Int)) && decide ((j : Int) < (f.2.2.1.length : Int)) then (bif decide (0 ≤ (j : Int)) && decide ((j : Int) < (f.2.2.1.length : Int)) then (bif decide (0 ≤ IntKind.wrap .i64 (at' - ((List.length (f.2.2.1.getD (Int.toNat (j : Int)) tBlockZ).1 : Nat) : Int))) && decide (IntKind.wrap .i64 (at' - ((List.length (f.2.2.1.getD (Int.toNat (j : Int)) tBlockZ).1 : Nat) : Int)) < ((List.length (f.2.2.1.getD (Int.toNat (j : Int)) tBlockZ).2.1 : Nat) : Int)) then some ((((f.2.2.1.getD (Int.toNat (j : Int)) tBlockZ).2.1.getD (Int.toNat (IntKind.wrap .i64 (at' - ((List.length (f.2.2.1.getD (Int.toNat (j : Int)) tBlockZ).1 : Nat) : Int)))) tInstZ, (true, ()), ()), ())) else none) else none) else none)) _
    rw [get_in hj]
    unfold wB at hb hx
    by_cases c : at' < ((List.length f.2.2.1[j].1 : Nat) : Int)
    · rw [if_pos c]
      exact Ev.dp c (Ev.cst rfl)
    · have hw : IntKind.wrap .i64 (at' - ((List.length f.2.2.1[j].1 : Nat) : Int)) = at' - ((List.length f.2.2.1[j].1 : Nat) : Int) := wrap_id (by omega) (by omega)
      rw [if_neg c, hw]
      exact Ev.dn c (Ev.dd (by omega) (by omega) (Ev.dd (by omega) (by omega) (Ev.dd (by omega) (by omega) (Ev.cst rfl))))
theorem specInstOf (hf : Fm funcs f) {id : Int} (v : vid f id) : Ev (fun k => spec_l9Inst.f k f id) (instQ f id) := by
  have h10 := hf.b10
  unfold spec_l9Inst.f instQ instP
  refine Ev.bind (specPlace hf v.1 v.2) ?_
  rcases place_cases id v.1 v.2 with ⟨hl, hp⟩ | ⟨hl, j, hj, hp, ha, hb⟩
  · rw [hp, if_pos rfl]
    exact Ev.dp (show (-1 : Int) < 0 by decide) (Ev.cst rfl)
  · rw [hp]
    generalize id - (f.1.length : Int) - sumB wB (f.2.2.1.take j) = at' at ha hb
    have hx := hf.w60 (List.getElem_mem hj)
    rw [if_neg (by show ¬ ((j : Int) = -1); omega)]
    refine Ev.dn (show ¬ ((j : Int) < 0) by omega) (Ev.dd (show 0 ≤ (j : Int) by omega) (show (j : Int) < (f.2.2.1.length : Int) by omega) ?_)
    show Ev (fun k => bif decide (at' < ((List.length (f.2.2.1.getD (Int.toNat (j : Int)) tBlockZ).1 : Nat) : Int)) then _ else (bif decide (0 ≤ (j : Int)) && decide ((j : Int) < (f.2.2.1.length : Int)) then (bif decide (0 ≤ IntKind.wrap .i64 (at' - ((List.length (f.2.2.1.getD (Int.toNat (j : Int)) tBlockZ).1 : Nat) : Int))) && decide (IntKind.wrap .i64 (at' - ((List.length (f.2.2.1.getD (Int.toNat (j : Int)) tBlockZ).1 : Nat) : Int)) < ((List.length (f.2.2.1.getD (Int.toNat (j : Int)) tBlockZ).2.1 : Nat) : Int)) then some ((((f.2.2.1.getD (Int.toNat (j : Int)) tBlockZ).2.1.getD (Int.toNat (IntKind.wrap .i64 (at' - ((List.length (f.2.2.1.getD (Int.toNat (j : Int)) tBlockZ).1 : Nat) : Int)))) tInstZ, (true, ()), ()), ())) else none) else none)) _
    rw [get_in hj]
    unfold wB at hb hx
    by_cases c : at' < ((List.length f.2.2.1[j].1 : Nat) : Int)
    · rw [if_pos c]
      exact Ev.dp c (Ev.cst rfl)
    · have hw : IntKind.wrap .i64 (at' - ((List.length f.2.2.1[j].1 : Nat) : Int)) = at' - ((List.length f.2.2.1[j].1 : Nat) : Int) := wrap_id (by omega) (by omega)
      rw [if_neg c, hw]
      exact Ev.dn c (Ev.dd (by omega) (by omega) (Ev.dd (by omega) (by omega) (Ev.cst rfl)))
/-- An id's instruction is one of its block's. -/
theorem instP_in (hf : Fm funcs f) {id : Int} (v : vid f id) (h : (instP f id).2 = true) : ∃ x ∈ f.2.2.1, (instP f id).1 ∈ x.2.1 := by
  unfold instP at h ⊢
  rcases place_cases id v.1 v.2 with ⟨hl, hp⟩ | ⟨hl, j, hj, hp, ha, hb⟩
  · rw [hp, if_pos rfl] at h
    cases h
  · rw [hp] at h ⊢
    generalize id - (f.1.length : Int) - sumB wB (f.2.2.1.take j) = at' at ha hb h ⊢
    rw [if_neg (by show ¬ ((j : Int) = -1); omega)] at h ⊢
    simp only [] at h ⊢
    rw [get_in hj] at h ⊢
    unfold wB at hb
    by_cases c : at' < ((List.length f.2.2.1[j].1 : Nat) : Int)
    · rw [if_pos c] at h
      cases h
    · rw [if_neg c]
      refine ⟨f.2.2.1[j], List.getElem_mem hj, ?_⟩
      show (f.2.2.1[j].2.1.getD (at' - ((List.length f.2.2.1[j].1 : Nat) : Int)).toNat tInstZ) ∈ _
      rw [getD_at _ _ _ (show (at' - ((List.length f.2.2.1[j].1 : Nat) : Int)).toNat < f.2.2.1[j].2.1.length by omega)]
      exact List.getElem_mem _
/-! ### roots -/
def rootB (f : tFuncD) (i : tInstD) : Bool :=
  bif inB 4 7 i.1 then (bif (instP f i.2.2.2.1).2 && decide ((instP f i.2.2.2.1).1.1 = 21) then decide ((instP f i.2.2.2.1).1.2.2.2.2.2.1 = 0) else true) else inB 23 26 i.1
theorem div_b (hf : Fm funcs f) {x : tBlockD} (hx : x ∈ f.2.2.1) {i : tInstD} (hi : i ∈ x.2.1) (h : inB 4 7 i.1 = true) : vid f i.2.2.2.1 := by
  refine (hf.vo hx hi).2 _ ?_
  have h2 := inB_iff.1 h
  unfold opsB
  rw [inB_iff.2 (show 1 ≤ i.1 ∧ i.1 ≤ 17 by omega)]
  simp
theorem implRoot (hs : Small tFunc f) (hf : Fm funcs f) {x : tBlockD} (hx : x ∈ f.2.2.1) {i : tInstD} (hi : i ∈ x.2.1) : Ev (fun k => impl_isRoot.f k f i) (one (rootB f i)) := by
  unfold impl_isRoot.f impl_isDivision.f rootB
  refine Ev.bind (a := one (inB 4 7 i.1)) (Ev.bind (Ev.all fun k => implIn k _ _ _) (Ev.cst rfl)) ?_
  cases h : inB 4 7 i.1 with
  | false => exact Ev.neg rfl (Ev.bind (Ev.all fun k => implIn k _ _ _) (Ev.cst rfl))
  | true =>
    refine Ev.pos rfl (Ev.bind (g := fun k => impl_ConstOf.f k f i.2.2.2.1) (a := ((((bif (instP f i.2.2.2.1).2 && decide ((instP f i.2.2.2.1).1.1 = 21) then (instP f i.2.2.2.1).1.2.2.2.2.2.1 else 0), ()), ((instP f i.2.2.2.1).2 && decide ((instP f i.2.2.2.1).1.1 = 21), ()), ()), ())) ?_ ?_)
    · unfold impl_ConstOf.f
      refine Ev.bind (implInstOf hs hf (div_b hf hx hi h)) ?_
      show Ev (fun k => bif !(instP f i.2.2.2.1).2 then _ else bif !decide ((instP f i.2.2.2.1).1.1 = 21) then _ else some ((((instP f i.2.2.2.1).1.2.2.2.2.2.1, ()), (true, ()), ()), ())) _
      cases (instP f i.2.2.2.1).2 <;> cases decide ((instP f i.2.2.2.1).1.1 = 21) <;> exact Ev.cst rfl
    · cases ((instP f i.2.2.2.1).2 && decide ((instP f i.2.2.2.1).1.1 = 21)) <;> exact Ev.cst rfl
theorem specRoot (hf : Fm funcs f) {x : tBlockD} (hx : x ∈ f.2.2.1) {i : tInstD} (hi : i ∈ x.2.1) : Ev (fun k => spec_l10Root.f k f i) (one (rootB f i)) := by
  unfold spec_l10Root.f spec_l1Divides.f rootB
  refine Ev.bind (a := one (inB 4 7 i.1)) (Ev.bind (Ev.all fun k => specIn k _ _ _) (Ev.cst rfl)) ?_
  cases h : inB 4 7 i.1 with
  | false => exact Ev.neg rfl (Ev.bind (Ev.all fun k => specIn k _ _ _) (Ev.cst rfl))
  | true =>
    refine Ev.pos rfl (Ev.bind (g := fun k => spec_ConstOf.f k f i.2.2.2.1) (a := ((((bif (instP f i.2.2.2.1).2 && decide ((instP f i.2.2.2.1).1.1 = 21) then (instP f i.2.2.2.1).1.2.2.2.2.2.1 else 0), ()), ((instP f i.2.2.2.1).2 && decide ((instP f i.2.2.2.1).1.1 = 21), ()), ()), ())) ?_ ?_)
    · unfold spec_ConstOf.f
      refine Ev.bind (specInstOf hf (div_b hf hx hi h)) ?_
      show Ev (fun k => bif !(instP f i.2.2.2.1).2 then _ else bif !decide ((instP f i.2.2.2.1).1.1 = 21) then _ else some ((((instP f i.2.2.2.1).1.2.2.2.2.2.1, ()), (true, ()), ()), ())) _
      cases (instP f i.2.2.2.1).2 <;> cases decide ((instP f i.2.2.2.1).1.1 = 21) <;> exact Ev.cst rfl
    · cases ((instP f i.2.2.2.1).2 && decide ((instP f i.2.2.2.1).1.1 = 21)) <;> exact Ev.cst rfl
/-! ### what an id names -/
def namesF (f : tFuncD) (id : Int) : List Int :=
  if (placeOf f id).1 = -1 then [] else
    if (placeOf f id).2 < ((f.2.2.1.getD (placeOf f id).1.toNat tBlockZ).1.length : Int) then ((f.2.2.1.getD (placeOf f id).1.toNat tBlockZ).1.getD (placeOf f id).2.toNat tPhiZ).2.1
    else opsB (instP f id).1
theorem instP_yes {id : Int} {j : Nat} {hj : j < f.2.2.1.length} {at' : Int} (hp : placeOf f id = ((j : Int), at')) (c : ¬ at' < ((List.length f.2.2.1[j].1 : Nat) : Int)) : (instP f id).2 = true := by
  unfold instP
  rw [hp, if_neg (by show ¬ ((j : Int) = -1); omega)]
  simp only []
  rw [get_in hj, if_neg c]
theorem namesF_ok (hf : Fm funcs f) {id : Int} (v : vid f id) : (namesF f id).length ≤ 10 ∧ ∀ y ∈ namesF f id, vid f y := by
  have hin := instP_in hf v
  unfold namesF
  rcases place_cases id v.1 v.2 with ⟨hl, hp⟩ | ⟨hl, j, hj, hp, ha, hb⟩
  · rw [hp, if_pos rfl]
    exact ⟨by simp, fun y hy => by cases hy⟩
  · have hP2 := fun c => instP_yes (hj := hj) hp c
    rw [hp]
    generalize id - (f.1.length : Int) - sumB wB (f.2.2.1.take j) = at' at ha hb hP2
    rw [if_neg (by show ¬ ((j : Int) = -1); omega)]
    show (if at' < (((f.2.2.1.getD (Int.toNat (j : Int)) tBlockZ).1.length : Nat) : Int) then ((f.2.2.1.getD (Int.toNat (j : Int)) tBlockZ).1.getD at'.toNat tPhiZ).2.1 else opsB (instP f id).1).length ≤ 10 ∧ ∀ y ∈ (if at' < (((f.2.2.1.getD (Int.toNat (j : Int)) tBlockZ).1.length : Nat) : Int) then ((f.2.2.1.getD (Int.toNat (j : Int)) tBlockZ).1.getD at'.toNat tPhiZ).2.1 else opsB (instP f id).1), vid f y
    rw [get_in hj]
    unfold wB at hb
    by_cases c : at' < ((List.length f.2.2.1[j].1 : Nat) : Int)
    · rw [if_pos c, getD_at _ _ _ (show at'.toNat < f.2.2.1[j].1.length by omega)]
      have hpm := List.getElem_mem (show at'.toNat < f.2.2.1[j].1.length by omega)
      refine ⟨?_, fun y hy => hf.vp (List.getElem_mem hj) hpm hy⟩
      have := hf.ph _ (List.getElem_mem hj) _ hpm
      simp only [phiB, Bool.and_eq_true, decide_eq_true_eq] at this
      exact this.1.2
    · rw [if_neg c]
      obtain ⟨x, hx, hi⟩ := hin (hP2 c)
      obtain ⟨h4, hv⟩ := hf.vo hx hi
      refine ⟨?_, hv⟩
      generalize (instP f id).1 = i at h4
      by_cases h26 : i.1 = 26
      · have e : opsB i = i.2.2.2.2.2.2.1 := by unfold opsB; rw [h26]; rfl
        rw [e]; omega
      · have := opsB_few h26; omega
theorem implNames (hs : Small tFunc f) (hf : Fm funcs f) {id : Int} (v : vid f id) : Ev (fun k => impl_namesOf.f k f id) (one (namesF f id)) := by
  have hI := implInstOf hs hf v
  have hin := instP_in hf v
  unfold impl_namesOf.f namesF
  refine Ev.bind (implPlace hs hf v.1 v.2) ?_
  rcases place_cases id v.1 v.2 with ⟨hl, hp⟩ | ⟨hl, j, hj, hp, ha, hb⟩
  · rw [hp, if_pos rfl]
    exact Ev.dp (show (-1 : Int) < 0 by decide) (Ev.cst rfl)
  · have hP2 := fun c => instP_yes (hj := hj) hp c
    rw [hp]
    generalize id - (f.1.length : Int) - sumB wB (f.2.2.1.take j) = at' at ha hb hP2
    have hx := hf.w60 (List.getElem_mem hj)
    rw [if_neg (by show ¬ ((j : Int) = -1); omega)]
    refine Ev.dn (show ¬ ((j : Int) < 0) by omega) (Ev.dd (show 0 ≤ (j : Int) by omega) (show (j : Int) < (f.2.2.1.length : Int) by omega) ?_)
    show Ev (fun k => bif decide (at' < ((List.length (f.2.2.1.getD (Int.toNat (j : Int)) tBlockZ).1 : Nat) : Int)) then (bif decide (0 ≤ (j : Int)) && decide ((j : Int) < (f.2.2.1.length : Int)) then (bif decide (0 ≤ at') && decide (at' < ((List.length (f.2.2.1.getD (Int.toNat (j : Int)) tBlockZ).1 : Nat) : Int)) then some (one ((f.2.2.1.getD (Int.toNat (j : Int)) tBlockZ).1.getD at'.toNat tPhiZ).2.1) else none) else none) else _) _
    rw [get_in hj]
    unfold wB at hb hx
    by_cases c : at' < ((List.length f.2.2.1[j].1 : Nat) : Int)
    · rw [if_pos c]
      exact Ev.dp c (Ev.dd (by omega) (by omega) (Ev.dd ha c (Ev.cst rfl)))
    · rw [if_neg c]
      obtain ⟨x, hxm, hi⟩ := hin (hP2 c)
      exact Ev.dn c (Ev.bind hI (Ev.bind (Ev.all fun k => implOps k (i := (instP f id).1) (by have := (hf.vo hxm hi).1; omega)) (Ev.cst rfl)))
end
end Go.Proofs.Ytkfehogikjcgkaa.V
namespace Go.Proofs.Ytkfehogikjcgkaa.V
open Go
set_option linter.unusedVariables false
set_option linter.unusedSimpArgs false
/-- The marks, one after another, of what stands in a list and of what that names. -/
def spread (N : Int → List Int) : Nat → List Int → List Bool → List Bool
  | 0, _, out => out
  | _ + 1, [], out => out
  | n + 1, b :: q, out => if out.getD b.toNat false = true then spread N n q out else spread N n (q ++ N b) (out.set b.toNat true)
theorem spread_length (N : Int → List Int) : ∀ (n : Nat) (q : List Int) (out : List Bool), (spread N n q out).length = out.length
  | 0, _, _ => rfl
  | _ + 1, [], _ => rfl
  | n + 1, b :: q, out => by
    simp only [spread]
    split
    · exact spread_length N n q out
    · rw [spread_length N n _ _]; simp
def offs (out : List Bool) : Nat := out.count false
theorem offs_set : ∀ (out : List Bool) (b : Nat), b < out.length → out.getD b false = false → offs (out.set b true) + 1 = offs out
  | [], b, h, _ => by simp at h
  | x :: l, 0, h, hx => by
    simp only [List.getD_cons_zero] at hx
    subst hx
    simp [offs]
  | x :: l, b + 1, h, hx => by
    have ih := offs_set l b (by simpa using h) (by simpa using hx)
    unfold offs at ih ⊢
    simp only [List.set_cons_succ, List.count_cons]
    omega
theorem offs_replicate (n : Nat) : offs (List.replicate n false) = n := by unfold offs; simp
def mk (out : List Bool) (x : Int) : Prop := 0 ≤ x ∧ out.getD x.toNat false = true
inductive Cl (N : Int → List Int) (S : Int → Prop) : Int → Prop
  | base {x : Int} : S x → Cl N S x
  | step {x y : Int} : Cl N S x → y ∈ N x → Cl N S y
theorem Cl.sub {N : Int → List Int} {S S' : Int → Prop} (h : ∀ x, S x → Cl N S' x) {x : Int} (hx : Cl N S x) : Cl N S' x := by
  induction hx with
  | base h' => exact h _ h'
  | step _ hy ih => exact .step ih hy
theorem mk_set {out : List Bool} {b x : Int} (hb : 0 ≤ b) (hl : b.toNat < out.length) : mk (out.set b.toNat true) x ↔ mk out x ∨ x = b := by
  unfold mk
  by_cases e : x = b
  · subst e
    simp [hb, List.getD, hl]
  · have hne : 0 ≤ x → b.toNat ≠ x.toNat := fun h0 h => e (by omega)
    constructor
    · rintro ⟨h0, h1⟩
      refine .inl ⟨h0, ?_⟩
      simpa [List.getD, List.getElem?_set_ne (hne h0)] using h1
    · rintro (⟨h0, h1⟩ | h)
      · exact ⟨h0, by simpa [List.getD, List.getElem?_set_ne (hne h0)] using h1⟩
      · exact (e h).elim
theorem spread_spec {N : Int → List Int} {c : Int} (hN : ∀ x, 0 ≤ x ∧ x < c → (N x).length ≤ 10 ∧ ∀ y ∈ N x, 0 ≤ y ∧ y < c) : ∀ (n : Nat) (q : List Int) (out : List Bool), (out.length : Int) = c → (∀ x ∈ q, 0 ≤ x ∧ x < c) → q.length + 11 * offs out ≤ n →
    (∀ x, mk out x → ∀ y ∈ N x, mk out y ∨ y ∈ q) → ∀ x, mk (spread N n q out) x ↔ Cl N (fun x => mk out x ∨ x ∈ q) x
  | n, [], out, hl, hq, hm, hc => by
    have key : ∀ x, mk out x ↔ Cl N (fun x => mk out x ∨ x ∈ ([] : List Int)) x := fun x => by
      constructor
      · exact fun h => .base (.inl h)
      · intro h
        induction h with
        | base h => exact h.resolve_right (by simp)
        | step _ hy ih => exact (hc _ ih _ hy).resolve_right (by simp)
    cases n with
    | zero => exact key
    | succ n => exact key
  | 0, b :: q, out, hl, hq, hm, hc => by simp at hm
  | n + 1, b :: q, out, hl, hq, hm, hc => by
    obtain ⟨h0, h1⟩ := hq b (by simp)
    have hlt : b.toNat < out.length := by omega
    simp only [List.length_cons] at hm
    intro x
    simp only [spread]
    by_cases hv : out.getD b.toNat false = true
    · rw [if_pos hv]
      have hb : mk out b := ⟨h0, hv⟩
      rw [spread_spec hN n q out hl (fun y hy => hq y (by simp [hy])) (by omega) (fun y hy z hz => (hc y hy z hz).elim .inl fun h => by
        rcases List.mem_cons.1 h with rfl | h
        · exact .inl hb
        · exact .inr h) x]
      exact ⟨Cl.sub fun y hy => .base (hy.elim .inl fun h => .inr (by simp [h])), Cl.sub fun y hy => .base (hy.elim .inl fun h => by
        rcases List.mem_cons.1 h with rfl | h
        · exact .inl hb
        · exact .inr h)⟩
    · rw [if_neg hv]
      have hf : out.getD b.toNat false = false := by simpa using hv
      have hd := offs_set out b.toNat hlt hf
      obtain ⟨n10, nin⟩ := hN b ⟨h0, h1⟩
      rw [spread_spec hN n (q ++ N b) (out.set b.toNat true) (by simpa using hl) (fun y hy => by
        rcases List.mem_append.1 hy with h | h
        · exact hq y (by simp [h])
        · exact nin y h) (by rw [List.length_append]; omega) (fun y hy z hz => by
        rw [mk_set h0 hlt] at hy
        rcases hy with hy | rfl
        · rcases hc y hy z hz with h | h
          · exact .inl ((mk_set h0 hlt).2 (.inl h))
          · rcases List.mem_cons.1 h with rfl | h
            · exact .inl ((mk_set h0 hlt).2 (.inr rfl))
            · exact .inr (by simp [h])
        · exact .inr (by simp [hz])) x]
      constructor
      · refine Cl.sub fun y hy => ?_
        rw [mk_set h0 hlt] at hy
        rcases hy with (h | rfl) | h
        · exact .base (.inl h)
        · exact .base (.inr (by simp))
        · rcases List.mem_append.1 h with h | h
          · exact .base (.inr (by simp [h]))
          · exact .step (.base (.inr (by simp))) h
      · refine Cl.sub fun y hy => .base ?_
        rw [mk_set h0 hlt]
        rcases hy with h | h
        · exact .inl (.inl h)
        · rcases List.mem_cons.1 h with rfl | h
          · exact .inl (.inr rfl)
          · exact .inr (by simp [h])
/-- Two lists of the same numbers give the same marks. -/
theorem spread_same {N : Int → List Int} {c : Nat} (hN : ∀ x, 0 ≤ x ∧ x < (c : Int) → (N x).length ≤ 10 ∧ ∀ y ∈ N x, 0 ≤ y ∧ y < (c : Int)) {n m : Nat} {q q' : List Int} (hq : ∀ x ∈ q, 0 ≤ x ∧ x < (c : Int)) (hqq : ∀ x, x ∈ q ↔ x ∈ q') (hn : q.length + 11 * c ≤ n) (hm : q'.length + 11 * c ≤ m) :
    spread N n q (List.replicate c false) = spread N m q' (List.replicate c false) := by
  have hno : ∀ x, ¬ mk (List.replicate c false) x := fun x h => by
    have := h.2
    simp only [List.getD, List.getElem?_replicate] at this
    split at this <;> cases this
  have h1 := spread_spec hN n q (List.replicate c false) (by simp) hq (by rw [offs_replicate]; omega) fun x hx => (hno x hx).elim
  have h2 := spread_spec hN m q' (List.replicate c false) (by simp) (fun x hx => hq x ((hqq x).2 hx)) (by rw [offs_replicate]; omega) fun x hx => (hno x hx).elim
  refine List.ext_getElem (by rw [spread_length, spread_length]) fun i hi hi' => ?_
  have key : mk (spread N n q (List.replicate c false)) (i : Int) ↔ mk (spread N m q' (List.replicate c false)) (i : Int) := by
    rw [h1, h2]
    exact ⟨Cl.sub fun y hy => .base (hy.elim .inl fun h => .inr ((hqq y).1 h)), Cl.sub fun y hy => .base (hy.elim .inl fun h => .inr ((hqq y).2 h))⟩
  unfold mk at key
  rw [Int.toNat_natCast, getD_at _ _ _ hi, getD_at _ _ _ hi'] at key
  have h0 : (0 : Int) ≤ (i : Int) := by omega
  simp only [h0, true_and] at key
  exact Bool.eq_iff_iff.2 key
end Go.Proofs.Ytkfehogikjcgkaa.V
namespace Go.Proofs.Ytkfehogikjcgkaa.V
open Go
set_option linter.unusedVariables false
set_option linter.unusedSimpArgs false
section
variable {funcs : Int} {f : tFuncD}
def endN (t : tTermD) : List Int := bif decide (t.1 = 1) then [t.2.1] else bif decide (t.1 = 3) then [t.2.1] else []
theorem implEndN (k : Nat) (t : tTermD) : impl_endNames.f k t = some (rowR (endN t)) := by
  unfold impl_endNames.f endN
  cases decide (t.1 = 1) <;> cases decide (t.1 = 3) <;> rfl
theorem endN_len (t : tTermD) : (endN t).length ≤ 1 := by
  unfold endN
  cases decide (t.1 = 1) <;> cases decide (t.1 = 3) <;> simp
theorem endN_v (hf : Fm funcs f) {x : tBlockD} (hx : x ∈ f.2.2.1) {y : Int} (hy : y ∈ endN x.2.2) : vid f y := by
  unfold endN at hy
  by_cases h1 : x.2.2.1 = 1
  · rw [dpos h1, cond_true, List.mem_singleton] at hy
    subst hy; exact hf.vt hx (.inl h1)
  · by_cases h3 : x.2.2.1 = 3
    · rw [dneg h1, dpos h3, cond_false, cond_true, List.mem_singleton] at hy
      subst hy; exact hf.vt hx (.inr h3)
    · rw [dneg h1, dneg h3] at hy; cases hy
def rootsFrom (f : tFuncD) : Nat → Nat → List Int
  | _, 0 => []
  | i, d + 1 => bif (instP f (i : Int)).2 && rootB f (instP f (i : Int)).1 then (i : Int) :: rootsFrom f (i + 1) d else rootsFrom f (i + 1) d
theorem rootsFrom_len (f : tFuncD) : ∀ (d i : Nat), (rootsFrom f i d).length ≤ d
  | 0, i => by simp [rootsFrom]
  | d + 1, i => by
    have := rootsFrom_len f d (i + 1)
    simp only [rootsFrom]
    cases ((instP f (i : Int)).2 && rootB f (instP f (i : Int)).1) <;> simp <;> omega
theorem mem_roots (f : tFuncD) : ∀ (d i : Nat) (x : Int), x ∈ rootsFrom f i d ↔ ((i : Int) ≤ x ∧ x < ((i + d : Nat) : Int)) ∧ (instP f x).2 = true ∧ rootB f (instP f x).1 = true
  | 0, i, x => by simp [rootsFrom]; omega
  | d + 1, i, x => by
    have ih := mem_roots f d (i + 1) x
    simp only [rootsFrom]
    by_cases e : x = (i : Int)
    · subst e
      cases hb : ((instP f (i : Int)).2 && rootB f (instP f (i : Int)).1) with
      | true =>
        simp only [Bool.and_eq_true] at hb
        simp only [cond_true, List.mem_cons, true_or, true_iff]
        exact ⟨by omega, hb⟩
      | false =>
        simp only [cond_false]
        rw [ih]
        constructor
        · intro h; omega
        · rintro ⟨_, h1, h2⟩; rw [h1, h2] at hb; cases hb
    · have h2 : (((i + 1 : Nat) : Int) ≤ x ∧ x < ((i + 1 + d : Nat) : Int)) ↔ ((i : Int) ≤ x ∧ x < ((i + (d + 1) : Nat) : Int)) := by omega
      cases ((instP f (i : Int)).2 && rootB f (instP f (i : Int)).1) with
      | true => simp only [cond_true, List.mem_cons, e, false_or]; rw [ih, h2]
      | false => simp only [cond_false]; rw [ih, h2]
/-! ### the program's list -/
abbrev MR := ((Unit × Unit) × Unit) × (List Bool × Unit)
theorem implRoots (hs : Small tFunc f) (hf : Fm funcs f) {out : List Bool} {r : MR} : ∀ (d i : Nat) (acc : List Int), ((i + d : Nat) : Int) = cntB f → (acc ++ rootsFrom f i d).length ≤ 1000 → Ev (fun k => impl_needed.l1 k f.2.2.1 ((List.length f.2.2.1 : Nat) : Int) 0 f out (acc ++ rootsFrom f i d)) r → Ev (fun k => impl_needed.l0 k (cntB f) (i : Int) f out acc) r := by
  intro d
  induction d with
  | zero =>
    intro i acc hi hl hr
    refine Ev.step hr fun k => ?_
    show impl_needed.l0_ k (impl_needed.l0 k) (impl_needed.l1 k) (impl_needed.l2 k) _ _ f out acc = _
    unfold impl_needed.l0_
    rw [dneg (show ¬ ((i : Int) < cntB f) by omega)]
    simp [rootsFrom]
  | succ d ih =>
    intro i acc hi hl hr
    have h60 := hf.cnt
    have v : vid f (i : Int) := ⟨by omega, by omega⟩
    refine Ev.succ ?_
    show Ev (fun k => impl_needed.l0_ k (impl_needed.l0 k) (impl_needed.l1 k) (impl_needed.l2 k) _ _ f out acc) _
    unfold impl_needed.l0_
    unfold rootsFrom at hl hr
    refine Ev.dp (show (i : Int) < cntB f by omega) (Ev.bind (implInstOf hs hf v) ?_)
    rw [wrap_nat (show i < 9223372036854775807 by omega)]
    have skip : ∀ b : Bool, b = false → (b = ((instP f (i : Int)).2 && rootB f (instP f (i : Int)).1)) → Ev (fun k => impl_needed.l0 k (cntB f) ((i + 1 : Nat) : Int) f out acc) r := by
      rintro _ rfl hb
      rw [← hb] at hl hr
      exact ih (i + 1) acc (by omega) hl hr
    cases hp : (instP f (i : Int)).2 with
    | false => exact Ev.neg hp (skip false rfl (by rw [hp]; rfl))
    | true =>
      obtain ⟨x, hx, hi2⟩ := instP_in hf v hp
      refine Ev.pos hp (Ev.bind (implRoot hs hf hx hi2) ?_)
      cases hrt : rootB f (instP f (i : Int)).1 with
      | false => exact Ev.neg hrt (skip false rfl (by rw [hrt, Bool.and_false]))
      | true =>
        rw [hp, hrt] at hl hr
        simp only [Bool.and_self, cond_true, List.length_append, List.length_cons] at hl
        refine Ev.pos hrt (Ev.dp (show (acc.length + [(i : Int)].length) * 8 ≤ 140737488355328 by simp only [List.length_cons, List.length_nil]; omega) ?_)
        refine ih (i + 1) (acc ++ [(i : Int)]) (by omega) (by simp only [List.length_append, List.length_cons, List.length_nil]; omega) ?_
        have e : acc ++ [(i : Int)] ++ rootsFrom f (i + 1) d = acc ++ (i : Int) :: rootsFrom f (i + 1) d := by simp
        rw [e]
        exact hr
def endsOf (l : List tBlockD) : List Int := l.flatMap fun x => endN x.2.2
theorem implEnds (h10 : f.2.2.1.length ≤ 10) {out : List Bool} {r : MR} : ∀ (d i : Nat) (acc : List Int), i + d = f.2.2.1.length → (acc ++ endsOf (f.2.2.1.drop i)).length ≤ 1000 → Ev (fun k => impl_needed.l2 k f out (acc ++ endsOf (f.2.2.1.drop i))) r → Ev (fun k => impl_needed.l1 k f.2.2.1 ((List.length f.2.2.1 : Nat) : Int) (i : Int) f out acc) r := by
  intro d
  induction d with
  | zero =>
    intro i acc hi hl hr
    obtain rfl : i = f.2.2.1.length := by omega
    refine Ev.step hr fun k => ?_
    show impl_needed.l1_ k (impl_needed.l0 k) (impl_needed.l1 k) (impl_needed.l2 k) _ _ _ f out acc = _
    unfold impl_needed.l1_
    simp [head_end, endsOf]
  | succ d ih =>
    intro i acc hi hl hr
    have hlt : i < f.2.2.1.length := by omega
    rw [List.drop_eq_getElem_cons hlt] at hl hr
    have e : ∀ l, acc ++ endsOf (f.2.2.1[i] :: l) = acc ++ endN f.2.2.1[i].2.2 ++ endsOf l := fun l => by simp [endsOf]
    rw [e] at hl hr
    refine Ev.succ ?_
    show Ev (fun k => impl_needed.l1_ k (impl_needed.l0 k) (impl_needed.l1 k) (impl_needed.l2 k) _ _ _ f out acc) _
    unfold impl_needed.l1_
    simp only [head_in hlt, head_0, Bool.and_self, cond_true, get_in hlt, wrap_nat (show i < 9223372036854775807 by omega)]
    refine Ev.bind (Ev.all fun k => implEndN k _) (Ev.dp (show (acc.length + (endN f.2.2.1[i].2.2).length) * 8 ≤ 140737488355328 by simp only [List.length_append] at hl; omega) ?_)
    exact ih (i + 1) _ (by omega) hl hr
/-! ### the specification's list -/
def instRoots (f : tFuncD) : Int → List tInstD → List Int
  | _, [] => []
  | id, i :: l => bif rootB f i then id :: instRoots f (id + 1) l else instRoots f (id + 1) l
def blkSeeds (f : tFuncD) : Int → List tBlockD → List Int
  | _, [] => []
  | id, x :: l => instRoots f (id + (x.1.length : Int)) x.2.1 ++ (endN x.2.2 ++ blkSeeds f (id + wB x) l)
theorem mem_instRoots (f : tFuncD) : ∀ (l : List tInstD) (id x : Int), x ∈ instRoots f id l ↔ ∃ t : Nat, ∃ h : t < l.length, x = id + t ∧ rootB f l[t] = true
  | [], id, x => by simp [instRoots]
  | i :: l, id, x => by
    have ih := mem_instRoots f l (id + 1) x
    have hs : (∃ t : Nat, ∃ h : t < (i :: l).length, x = id + t ∧ rootB f (i :: l)[t] = true) ↔ (x = id ∧ rootB f i = true) ∨ ∃ t : Nat, ∃ h : t < l.length, x = id + 1 + t ∧ rootB f l[t] = true := by
      constructor
      · rintro ⟨t, h, e, hr⟩
        cases t with
        | zero => exact .inl ⟨by simpa using e, hr⟩
        | succ t => exact .inr ⟨t, by simpa using h, by omega, hr⟩
      · rintro (⟨e, hr⟩ | ⟨t, h, e, hr⟩)
        · exact ⟨0, by simp, by simpa using e, hr⟩
        · exact ⟨t + 1, by simpa using h, by omega, hr⟩
    rw [hs, ← ih]
    simp only [instRoots]
    cases rootB f i with
    | true => simp
    | false => simp
theorem mem_seeds (f : tFuncD) : ∀ (l : List tBlockD) (id x : Int), x ∈ blkSeeds f id l ↔ ∃ j : Nat, ∃ h : j < l.length, (∃ t : Nat, ∃ ht : t < l[j].2.1.length, x = id + sumB wB (l.take j) + (l[j].1.length : Int) + t ∧ rootB f l[j].2.1[t] = true) ∨ x ∈ endN l[j].2.2
  | [], id, x => by simp [blkSeeds]
  | b :: l, id, x => by
    have ih := mem_seeds f l (id + wB b) x
    simp only [blkSeeds, List.mem_append]
    rw [ih, mem_instRoots]
    constructor
    · rintro (⟨t, ht, e, hr⟩ | h | ⟨j, hj, h⟩)
      · exact ⟨0, by simp, .inl ⟨t, ht, by simp [sumB]; omega, hr⟩⟩
      · exact ⟨0, by simp, .inr h⟩
      · refine ⟨j + 1, by simpa using hj, h.imp (fun ⟨t, ht, e, hr⟩ => ⟨t, ht, ?_, hr⟩) fun h => h⟩
        simp only [List.take_succ_cons, sumB, List.getElem_cons_succ]
        omega
    · rintro ⟨j, hj, h⟩
      cases j with
      | zero => exact h.imp (fun ⟨t, ht, e, hr⟩ => ⟨t, ht, by simp [sumB] at e; omega, hr⟩) .inl
      | succ j =>
        refine .inr (.inr ⟨j, by simpa using hj, h.imp (fun ⟨t, ht, e, hr⟩ => ⟨t, ht, ?_, hr⟩) fun h => h⟩)
        simp only [List.take_succ_cons, sumB, List.getElem_cons_succ] at e
        omega
theorem placeL_at : ∀ (l : List tBlockD) (b j : Nat) (hj : j < l.length) (at' : Int), 0 ≤ at' → at' < wB l[j] → placeL l b (sumB wB (l.take j) + at') = (((b + j : Nat) : Int), at')
  | [], b, j, hj, at', h0, h1 => by simp at hj
  | x :: l, b, 0, hj, at', h0, h1 => by
    have h1' : at' < wB x := h1
    simp only [List.take_zero, sumB, Int.zero_add, placeL]
    rw [if_pos h1']; rfl
  | x :: l, b, j + 1, hj, at', h0, h1 => by
    have ih := placeL_at l (b + 1) j (by simpa using hj) at' h0 (by simpa using h1)
    have hn := sumB_nonneg (w := wB) (l := l.take j) fun y _ => wB_nonneg y
    simp only [List.take_succ_cons, sumB, placeL]
    rw [if_neg (by omega), show wB x + sumB wB (l.take j) + at' - wB x = sumB wB (l.take j) + at' by omega, ih]
    congr 1
    omega
theorem place_of {j : Nat} (hj : j < f.2.2.1.length) {at' : Int} (h0 : 0 ≤ at') (h1 : at' < wB f.2.2.1[j]) : placeOf f ((f.1.length : Int) + sumB wB (f.2.2.1.take j) + at') = ((j : Int), at') := by
  have hn := sumB_nonneg (w := wB) (l := f.2.2.1.take j) fun y _ => wB_nonneg y
  unfold placeOf
  rw [if_neg (by omega), show (f.1.length : Int) + sumB wB (f.2.2.1.take j) + at' - (f.1.length : Int) = sumB wB (f.2.2.1.take j) + at' by omega, placeL_at _ _ _ hj _ h0 h1, Nat.zero_add]
theorem seeds_same (hf : Fm funcs f) (x : Int) : x ∈ rootsFrom f 0 (cntB f).toNat ++ endsOf f.2.2.1 ↔ x ∈ blkSeeds f (f.1.length : Int) f.2.2.1 := by
  have hc : 0 ≤ cntB f := by
    have := sumB_nonneg (w := wB) (l := f.2.2.1) fun y _ => wB_nonneg y
    rw [cntB_eq]; omega
  rw [List.mem_append, mem_roots, mem_seeds]
  constructor
  · rintro (⟨⟨h0, h1⟩, h2, h3⟩ | h)
    · have v : vid f x := ⟨by omega, by omega⟩
      rcases place_cases x v.1 v.2 with ⟨hl, hp⟩ | ⟨hl, j, hj, hp, ha, hb⟩
      · unfold instP at h2
        rw [hp, if_pos rfl] at h2
        cases h2
      · refine ⟨j, hj, .inl ?_⟩
        have hpp := hp
        generalize hat : x - (f.1.length : Int) - sumB wB (f.2.2.1.take j) = at' at ha hb hp
        unfold instP at h2 h3
        rw [hp, if_neg (by show ¬ ((j : Int) = -1); omega)] at h2 h3
        simp only [] at h2 h3
        rw [get_in hj] at h2 h3
        unfold wB at hb
        by_cases c : at' < ((List.length f.2.2.1[j].1 : Nat) : Int)
        · rw [if_pos c] at h2; cases h2
        · rw [if_neg c] at h3
          have hlt : (at' - ((List.length f.2.2.1[j].1 : Nat) : Int)).toNat < f.2.2.1[j].2.1.length := by omega
          simp only [] at h3
          rw [getD_at _ _ _ hlt] at h3
          exact ⟨_, hlt, by omega, h3⟩
    · simp only [endsOf, List.mem_flatMap] at h
      obtain ⟨b, hb, h⟩ := h
      obtain ⟨j, hj, rfl⟩ := List.getElem_of_mem hb
      exact ⟨j, hj, .inr h⟩
  · rintro ⟨j, hj, h⟩
    rcases h with ⟨t, ht, e, hr⟩ | h
    · left
      have hw : ((List.length f.2.2.1[j].1 : Nat) : Int) + (t : Int) < wB f.2.2.1[j] := by unfold wB; omega
      have hp := place_of hj (at' := ((List.length f.2.2.1[j].1 : Nat) : Int) + (t : Int)) (by omega) hw
      have ex : x = (f.1.length : Int) + sumB wB (f.2.2.1.take j) + (((List.length f.2.2.1[j].1 : Nat) : Int) + (t : Int)) := by omega
      rw [← ex] at hp
      have hi : instP f x = (f.2.2.1[j].2.1[t], true) := by
        unfold instP
        rw [hp, if_neg (by show ¬ ((j : Int) = -1); omega)]
        simp only []
        rw [get_in hj, if_neg (by omega), show ((((List.length f.2.2.1[j].1 : Nat) : Int) + (t : Int)) - ((List.length f.2.2.1[j].1 : Nat) : Int)).toNat = t by omega, getD_at _ _ _ ht]
      rw [hi]
      refine ⟨⟨?_, ?_⟩, rfl, hr⟩
      · have := sumB_nonneg (w := wB) (l := f.2.2.1.take j) fun y _ => wB_nonneg y
        omega
      · have h1 : sumB wB (f.2.2.1.take j) + sumB wB (f.2.2.1.drop j) = sumB wB f.2.2.1 := by
          have : ∀ (l m : List tBlockD), sumB wB (l ++ m) = sumB wB l + sumB wB m := fun l m => by
            induction l with
            | nil => simp [sumB]
            | cons y l ih => simp only [List.cons_append, sumB, ih]; omega
          rw [← this, List.take_append_drop]
        have h2 := sumB_drop wB f.2.2.1 j hj
        have h3 := sumB_nonneg (w := wB) (l := f.2.2.1.drop (j + 1)) fun y _ => wB_nonneg y
        have h4 := cntB_eq f
        omega
    · right
      simp only [endsOf, List.mem_flatMap]
      exact ⟨_, List.getElem_mem hj, h⟩
theorem seeds_v (hf : Fm funcs f) : ∀ x ∈ rootsFrom f 0 (cntB f).toNat ++ endsOf f.2.2.1, vid f x := by
  intro x hx
  rcases List.mem_append.1 hx with h | h
  · rw [mem_roots] at h
    exact ⟨by omega, by omega⟩
  · simp only [endsOf, List.mem_flatMap] at h
    obtain ⟨b, hb, h⟩ := h
    exact endN_v hf hb h
theorem instRoots_len (f : tFuncD) : ∀ (l : List tInstD) (id : Int), (instRoots f id l).length ≤ l.length
  | [], id => by simp [instRoots]
  | i :: l, id => by
    have := instRoots_len f l (id + 1)
    simp only [instRoots]
    cases rootB f i <;> simp <;> omega
theorem seeds_len (f : tFuncD) : ∀ (l : List tBlockD) (id : Int), ((blkSeeds f id l).length : Int) ≤ sumB wB l + l.length
  | [], id => by simp [blkSeeds, sumB]
  | x :: l, id => by
    have h1 := seeds_len f l (id + wB x)
    have h2 := instRoots_len f x.2.1 (id + (x.1.length : Int))
    have h3 := endN_len x.2.2
    simp only [blkSeeds, sumB, List.length_append, List.length_cons]
    have h4 : ((x.2.1.length : Nat) : Int) ≤ wB x := by unfold wB; omega
    omega
end
end Go.Proofs.Ytkfehogikjcgkaa.V
namespace Go.Proofs.Ytkfehogikjcgkaa.V
open Go
set_option linter.unusedVariables false
set_option linter.unusedSimpArgs false
section
variable {funcs : Int} {f : tFuncD}
theorem specInsts (hf : Fm funcs f) {x : tBlockD} (hx : x ∈ f.2.2.1) {m : List Int} {b : Nat} (hb : b < 100) {r} : ∀ (d j : Nat) (id : Int) (acc : List Int), j + d = x.2.1.length → 0 ≤ id → id + (d : Int) ≤ 1000 → (acc ++ (instRoots f id (x.2.1.drop j) ++ endN x.2.2)).length ≤ 1000 →
    Ev (fun k => spec_l10Needed.l0 k (id + (d : Int)) ((b + 1 : Nat) : Int) f m (acc ++ (instRoots f id (x.2.1.drop j) ++ endN x.2.2))) r → Ev (fun k => spec_l10Needed.l1 k id (b : Int) (j : Int) f m acc x) r := by
  have hx60 := hf.phis hx
  intro d
  induction d with
  | zero =>
    intro j id acc hj h0 h1 hl hr
    obtain rfl : j = x.2.1.length := by omega
    rw [List.drop_length] at hl hr
    simp only [instRoots, List.nil_append, Int.natCast_zero, Int.add_zero] at hl hr
    refine Ev.succ ?_
    show Ev (fun k => spec_l10Needed.l1_ k (spec_l10Needed.l0 k) (spec_l10Needed.l1 k) (spec_l10Needed.l2 k) _ _ _ f m acc x) _
    unfold spec_l10Needed.l1_
    rw [wrap_nat (show b < 9223372036854775807 by omega)]
    unfold endN at hl hr
    refine Ev.neg head_end ?_
    rw [List.length_append] at hl
    by_cases c1 : x.2.2.1 = 1
    · rw [dpos c1, cond_true] at hl hr
      exact Ev.dp c1 (Ev.dp (show (acc.length + [x.2.2.2.1].length) * 8 ≤ 140737488355328 by simp only [List.length_cons, List.length_nil]; omega) hr)
    · rw [dneg c1, cond_false] at hl hr
      refine Ev.dn c1 ?_
      by_cases c3 : x.2.2.1 = 3
      · rw [dpos c3, cond_true] at hl hr
        exact Ev.dp c3 (Ev.dp (show (acc.length + [x.2.2.2.1].length) * 8 ≤ 140737488355328 by simp only [List.length_cons, List.length_nil]; omega) hr)
      · rw [dneg c3, cond_false, List.append_nil] at hr
        exact Ev.dn c3 hr
  | succ d ih =>
    intro j id acc hj h0 h1 hl hr
    have hlt : j < x.2.1.length := by omega
    rw [List.drop_eq_getElem_cons hlt] at hl hr
    refine Ev.succ ?_
    show Ev (fun k => spec_l10Needed.l1_ k (spec_l10Needed.l0 k) (spec_l10Needed.l1 k) (spec_l10Needed.l2 k) _ _ _ f m acc x) _
    unfold spec_l10Needed.l1_
    simp only [head_in hlt, head_0, Bool.and_self, cond_true, get_in hlt, wrap_nat (show j < 9223372036854775807 by omega), wrap_id (x := id + 1) (by omega) (by omega)]
    refine Ev.bind (specRoot hf hx (List.getElem_mem hlt)) ?_
    have e1 : id + ((d + 1 : Nat) : Int) = id + 1 + (d : Int) := by omega
    rw [e1] at hr
    simp only [instRoots] at hl hr
    cases hrt : rootB f x.2.1[j] with
    | false =>
      rw [hrt, cond_false] at hl hr
      exact Ev.neg rfl (ih (j + 1) (id + 1) acc (by omega) (by omega) (by omega) hl hr)
    | true =>
      rw [hrt, cond_true] at hl hr
      have e : acc ++ (id :: instRoots f (id + 1) (x.2.1.drop (j + 1)) ++ endN x.2.2) = acc ++ [id] ++ (instRoots f (id + 1) (x.2.1.drop (j + 1)) ++ endN x.2.2) := by simp
      rw [e] at hl hr
      refine Ev.pos rfl (Ev.dp (show (acc.length + [id].length) * 8 ≤ 140737488355328 by simp only [List.length_append] at hl; omega) ?_)
      exact ih (j + 1) (id + 1) (acc ++ [id]) (by omega) (by omega) (by omega) hl hr
theorem specSeeds (hf : Fm funcs f) {m : List Int} {r} : ∀ (d j : Nat) (id : Int) (acc : List Int), j + d = f.2.2.1.length → 0 ≤ id → id + sumB wB (f.2.2.1.drop j) ≤ 100 → (acc ++ blkSeeds f id (f.2.2.1.drop j)).length ≤ 1000 →
    Ev (fun k => spec_l10Needed.l2 k m f (acc ++ blkSeeds f id (f.2.2.1.drop j))) r → Ev (fun k => spec_l10Needed.l0 k id (j : Int) f m acc) r := by
  have h10 := hf.b10
  intro d
  induction d with
  | zero =>
    intro j id acc hj h0 h1 hl hr
    obtain rfl : j = f.2.2.1.length := by omega
    refine Ev.step hr fun k => ?_
    show spec_l10Needed.l0_ k (spec_l10Needed.l0 k) (spec_l10Needed.l1 k) (spec_l10Needed.l2 k) _ _ f m acc = _
    unfold spec_l10Needed.l0_
    simp [head_end, blkSeeds]
  | succ d ih =>
    intro j id acc hj h0 h1 hl hr
    have hlt : j < f.2.2.1.length := by omega
    have hn := sumB_nonneg (w := wB) (l := f.2.2.1.drop (j + 1)) fun y _ => wB_nonneg y
    rw [sumB_drop _ _ _ hlt] at h1
    rw [List.drop_eq_getElem_cons hlt] at hl hr
    have e : acc ++ blkSeeds f id (f.2.2.1[j] :: f.2.2.1.drop (j + 1)) = acc ++ (instRoots f (id + (f.2.2.1[j].1.length : Int)) (f.2.2.1[j].2.1.drop 0) ++ endN f.2.2.1[j].2.2) ++ blkSeeds f (id + wB f.2.2.1[j]) (f.2.2.1.drop (j + 1)) := by simp [blkSeeds]
    rw [e] at hl hr
    have hw : wB f.2.2.1[j] = ((f.2.2.1[j].1.length : Nat) : Int) + ((f.2.2.1[j].2.1.length : Nat) : Int) := rfl
    refine Ev.succ ?_
    show Ev (fun k => spec_l10Needed.l0_ k (spec_l10Needed.l0 k) (spec_l10Needed.l1 k) (spec_l10Needed.l2 k) _ _ f m acc) _
    unfold spec_l10Needed.l0_
    simp only [head_in hlt, head_0, Bool.and_self, cond_true, get_in hlt, wrap_id (x := id + ((List.length f.2.2.1[j].1 : Nat) : Int)) (by omega) (by omega)]
    refine specInsts hf (List.getElem_mem hlt) (by omega) f.2.2.1[j].2.1.length 0 _ acc (by omega) (by omega) (by omega) (by rw [List.length_append] at hl; omega) ?_
    have e2 : id + ((List.length f.2.2.1[j].1 : Nat) : Int) + ((List.length f.2.2.1[j].2.1 : Nat) : Int) = id + wB f.2.2.1[j] := by omega
    rw [e2]
    exact ih (j + 1) (id + wB f.2.2.1[j]) _ (by omega) (by omega) (by omega) hl hr
/-! ### the marks spread -/
theorem implSpread (hs : Small tFunc f) (hf : Fm funcs f) : ∀ (n : Nat) (q : List Int) (out : List Bool), n ≤ 3000 → (∀ x ∈ q, vid f x) → (out.length : Int) = cntB f → q.length + 11 * offs out ≤ n → Ev (fun k => impl_needed.l2 k f out q) (rowR (spread (namesF f) n q out))
  | 0, [], out, _, _, _, _ => Ev.step (g' := fun _ => some (rowR out)) (Ev.cst rfl) fun k => rfl
  | 0, b :: q, out, _, _, _, hm => by simp at hm
  | n + 1, [], out, _, _, _, _ => Ev.step (g' := fun _ => some (rowR out)) (Ev.cst rfl) fun k => rfl
  | n + 1, b :: q, out, hn, hq, ho, hm => by
    have v := hq b (by simp)
    have h0 : 0 ≤ b := v.1
    have h1 : b < ((out.length : Nat) : Int) := by rw [ho]; exact v.2
    obtain ⟨n10, nin⟩ := namesF_ok hf v
    simp only [List.length_cons] at hm
    refine Ev.succ ?_
    show Ev (fun k => impl_needed.l2_ k (impl_needed.l0 k) (impl_needed.l1 k) (impl_needed.l2 k) f out (b :: q)) _
    unfold impl_needed.l2_
    refine Ev.dp (show (0 : Int) < (((b :: q).length : Nat) : Int) by simp only [List.length_cons]; omega) (Ev.dd (show (0 : Nat) ≤ 0 by omega) (show (0 : Int) < (((b :: q).length : Nat) : Int) by simp only [List.length_cons]; omega) (Ev.dd (show (0 : Nat) ≤ 1 by omega) (show (1 : Int) ≤ (((b :: q).length : Nat) : Int) by simp only [List.length_cons]; omega) (Ev.dd h0 h1 ?_)))
    show Ev (fun k => bif !(out.getD b.toNat false) then _ else impl_needed.l2 k f out q) _
    by_cases hv : out.getD b.toNat false = true
    · refine Ev.neg (by rw [hv]; rfl) ((implSpread hs hf n q out (by omega) (fun y hy => hq y (by simp [hy])) ho (by omega)).rw ?_)
      simp only [spread]; rw [if_pos hv]
    · have hfl : out.getD b.toNat false = false := by simpa using hv
      have hd := offs_set out b.toNat (by omega) hfl
      refine Ev.pos (by rw [hfl]; rfl) (Ev.dd h0 h1 (Ev.bind (implNames hs hf v) (Ev.dp (show (q.length + (namesF f b).length) * 8 ≤ 140737488355328 by omega) ?_)))
      refine (implSpread hs hf n (q ++ namesF f b) (out.set b.toNat true) (by omega) (fun y hy => (List.mem_append.1 hy).elim (fun h => hq y (by simp [h])) (nin y)) (by simpa using ho) (by rw [List.length_append]; omega)).rw ?_
      simp only [spread]; rw [if_neg hv]
theorem specSpread (hf : Fm funcs f) : ∀ (n : Nat) (q : List Int) (out : List Bool), n ≤ 3000 → (∀ x ∈ q, vid f x) → (out.length : Int) = cntB f → q.length + 11 * offs out ≤ n → Ev (fun k => spec_l10Needed.l2 k (idx out 0) f q) (one (idx (spread (namesF f) n q out) 0))
  | 0, [], out, _, _, _, _ => Ev.step (g' := fun _ => some (one (idx out 0))) (Ev.cst rfl) fun k => rfl
  | 0, b :: q, out, _, _, _, hm => by simp at hm
  | n + 1, [], out, _, _, _, _ => Ev.step (g' := fun _ => some (one (idx out 0))) (Ev.cst rfl) fun k => rfl
  | n + 1, b :: q, out, hn, hq, ho, hm => by
    have v := hq b (by simp)
    have h60 := hf.cnt
    have h0 : 0 ≤ b := v.1
    have h1 : b < ((out.length : Nat) : Int) := by rw [ho]; exact v.2
    obtain ⟨n10, nin⟩ := namesF_ok hf v
    have hI := instP_in hf v
    simp only [List.length_cons] at hm
    have hi : smI (idx out 0) := smI_small (by have := idx_length out 0; omega)
    refine Ev.succ ?_
    show Ev (fun k => spec_l10Needed.l2_ k (spec_l10Needed.l0 k) (spec_l10Needed.l1 k) (spec_l10Needed.l2 k) (idx out 0) f (b :: q)) _
    unfold spec_l10Needed.l2_
    refine Ev.dp (show (0 : Int) < (((b :: q).length : Nat) : Int) by simp only [List.length_cons]; omega) (Ev.dd (show (0 : Nat) ≤ 0 by omega) (show (0 : Int) < (((b :: q).length : Nat) : Int) by simp only [List.length_cons]; omega) (Ev.dd (show (0 : Nat) ≤ 1 by omega) (show (1 : Int) ≤ (((b :: q).length : Nat) : Int) by simp only [List.length_cons]; omega) (Ev.bind (Ev.all fun k => specCopy k (l := q) (by omega)) ?_)))
    show Ev (fun k => Option.bind (spec_l1Has.f k (idx out 0) b) fun r2 => bif r2.1.1.1 then spec_l10Needed.l2 k (idx out 0) f q else Option.bind (spec_l1Put.f k (idx out 0) b) fun r3 => Option.bind (spec_l2Place.f k f b) fun r4 => _) _
    refine Ev.bind (has_ev _ b hi) ?_
    by_cases hv : out.getD b.toNat false = true
    · refine Ev.dp ((mem_idx0 out b h0).2 hv) ((specSpread hf n q out (by omega) (fun y hy => hq y (by simp [hy])) ho (by omega)).rw ?_)
      simp only [spread]; rw [if_pos hv]
    · have hfl : out.getD b.toNat false = false := by simpa using hv
      have hd := offs_set out b.toNat (by omega) hfl
      have hni : b ∉ idx out 0 := fun h => hv ((mem_idx0 out b h0).1 h)
      have hset : idx (out.set b.toNat true) 0 = putI b (idx out 0) := by
        have := idx_set out 0 b.toNat (by omega) hfl
        rw [show (0 : Int) + (b.toNat : Int) = b by omega] at this
        exact this
      have hgo : Ev (fun k => spec_l10Needed.l2 k (putI b (idx out 0)) f (q ++ namesF f b)) (one (idx (spread (namesF f) (n + 1) (b :: q) out) 0)) := by
        have := specSpread hf n (q ++ namesF f b) (out.set b.toNat true) (by omega) (fun y hy => (List.mem_append.1 hy).elim (fun h => hq y (by simp [h])) (nin y)) (by simpa using ho) (by rw [List.length_append]; omega)
        rw [hset] at this
        refine this.rw ?_
        simp only [spread]; rw [if_neg hv]
      refine Ev.dn hni (Ev.bind (put_ev _ b hi hni) (Ev.bind (specPlace hf v.1 v.2) ?_))
      generalize hA : one (idx (spread (namesF f) (n + 1) (b :: q) out) 0) = A at hgo
      generalize putI b (idx out 0) = P at hgo
      unfold namesF at hgo n10
      rcases place_cases b v.1 v.2 with ⟨hl, hp⟩ | ⟨hl, j, hj, hp, ha, hb⟩
      · rw [hp, if_pos rfl, List.append_nil] at hgo
        rw [hp]
        exact Ev.dp (show (-1 : Int) < 0 by decide) hgo
      · have hP2 := fun c => instP_yes (hj := hj) hp c
        have hPe : ∀ at', placeOf f b = ((j : Int), at') → ¬ at' < ((List.length f.2.2.1[j].1 : Nat) : Int) → (instP f b).1 = f.2.2.1[j].2.1.getD (at' - ((List.length f.2.2.1[j].1 : Nat) : Int)).toNat tInstZ := fun at' hp' c => by
          unfold instP
          rw [hp', if_neg (by show ¬ ((j : Int) = -1); omega)]
          simp only []
          rw [get_in hj, if_neg c]
        have hPe := hPe _ hp
        rw [hp] at hgo n10
        rw [hp]
        generalize b - (f.1.length : Int) - sumB wB (f.2.2.1.take j) = at' at ha hb hP2 hgo n10 hPe
        have hx := hf.w60 (List.getElem_mem hj)
        rw [if_neg (by show ¬ ((j : Int) = -1); omega)] at hgo n10
        simp only [] at hgo n10
        rw [get_in hj] at hgo n10
        unfold wB at hb hx
        refine Ev.dn (show ¬ ((j : Int) < 0) by omega) (Ev.dd (show 0 ≤ (j : Int) by omega) (show (j : Int) < (f.2.2.1.length : Int) by omega) ?_)
        simp only [two]
        rw [get_in hj]
        by_cases c : at' < ((List.length f.2.2.1[j].1 : Nat) : Int)
        · rw [if_pos c] at hgo n10
          exact Ev.dp c (Ev.dd ha c (Ev.dp (show (q.length + _) * 8 ≤ 140737488355328 by omega) hgo))
        · rw [if_neg c, hPe c] at hgo n10
          have hw : IntKind.wrap .i64 (at' - ((List.length f.2.2.1[j].1 : Nat) : Int)) = at' - ((List.length f.2.2.1[j].1 : Nat) : Int) := wrap_id (by omega) (by omega)
          obtain ⟨x, hxm, hi'⟩ := hI (hP2 c)
          rw [hPe c] at hi'
          have hol := (hf.vo hxm hi').1
          rw [hw]
          exact Ev.dn c (Ev.dd (by omega) (by omega) (Ev.bind (Ev.all fun k => specOps k (by omega)) (Ev.dp (show (q.length + (opsB (f.2.2.1[j].2.1.getD (at' - ((List.length f.2.2.1[j].1 : Nat) : Int)).toNat tInstZ)).length) * 8 ≤ 140737488355328 by omega) hgo)))
end
end Go.Proofs.Ytkfehogikjcgkaa.V
namespace Go.Proofs.Ytkfehogikjcgkaa.V
open Go
set_option linter.unusedVariables false
set_option linter.unusedSimpArgs false
section
variable {funcs : Int} {f : tFuncD}
theorem idx_rep : ∀ (n : Nat) (i : Int), idx (List.replicate n false) i = []
  | 0, _ => rfl
  | n + 1, i => by simp only [List.replicate_succ, idx]; rw [if_neg (by decide)]; exact idx_rep n (i + 1)
/-- The marks of what is needed. -/
def needM (f : tFuncD) : List Bool := spread (namesF f) 3000 (blkSeeds f (f.1.length : Int) f.2.2.1) (List.replicate (cntB f).toNat false)
theorem cnt0 (f : tFuncD) : 0 ≤ cntB f := by
  have := sumB_nonneg (w := wB) (l := f.2.2.1) fun y _ => wB_nonneg y
  rw [cntB_eq]; omega
theorem needM_length (f : tFuncD) : ((needM f).length : Int) = cntB f := by
  have := cnt0 f
  unfold needM
  rw [spread_length, List.length_replicate]; omega
theorem seeds_few (hf : Fm funcs f) : (blkSeeds f (f.1.length : Int) f.2.2.1).length ≤ 70 := by
  have h1 := seeds_len f f.2.2.1 (f.1.length : Int)
  have h2 := hf.cnt
  have h3 := hf.b10
  rw [cntB_eq] at h2
  omega
theorem roots_few (hf : Fm funcs f) : (rootsFrom f 0 (cntB f).toNat ++ endsOf f.2.2.1).length ≤ 70 := by
  have h1 := rootsFrom_len f (cntB f).toNat 0
  have h2 := hf.cnt
  have h3 := hf.b10
  have h4 : ∀ l : List tBlockD, (endsOf l).length ≤ l.length := fun l => by
    induction l with
    | nil => simp [endsOf]
    | cons x l ih =>
      have := endN_len x.2.2
      simp only [endsOf, List.flatMap_cons, List.length_append, List.length_cons] at ih ⊢
      omega
  have := h4 f.2.2.1
  rw [List.length_append]
  omega
theorem need_same (hf : Fm funcs f) : spread (namesF f) 3000 (rootsFrom f 0 (cntB f).toNat ++ endsOf f.2.2.1) (List.replicate (cntB f).toNat false) = needM f := by
  have h0 := cnt0 f
  have h2 := hf.cnt
  have h3 := seeds_few hf
  have h4 := roots_few hf
  have hc : (((cntB f).toNat : Nat) : Int) = cntB f := by omega
  exact spread_same (c := (cntB f).toNat) (fun x hx => by
    rw [hc] at hx ⊢
    exact namesF_ok hf hx) (fun x hx => by
    rw [hc]
    exact seeds_v hf x hx) (fun x => seeds_same hf x) (by omega) (by omega)
theorem implneeded (hs : Small tFunc f) (hf : Fm funcs f) : Ev (fun k => impl_needed.f k f) (rowR (needM f)) := by
  have h0 := cnt0 f
  have h2 := hf.cnt
  have h4 := roots_few hf
  unfold impl_needed.f
  refine Ev.bind (implCount hs) (Ev.pos (by
    show (decide (cntB f = cntB f) && decide (0 ≤ cntB f) && decide (cntB f * 1 ≤ 281474976710656)) = true
    rw [dpos rfl, dpos h0, dpos (show cntB f * 1 ≤ 281474976710656 by omega)]; rfl) (Ev.bind (implCount hs) ?_))
  have h5 : (rootsFrom f 0 (cntB f).toNat).length ≤ 1000 := by rw [List.length_append] at h4; omega
  refine implRoots hs hf (cntB f).toNat 0 [] (by omega) h5 ?_
  refine implEnds hf.b10 f.2.2.1.length 0 _ (by omega) (by simp only [List.nil_append, List.drop_zero]; omega) ?_
  rw [List.nil_append, List.drop_zero]
  refine (implSpread hs hf 3000 _ _ (by omega) (seeds_v hf) (by show ((List.length (List.replicate (cntB f).toNat false) : Nat) : Int) = _; rw [List.length_replicate]; omega) ?_).rw ?_
  · show _ + 11 * offs (List.replicate (cntB f).toNat false) ≤ _
    rw [offs_replicate]; omega
  · exact congrArg rowR (need_same hf)
theorem implMarked (out : List Bool) (h : out.length ≤ 1000) : ∀ (d i : Nat) (acc : List Int), i + d = out.length → acc.length ≤ i → Ev (fun k => impl_Needed.l0 k ((out.length : Nat) : Int) (i : Int) acc out) (rowR (acc ++ idx (out.drop i) (i : Int))) := by
  intro d
  induction d with
  | zero =>
    intro i acc hi ha
    obtain rfl : i = out.length := by omega
    refine Ev.step (g' := fun _ => some (rowR (acc ++ []))) (Ev.cst (by simp [idx])) fun k => ?_
    show impl_Needed.l0_ k (impl_Needed.l0 k) _ _ acc out = _
    unfold impl_Needed.l0_
    simp [head_end]
  | succ d ih =>
    intro i acc hi ha
    have hlt : i < out.length := by omega
    rw [List.drop_eq_getElem_cons hlt]
    refine Ev.succ ?_
    show Ev (fun k => impl_Needed.l0_ k (impl_Needed.l0 k) _ _ acc out) _
    unfold impl_Needed.l0_
    simp only [head_in hlt, head_0, Bool.and_self, cond_true, get_in hlt, wrap_nat (show i < 9223372036854775807 by omega)]
    simp only [idx]
    by_cases c : out[i] = true
    · rw [if_pos c]
      refine Ev.pos c (Ev.dp (show (acc.length + [(i : Int)].length) * 8 ≤ 140737488355328 by simp only [List.length_cons, List.length_nil]; omega) ?_)
      refine (ih (i + 1) (acc ++ [(i : Int)]) (by omega) (by simp; omega)).rw ?_
      simp
    · rw [if_neg c]
      exact Ev.neg (by simpa using c) ((ih (i + 1) acc (by omega) (by omega)).rw (by simp))
/-- What is needed, as numbers that rise. -/
def needF (f : tFuncD) : List Int := bif funcB 3 f then idx (needM f) 0 else []
theorem implNeeded (hs : Small tFunc f) : Ev (fun k => impl_Needed.f k f) (rowR (needF f)) := by
  unfold impl_Needed.f needF
  refine Ev.bind (a := one (funcB 3 f)) (Ev.bind (implFunc hs (by omega) (by omega)) (Ev.cst rfl)) ?_
  cases h : funcB 3 f with
  | false => exact Ev.pos rfl (Ev.cst rfl)
  | true =>
    have hf := Fm.of h
    have h2 := hf.cnt
    have h3 := needM_length f
    refine Ev.neg rfl (Ev.bind (implneeded hs hf) ?_)
    exact (implMarked (needM f) (by omega) (needM f).length 0 [] (by omega) (by simp)).rw (by simp)
theorem specNeeded (hs : Small tFunc f) : Ev (fun k => spec_Needed.f k f) (one (needF f)) := by
  unfold spec_Needed.f needF
  refine Ev.bind (specFunc hs (by omega) (by omega)) ?_
  cases h : funcB 3 f with
  | false => exact Ev.pos rfl (Ev.cst rfl)
  | true =>
    have hf := Fm.of h
    have h2 := hf.cnt
    have h0 := cnt0 f
    have h3 := seeds_few hf
    have hc := cntB_eq f
    refine Ev.neg rfl (Ev.bind (a := one (idx (needM f) 0)) ?_ (Ev.cst rfl))
    unfold spec_l10Needed.f
    refine specSeeds hf f.2.2.1.length 0 _ [] (by omega) (by omega) (by rw [List.drop_zero]; omega) (by rw [List.drop_zero, List.nil_append]; omega) ?_
    rw [List.drop_zero, List.nil_append]
    have := specSpread hf 3000 (blkSeeds f (f.1.length : Int) f.2.2.1) (List.replicate (cntB f).toNat false) (by omega) (fun x hx => seeds_v hf x ((seeds_same hf x).2 hx)) (by rw [List.length_replicate]; omega) (by rw [offs_replicate]; omega)
    rw [idx_rep] at this
    exact this
theorem needF_small (f : tFuncD) : smI (needF f) := by
  unfold needF
  cases h : funcB 3 f with
  | false => exact smI_small (by simp)
  | true =>
    have h2 := (Fm.of h).cnt
    have h3 := needM_length f
    have h4 := idx_length (needM f) 0
    exact smI_small (by simp only [cond_true]; omega)
end
end Go.Proofs.Ytkfehogikjcgkaa.V
namespace Go.Proofs.Ytkfehogikjcgkaa.V
open Go
theorem PureFnExactNeeded : ∀ (a0 : tFuncD), Wf tFunc a0 → ∃ k, laws_FnExactNeeded.f k a0 = some (((true, ()), ()), ()) := by
  intro a hw
  refine Ev.ex (g := fun k => laws_FnExactNeeded.f k a) ?_
  obtain ⟨s, e, _, _, c⟩ := szFunc a hw 1048576 (by omega) (by omega)
  unfold laws_FnExactNeeded.f
  refine Ev.bind e ?_
  by_cases hs : s < 0
  · exact Ev.pos (dpos hs) (Ev.cst rfl)
  have h := c (by omega)
  have hm : List.length (needF a) ≤ 1048576 := needF_small a
  have hi : Small (.list (.int .i64)) (needF a) := ⟨hm, fun _ _ => trivial⟩
  obtain ⟨n1, p1, b1, em, hn1⟩ := markFunc a.2.1 h.1 h.2.2.1
  have hh := heldInts 1 (needF a).length hm (by omega) (by omega)
  have heq : (!decide ((1 : Int) + (needF a).length = 1 + (needF a).length)) = false := by simp
  refine Ev.neg (dneg hs) (Ev.bind (toFunc h) (Ev.bind (specNeeded h) (Ev.bind (toFunc h) (Ev.bind (implNeeded h) (Ev.yes (eqInts hi) (Ev.bind (toFunc h) (Ev.yes (eqFunc h) (Ev.bind em (Ev.dn (show ¬ n1 < 0 by omega) (Ev.yes (eqInts hi) (Ev.bind (markInts (needF a) 1 hm (by omega) (by omega)) (Ev.bind hh (Ev.dn (show ¬ (1 : Int) + (needF a).length < 0 by omega) (Ev.neg heq ?_))))))))))))))
  exact Ev.bind (toFunc h) (Ev.bind (implNeeded h) (Ev.yes (eqInts hi) (Ev.bind hh (Ev.dn (show ¬ (1 : Int) + (needF a).length < 0 by omega) (Ev.neg heq (Ev.cst rfl))))))
end Go.Proofs.Ytkfehogikjcgkaa.V
