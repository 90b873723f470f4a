/- PROVED HERE: what the functions that the law FnExactWithout reaches do in memory, each as a plain Lean function, and what these tell: part 5 of 7 of the proof of that law; no condition beyond those written out at each theorem. -/
import Derived.Deep.Slices
import Derived.ProofKit
import Derived.Test.YtkfehogikjcgkaaGreatZFnExactWithout0
import Derived.Test.YtkfehogikjcgkaaGreatZFnExactWithout2
import Derived.Test.YtkfehogikjcgkaaGreatZFnExactWithout3
namespace Go.Proofs.YtkfehogikjcgkaaGreat.V
open Go
set_option linter.unusedVariables false
noncomputable section
/-! ### laws.markInstS: function 68 -/
abbrev laws_markInstS.R := (((Int × Unit) × Unit) × ((List tInstD) × Unit))
abbrev laws_markInstS.T0 : Type := Int → Int → (List tInstD) → Option laws_markInstS.R
def laws_markInstS.l0_ (k : Nat) (l0 : laws_markInstS.T0) (a0 : Int) (a1 : Int) (a2 : List tInstD) : Option laws_markInstS.R := bif decide (a1 < ((List.length a2 : Nat) : Int)) then (bif (decide (0 ≤ a1)) && (decide (a1 < ((List.length a2 : Nat) : Int))) then (bif (decide (0 ≤ a1)) && (decide (a1 < ((List.length (updAt tInstZ a2 (Int.toNat a1) (fun q_ => (a0, q_.2))) : Nat) : Int))) then (bif (decide (0 ≤ a1)) && (decide (a1 < ((List.length (updAt tInstZ (updAt tInstZ a2 (Int.toNat a1) (fun q_ => (a0, q_.2))) (Int.toNat a1) (fun q_ => (q_.1, IntKind.wrap .i64 (a0 + 1), q_.2.2))) : Nat) : Int))) then (bif (decide (0 ≤ a1)) && (decide (a1 < ((List.length (updAt tInstZ (updAt tInstZ (updAt tInstZ a2 (Int.toNat a1) (fun q_ => (a0, q_.2))) (Int.toNat a1) (fun q_ => (q_.1, IntKind.wrap .i64 (a0 + 1), q_.2.2))) (Int.toNat a1) (fun q_ => (q_.1, q_.2.1, IntKind.wrap .i64 ((IntKind.wrap .i64 (a0 + 1)) + 1), q_.2.2.2))) : Nat) : Int))) then (bif (decide (0 ≤ a1)) && (decide (a1 < ((List.length (updAt tInstZ (updAt tInstZ (updAt tInstZ (updAt tInstZ a2 (Int.toNat a1) (fun q_ => (a0, q_.2))) (Int.toNat a1) (fun q_ => (q_.1, IntKind.wrap .i64 (a0 + 1), q_.2.2))) (Int.toNat a1) (fun q_ => (q_.1, q_.2.1, IntKind.wrap .i64 ((IntKind.wrap .i64 (a0 + 1)) + 1), q_.2.2.2))) (Int.toNat a1) (fun q_ => (q_.1, q_.2.1, q_.2.2.1, IntKind.wrap .i64 ((IntKind.wrap .i64 ((IntKind.wrap .i64 (a0 + 1)) + 1)) + 1), q_.2.2.2.2))) : Nat) : Int))) then (bif (decide (0 ≤ a1)) && (decide (a1 < ((List.length (updAt tInstZ (updAt tInstZ (updAt tInstZ (updAt tInstZ (updAt tInstZ a2 (Int.toNat a1) (fun q_ => (a0, q_.2))) (Int.toNat a1) (fun q_ => (q_.1, IntKind.wrap .i64 (a0 + 1), q_.2.2))) (Int.toNat a1) (fun q_ => (q_.1, q_.2.1, IntKind.wrap .i64 ((IntKind.wrap .i64 (a0 + 1)) + 1), q_.2.2.2))) (Int.toNat a1) (fun q_ => (q_.1, q_.2.1, q_.2.2.1, IntKind.wrap .i64 ((IntKind.wrap .i64 ((IntKind.wrap .i64 (a0 + 1)) + 1)) + 1), q_.2.2.2.2))) (Int.toNat a1) (fun q_ => (q_.1, q_.2.1, q_.2.2.1, q_.2.2.2.1, IntKind.wrap .i64 ((IntKind.wrap .i64 ((IntKind.wrap .i64 ((IntKind.wrap .i64 (a0 + 1)) + 1)) + 1)) + 1), q_.2.2.2.2.2))) : Nat) : Int))) then (bif (decide (0 ≤ a1)) && (decide (a1 < ((List.length (updAt tInstZ (updAt tInstZ (updAt tInstZ (updAt tInstZ (updAt tInstZ (updAt tInstZ a2 (Int.toNat a1) (fun q_ => (a0, q_.2))) (Int.toNat a1) (fun q_ => (q_.1, IntKind.wrap .i64 (a0 + 1), q_.2.2))) (Int.toNat a1) (fun q_ => (q_.1, q_.2.1, IntKind.wrap .i64 ((IntKind.wrap .i64 (a0 + 1)) + 1), q_.2.2.2))) (Int.toNat a1) (fun q_ => (q_.1, q_.2.1, q_.2.2.1, IntKind.wrap .i64 ((IntKind.wrap .i64 ((IntKind.wrap .i64 (a0 + 1)) + 1)) + 1), q_.2.2.2.2))) (Int.toNat a1) (fun q_ => (q_.1, q_.2.1, q_.2.2.1, q_.2.2.2.1, IntKind.wrap .i64 ((IntKind.wrap .i64 ((IntKind.wrap .i64 ((IntKind.wrap .i64 (a0 + 1)) + 1)) + 1)) + 1), q_.2.2.2.2.2))) (Int.toNat a1) (fun q_ => (q_.1, q_.2.1, q_.2.2.1, q_.2.2.2.1, q_.2.2.2.2.1, IntKind.wrap .i64 ((IntKind.wrap .i64 ((IntKind.wrap .i64 ((IntKind.wrap .i64 ((IntKind.wrap .i64 (a0 + 1)) + 1)) + 1)) + 1)) + 1), q_.2.2.2.2.2.2))) : Nat) : Int))) then (Option.bind (laws_markInt64S.f k (IntKind.wrap .i64 ((IntKind.wrap .i64 ((IntKind.wrap .i64 ((IntKind.wrap .i64 ((IntKind.wrap .i64 ((IntKind.wrap .i64 (a0 + 1)) + 1)) + 1)) + 1)) + 1)) + 1)) ((List.getD (updAt tInstZ (updAt tInstZ (updAt tInstZ (updAt tInstZ (updAt tInstZ (updAt tInstZ a2 (Int.toNat a1) (fun q_ => (a0, q_.2))) (Int.toNat a1) (fun q_ => (q_.1, IntKind.wrap .i64 (a0 + 1), q_.2.2))) (Int.toNat a1) (fun q_ => (q_.1, q_.2.1, IntKind.wrap .i64 ((IntKind.wrap .i64 (a0 + 1)) + 1), q_.2.2.2))) (Int.toNat a1) (fun q_ => (q_.1, q_.2.1, q_.2.2.1, IntKind.wrap .i64 ((IntKind.wrap .i64 ((IntKind.wrap .i64 (a0 + 1)) + 1)) + 1), q_.2.2.2.2))) (Int.toNat a1) (fun q_ => (q_.1, q_.2.1, q_.2.2.1, q_.2.2.2.1, IntKind.wrap .i64 ((IntKind.wrap .i64 ((IntKind.wrap .i64 ((IntKind.wrap .i64 (a0 + 1)) + 1)) + 1)) + 1), q_.2.2.2.2.2))) (Int.toNat a1) (fun q_ => (q_.1, q_.2.1, q_.2.2.1, q_.2.2.2.1, q_.2.2.2.2.1, IntKind.wrap .i64 ((IntKind.wrap .i64 ((IntKind.wrap .i64 ((IntKind.wrap .i64 ((IntKind.wrap .i64 (a0 + 1)) + 1)) + 1)) + 1)) + 1), q_.2.2.2.2.2.2))) (Int.toNat a1) tInstZ).2.2.2.2.2.2.1)) fun r1 => l0 r1.1.1.1 (IntKind.wrap .i64 (a1 + 1)) (updAt tInstZ (updAt tInstZ (updAt tInstZ (updAt tInstZ (updAt tInstZ (updAt tInstZ (updAt tInstZ a2 (Int.toNat a1) (fun q_ => (a0, q_.2))) (Int.toNat a1) (fun q_ => (q_.1, IntKind.wrap .i64 (a0 + 1), q_.2.2))) (Int.toNat a1) (fun q_ => (q_.1, q_.2.1, IntKind.wrap .i64 ((IntKind.wrap .i64 (a0 + 1)) + 1), q_.2.2.2))) (Int.toNat a1) (fun q_ => (q_.1, q_.2.1, q_.2.2.1, IntKind.wrap .i64 ((IntKind.wrap .i64 ((IntKind.wrap .i64 (a0 + 1)) + 1)) + 1), q_.2.2.2.2))) (Int.toNat a1) (fun q_ => (q_.1, q_.2.1, q_.2.2.1, q_.2.2.2.1, IntKind.wrap .i64 ((IntKind.wrap .i64 ((IntKind.wrap .i64 ((IntKind.wrap .i64 (a0 + 1)) + 1)) + 1)) + 1), q_.2.2.2.2.2))) (Int.toNat a1) (fun q_ => (q_.1, q_.2.1, q_.2.2.1, q_.2.2.2.1, q_.2.2.2.2.1, IntKind.wrap .i64 ((IntKind.wrap .i64 ((IntKind.wrap .i64 ((IntKind.wrap .i64 ((IntKind.wrap .i64 (a0 + 1)) + 1)) + 1)) + 1)) + 1), q_.2.2.2.2.2.2))) (Int.toNat a1) (fun q_ => (q_.1, q_.2.1, q_.2.2.1, q_.2.2.2.1, q_.2.2.2.2.1, q_.2.2.2.2.2.1, r1.2.1, q_.2.2.2.2.2.2.2)))) else none) else none) else none) else none) else none) else none) else none) else (some (((a0, ()), ()), (a2, ())))
def laws_markInstS.all : Nat → (laws_markInstS.T0) × Unit
  | 0 => (fun _ _ _ => none, ())
  | k + 1 => (laws_markInstS.l0_ k (laws_markInstS.all k).1, ())
def laws_markInstS.l0 (k : Nat) : laws_markInstS.T0 := (laws_markInstS.all k).1
def laws_markInstS.f (k : Nat) (a0 : Int) (a1 : List tInstD) : Option laws_markInstS.R := laws_markInstS.l0 k a0 0 a1
def laws_markInstS.s (k : Nat) : FS := ⟨[⟨false, [.own 0]⟩, ⟨false, [.int .i64]⟩], [(0, .row true tInst)], false, [⟨false, [.int .i64]⟩], [(0, .row true tInst)], [0], fun x => laws_markInstS.f k x.1.2.1.1 x.2.1⟩
def laws_markInstS.E (k : Nat) : Ents := [(⟨13, []⟩, laws_markInt64S.s k)]
def laws_markInstS.L0 (l : laws_markInstS.T0) : LS laws_markInstS.R := ⟨[0], [(0, ⟨false, [.own 0]⟩), (1, ⟨false, [.int .i64]⟩), (5, ⟨false, [.int .i64]⟩)], [(0, .row true tInst)], fun x => l x.1.2.1.1 x.1.2.2.1.1 x.2.1⟩
def laws_markInstS.L (l0 : laws_markInstS.T0) : List (LS laws_markInstS.R) := [laws_markInstS.L0 l0]
def laws_markInstS.c : Code := Tryz.f68.body.getD .skip
theorem laws_markInstS.eq (k : Nat) (x) : (laws_markInstS.s k).pf x = execF tab (laws_markInstS.E k) Tryz.f68 laws_markInstS.c (laws_markInstS.s k) (laws_markInstS.L (laws_markInstS.l0 k)) x := by kernel_rfl
theorem laws_markInstS.r0 (l0 : laws_markInstS.T0) (k : Nat) (x) : laws_markInstS.l0_ k l0 x.1.2.1.1 x.1.2.2.1.1 x.2.1 = roundOf tab (laws_markInstS.E k) (laws_markInstS.L l0) laws_markInstS.c (fin tab Tryz.f68 (laws_markInstS.s k)) 0 (laws_markInstS.L0 l0) x := by kernel_rfl
theorem laws_markInstS.sound : ∀ k, Sound Tryz.prog 68 (laws_markInstS.s k) := sound_of mixed tab_ok (f := 68) (fn := Tryz.f68) (c := laws_markInstS.c) (by kernel_rfl) (by kernel_rfl) (by kernel_rfl) ⟨[⟨false, [.own 0]⟩, ⟨false, [.int .i64]⟩], [(0, .row true tInst)], false, [⟨false, [.int .i64]⟩], [(0, .row true tInst)], [0]⟩ (by kernel_rfl) (by kernel_rfl) (fun k => (laws_markInstS.s k).pf) laws_markInstS.E (fun k => (EntsOK.cons (laws_markInt64S.sound k) EntsOK.nil)) (fun k => laws_markInstS.L (laws_markInstS.l0 k)) (fun k => ⟨rfl, trivial⟩) ⟨fun _ => rfl, trivial⟩ (fun k => ⟨⟨(laws_markInstS.L0 (laws_markInstS.l0 (k + 1))).l, rfl, fun x => laws_markInstS.r0 (laws_markInstS.l0 k) k x⟩, trivial⟩) laws_markInstS.eq
end
end Go.Proofs.YtkfehogikjcgkaaGreat.V
namespace Go.Proofs.YtkfehogikjcgkaaGreat.V
open Go
set_option linter.unusedVariables false
noncomputable section
/-! ### laws.markBlockS: function 40 -/
abbrev laws_markBlockS.R := (((Int × Unit) × Unit) × ((List tBlockD) × Unit))
abbrev laws_markBlockS.T0 : Type := Int → Int → (List tBlockD) → Option laws_markBlockS.R
def laws_markBlockS.l0_ (k : Nat) (l0 : laws_markBlockS.T0) (a0 : Int) (a1 : Int) (a2 : List tBlockD) : Option laws_markBlockS.R := bif decide (a1 < ((List.length a2 : Nat) : Int)) then (bif (decide (0 ≤ a1)) && (decide (a1 < ((List.length a2 : Nat) : Int))) then (Option.bind (laws_markPhiS.f k a0 ((List.getD a2 (Int.toNat a1) tBlockZ).1)) fun r1 => bif (decide (0 ≤ a1)) && (decide (a1 < ((List.length (updAt tBlockZ a2 (Int.toNat a1) (fun q_ => (r1.2.1, q_.2))) : Nat) : Int))) then (Option.bind (laws_markInstS.f k r1.1.1.1 ((List.getD (updAt tBlockZ a2 (Int.toNat a1) (fun q_ => (r1.2.1, q_.2))) (Int.toNat a1) tBlockZ).2.1)) fun r2 => bif (decide (0 ≤ a1)) && (decide (a1 < ((List.length (updAt tBlockZ (updAt tBlockZ a2 (Int.toNat a1) (fun q_ => (r1.2.1, q_.2))) (Int.toNat a1) (fun q_ => (q_.1, r2.2.1, q_.2.2))) : Nat) : Int))) then (bif (decide (0 ≤ a1)) && (decide (a1 < ((List.length (updAt tBlockZ (updAt tBlockZ (updAt tBlockZ a2 (Int.toNat a1) (fun q_ => (r1.2.1, q_.2))) (Int.toNat a1) (fun q_ => (q_.1, r2.2.1, q_.2.2))) (Int.toNat a1) (fun q_ => (q_.1, q_.2.1, r2.1.1.1, q_.2.2.2))) : Nat) : Int))) then (bif (decide (0 ≤ a1)) && (decide (a1 < ((List.length (updAt tBlockZ (updAt tBlockZ (updAt tBlockZ (updAt tBlockZ a2 (Int.toNat a1) (fun q_ => (r1.2.1, q_.2))) (Int.toNat a1) (fun q_ => (q_.1, r2.2.1, q_.2.2))) (Int.toNat a1) (fun q_ => (q_.1, q_.2.1, r2.1.1.1, q_.2.2.2))) (Int.toNat a1) (fun q_ => (q_.1, q_.2.1, q_.2.2.1, IntKind.wrap .i64 (r2.1.1.1 + 1), q_.2.2.2.2))) : Nat) : Int))) then (bif (decide (0 ≤ a1)) && (decide (a1 < ((List.length (updAt tBlockZ (updAt tBlockZ (updAt tBlockZ (updAt tBlockZ (updAt tBlockZ a2 (Int.toNat a1) (fun q_ => (r1.2.1, q_.2))) (Int.toNat a1) (fun q_ => (q_.1, r2.2.1, q_.2.2))) (Int.toNat a1) (fun q_ => (q_.1, q_.2.1, r2.1.1.1, q_.2.2.2))) (Int.toNat a1) (fun q_ => (q_.1, q_.2.1, q_.2.2.1, IntKind.wrap .i64 (r2.1.1.1 + 1), q_.2.2.2.2))) (Int.toNat a1) (fun q_ => (q_.1, q_.2.1, q_.2.2.1, q_.2.2.2.1, IntKind.wrap .i64 ((IntKind.wrap .i64 (r2.1.1.1 + 1)) + 1), q_.2.2.2.2.2))) : Nat) : Int))) then (l0 (IntKind.wrap .i64 ((IntKind.wrap .i64 ((IntKind.wrap .i64 ((IntKind.wrap .i64 (r2.1.1.1 + 1)) + 1)) + 1)) + 1)) (IntKind.wrap .i64 (a1 + 1)) (updAt tBlockZ (updAt tBlockZ (updAt tBlockZ (updAt tBlockZ (updAt tBlockZ (updAt tBlockZ a2 (Int.toNat a1) (fun q_ => (r1.2.1, q_.2))) (Int.toNat a1) (fun q_ => (q_.1, r2.2.1, q_.2.2))) (Int.toNat a1) (fun q_ => (q_.1, q_.2.1, r2.1.1.1, q_.2.2.2))) (Int.toNat a1) (fun q_ => (q_.1, q_.2.1, q_.2.2.1, IntKind.wrap .i64 (r2.1.1.1 + 1), q_.2.2.2.2))) (Int.toNat a1) (fun q_ => (q_.1, q_.2.1, q_.2.2.1, q_.2.2.2.1, IntKind.wrap .i64 ((IntKind.wrap .i64 (r2.1.1.1 + 1)) + 1), q_.2.2.2.2.2))) (Int.toNat a1) (fun q_ => (q_.1, q_.2.1, q_.2.2.1, q_.2.2.2.1, q_.2.2.2.2.1, IntKind.wrap .i64 ((IntKind.wrap .i64 ((IntKind.wrap .i64 (r2.1.1.1 + 1)) + 1)) + 1), q_.2.2.2.2.2.2)))) else none) else none) else none) else none) else none) else none) else (some (((a0, ()), ()), (a2, ())))
def laws_markBlockS.all : Nat → (laws_markBlockS.T0) × Unit
  | 0 => (fun _ _ _ => none, ())
  | k + 1 => (laws_markBlockS.l0_ k (laws_markBlockS.all k).1, ())
def laws_markBlockS.l0 (k : Nat) : laws_markBlockS.T0 := (laws_markBlockS.all k).1
def laws_markBlockS.f (k : Nat) (a0 : Int) (a1 : List tBlockD) : Option laws_markBlockS.R := laws_markBlockS.l0 k a0 0 a1
def laws_markBlockS.s (k : Nat) : FS := ⟨[⟨false, [.own 0]⟩, ⟨false, [.int .i64]⟩], [(0, .row true tBlock)], false, [⟨false, [.int .i64]⟩], [(0, .row true tBlock)], [0], fun x => laws_markBlockS.f k x.1.2.1.1 x.2.1⟩
def laws_markBlockS.E (k : Nat) : Ents := [(⟨67, []⟩, laws_markPhiS.s k), (⟨68, []⟩, laws_markInstS.s k)]
def laws_markBlockS.L0 (l : laws_markBlockS.T0) : LS laws_markBlockS.R := ⟨[0], [(0, ⟨false, [.own 0]⟩), (1, ⟨false, [.int .i64]⟩), (5, ⟨false, [.int .i64]⟩)], [(0, .row true tBlock)], fun x => l x.1.2.1.1 x.1.2.2.1.1 x.2.1⟩
def laws_markBlockS.L (l0 : laws_markBlockS.T0) : List (LS laws_markBlockS.R) := [laws_markBlockS.L0 l0]
def laws_markBlockS.c : Code := Tryz.f40.body.getD .skip
theorem laws_markBlockS.eq (k : Nat) (x) : (laws_markBlockS.s k).pf x = execF tab (laws_markBlockS.E k) Tryz.f40 laws_markBlockS.c (laws_markBlockS.s k) (laws_markBlockS.L (laws_markBlockS.l0 k)) x := by kernel_rfl
theorem laws_markBlockS.r0 (l0 : laws_markBlockS.T0) (k : Nat) (x) : laws_markBlockS.l0_ k l0 x.1.2.1.1 x.1.2.2.1.1 x.2.1 = roundOf tab (laws_markBlockS.E k) (laws_markBlockS.L l0) laws_markBlockS.c (fin tab Tryz.f40 (laws_markBlockS.s k)) 0 (laws_markBlockS.L0 l0) x := by kernel_rfl
theorem laws_markBlockS.sound : ∀ k, Sound Tryz.prog 40 (laws_markBlockS.s k) := sound_of mixed tab_ok (f := 40) (fn := Tryz.f40) (c := laws_markBlockS.c) (by kernel_rfl) (by kernel_rfl) (by kernel_rfl) ⟨[⟨false, [.own 0]⟩, ⟨false, [.int .i64]⟩], [(0, .row true tBlock)], false, [⟨false, [.int .i64]⟩], [(0, .row true tBlock)], [0]⟩ (by kernel_rfl) (by kernel_rfl) (fun k => (laws_markBlockS.s k).pf) laws_markBlockS.E (fun k => (EntsOK.cons (laws_markPhiS.sound k) (EntsOK.cons (laws_markInstS.sound k) EntsOK.nil))) (fun k => laws_markBlockS.L (laws_markBlockS.l0 k)) (fun k => ⟨rfl, trivial⟩) ⟨fun _ => rfl, trivial⟩ (fun k => ⟨⟨(laws_markBlockS.L0 (laws_markBlockS.l0 (k + 1))).l, rfl, fun x => laws_markBlockS.r0 (laws_markBlockS.l0 k) k x⟩, trivial⟩) laws_markBlockS.eq
end
end Go.Proofs.YtkfehogikjcgkaaGreat.V
namespace Go.Proofs.YtkfehogikjcgkaaGreat.V
open Go
set_option linter.unusedVariables false
noncomputable section
/-! ### laws.markFunc: function 12 -/
abbrev laws_markFunc.R := (((Int × Unit) × Unit) × ((List Int) × (List tBlockD) × Unit))
def laws_markFunc.f (k : Nat) (a0 : Int) (a1 : Int) (a2 : List Int) (a3 : List tBlockD) : Option laws_markFunc.R := Option.bind (laws_markInt64S.f k a1 a2) fun r1 => Option.bind (laws_markBlockS.f k r1.1.1.1 a3) fun r2 => some (((r2.1.1.1, ()), ()), (r1.2.1, r2.2.1, ()))
def laws_markFunc.s (k : Nat) : FS := ⟨[⟨true, [.own 0, .int .i64, .own 1]⟩, ⟨false, [.int .i64]⟩], [(0, .row true (.int .i64)), (1, .row true tBlock)], false, [⟨false, [.int .i64]⟩], [(0, .row true (.int .i64)), (1, .row true tBlock)], [0, 1], fun x => laws_markFunc.f k x.1.1.2.1 x.1.2.1.1 x.2.1 x.2.2.1⟩
def laws_markFunc.E (k : Nat) : Ents := [(⟨13, []⟩, laws_markInt64S.s k), (⟨40, []⟩, laws_markBlockS.s k)]
def laws_markFunc.L : List (LS laws_markFunc.R) := []
def laws_markFunc.c : Code := Tryz.f12.body.getD .skip
theorem laws_markFunc.eq (k : Nat) (x) : (laws_markFunc.s k).pf x = execF tab (laws_markFunc.E k) Tryz.f12 laws_markFunc.c (laws_markFunc.s k) laws_markFunc.L x := by kernel_rfl
theorem laws_markFunc.sound : ∀ k, Sound Tryz.prog 12 (laws_markFunc.s k) := sound_of mixed tab_ok (f := 12) (fn := Tryz.f12) (c := laws_markFunc.c) (by kernel_rfl) (by kernel_rfl) (by kernel_rfl) ⟨[⟨true, [.own 0, .int .i64, .own 1]⟩, ⟨false, [.int .i64]⟩], [(0, .row true (.int .i64)), (1, .row true tBlock)], false, [⟨false, [.int .i64]⟩], [(0, .row true (.int .i64)), (1, .row true tBlock)], [0, 1]⟩ (by kernel_rfl) (by kernel_rfl) (fun k => (laws_markFunc.s k).pf) laws_markFunc.E (fun k => (EntsOK.cons (laws_markInt64S.sound k) (EntsOK.cons (laws_markBlockS.sound k) EntsOK.nil))) (fun k => laws_markFunc.L) (fun k => trivial) trivial (fun k => trivial) laws_markFunc.eq
end
end Go.Proofs.YtkfehogikjcgkaaGreat.V
namespace Go.Proofs.YtkfehogikjcgkaaGreat.V
open Go
set_option linter.unusedVariables false
noncomputable section
/-! ### laws.heldInt64S: function 41 -/
abbrev laws_heldInt64S.R := (((Int × Unit) × Unit) × Unit)
abbrev laws_heldInt64S.T0 : Type := (List Int) → Int → Int → Option laws_heldInt64S.R
def laws_heldInt64S.l0_ (k : Nat) (l0 : laws_heldInt64S.T0) (a0 : List Int) (a1 : Int) (a2 : Int) : Option laws_heldInt64S.R := bif decide (a2 < ((List.length a0 : Nat) : Int)) then (bif (decide (0 ≤ a2)) && (decide (a2 < ((List.length a0 : Nat) : Int))) then (bif !decide (List.getD a0 (Int.toNat a2) 0 = a1) then (some (((-1, ()), ()), ())) else (l0 a0 (IntKind.wrap .i64 (a1 + 1)) (IntKind.wrap .i64 (a2 + 1)))) else none) else (some (((a1, ()), ()), ()))
def laws_heldInt64S.all : Nat → (laws_heldInt64S.T0) × Unit
  | 0 => (fun _ _ _ => none, ())
  | k + 1 => (laws_heldInt64S.l0_ k (laws_heldInt64S.all k).1, ())
def laws_heldInt64S.l0 (k : Nat) : laws_heldInt64S.T0 := (laws_heldInt64S.all k).1
def laws_heldInt64S.f (k : Nat) (a0 : List Int) (a1 : Int) : Option laws_heldInt64S.R := laws_heldInt64S.l0 k a0 a1 0
def laws_heldInt64S.s (k : Nat) : FS := ⟨[⟨false, [.lst (.int .i64)]⟩, ⟨false, [.int .i64]⟩], [], false, [⟨false, [.int .i64]⟩], [], [], fun x => laws_heldInt64S.f k x.1.1.1 x.1.2.1.1⟩
def laws_heldInt64S.E (k : Nat) : Ents := []
def laws_heldInt64S.L0 (l : laws_heldInt64S.T0) : LS laws_heldInt64S.R := ⟨[], [(0, ⟨false, [.lst (.int .i64)]⟩), (1, ⟨false, [.int .i64]⟩), (5, ⟨false, [.int .i64]⟩)], [], fun x => l x.1.1.1 x.1.2.1.1 x.1.2.2.1.1⟩
def laws_heldInt64S.L (l0 : laws_heldInt64S.T0) : List (LS laws_heldInt64S.R) := [laws_heldInt64S.L0 l0]
def laws_heldInt64S.c : Code := Tryz.f41.body.getD .skip
theorem laws_heldInt64S.eq (k : Nat) (x) : (laws_heldInt64S.s k).pf x = execF tab (laws_heldInt64S.E k) Tryz.f41 laws_heldInt64S.c (laws_heldInt64S.s k) (laws_heldInt64S.L (laws_heldInt64S.l0 k)) x := by kernel_rfl
theorem laws_heldInt64S.r0 (l0 : laws_heldInt64S.T0) (k : Nat) (x) : laws_heldInt64S.l0_ k l0 x.1.1.1 x.1.2.1.1 x.1.2.2.1.1 = roundOf tab (laws_heldInt64S.E k) (laws_heldInt64S.L l0) laws_heldInt64S.c (fin tab Tryz.f41 (laws_heldInt64S.s k)) 0 (laws_heldInt64S.L0 l0) x := by kernel_rfl
theorem laws_heldInt64S.sound : ∀ k, Sound Tryz.prog 41 (laws_heldInt64S.s k) := sound_of mixed tab_ok (f := 41) (fn := Tryz.f41) (c := laws_heldInt64S.c) (by kernel_rfl) (by kernel_rfl) (by kernel_rfl) ⟨[⟨false, [.lst (.int .i64)]⟩, ⟨false, [.int .i64]⟩], [], false, [⟨false, [.int .i64]⟩], [], []⟩ (by kernel_rfl) (by kernel_rfl) (fun k => (laws_heldInt64S.s k).pf) laws_heldInt64S.E (fun k => EntsOK.nil) (fun k => laws_heldInt64S.L (laws_heldInt64S.l0 k)) (fun k => ⟨rfl, trivial⟩) ⟨fun _ => rfl, trivial⟩ (fun k => ⟨⟨(laws_heldInt64S.L0 (laws_heldInt64S.l0 (k + 1))).l, rfl, fun x => laws_heldInt64S.r0 (laws_heldInt64S.l0 k) k x⟩, trivial⟩) laws_heldInt64S.eq
end
end Go.Proofs.YtkfehogikjcgkaaGreat.V
namespace Go.Proofs.YtkfehogikjcgkaaGreat.V
open Go
set_option linter.unusedVariables false
noncomputable section
/-! ### laws.heldPhiS: function 69 -/
abbrev laws_heldPhiS.R := (((Int × Unit) × Unit) × Unit)
abbrev laws_heldPhiS.T0 : Type := (List tPhiD) → Int → Int → Option laws_heldPhiS.R
def laws_heldPhiS.l0_ (k : Nat) (l0 : laws_heldPhiS.T0) (a0 : List tPhiD) (a1 : Int) (a2 : Int) : Option laws_heldPhiS.R := bif decide (a2 < ((List.length a0 : Nat) : Int)) then (bif (decide (0 ≤ a2)) && (decide (a2 < ((List.length a0 : Nat) : Int))) then (bif !decide ((List.getD a0 (Int.toNat a2) tPhiZ).1 = a1) then (some (((-1, ()), ()), ())) else (bif (decide (0 ≤ a2)) && (decide (a2 < ((List.length a0 : Nat) : Int))) then (Option.bind (laws_heldInt64S.f k ((List.getD a0 (Int.toNat a2) tPhiZ).2.1) (IntKind.wrap .i64 (a1 + 1))) fun r1 => bif decide (r1.1.1.1 < 0) then (some (((-1, ()), ()), ())) else (l0 a0 r1.1.1.1 (IntKind.wrap .i64 (a2 + 1)))) else none)) else none) else (some (((a1, ()), ()), ()))
def laws_heldPhiS.all : Nat → (laws_heldPhiS.T0) × Unit
  | 0 => (fun _ _ _ => none, ())
  | k + 1 => (laws_heldPhiS.l0_ k (laws_heldPhiS.all k).1, ())
def laws_heldPhiS.l0 (k : Nat) : laws_heldPhiS.T0 := (laws_heldPhiS.all k).1
def laws_heldPhiS.f (k : Nat) (a0 : List tPhiD) (a1 : Int) : Option laws_heldPhiS.R := laws_heldPhiS.l0 k a0 a1 0
def laws_heldPhiS.s (k : Nat) : FS := ⟨[⟨false, [.lst tPhi]⟩, ⟨false, [.int .i64]⟩], [], false, [⟨false, [.int .i64]⟩], [], [], fun x => laws_heldPhiS.f k x.1.1.1 x.1.2.1.1⟩
def laws_heldPhiS.E (k : Nat) : Ents := [(⟨41, []⟩, laws_heldInt64S.s k)]
def laws_heldPhiS.L0 (l : laws_heldPhiS.T0) : LS laws_heldPhiS.R := ⟨[], [(0, ⟨false, [.lst tPhi]⟩), (1, ⟨false, [.int .i64]⟩), (5, ⟨false, [.int .i64]⟩)], [], fun x => l x.1.1.1 x.1.2.1.1 x.1.2.2.1.1⟩
def laws_heldPhiS.L (l0 : laws_heldPhiS.T0) : List (LS laws_heldPhiS.R) := [laws_heldPhiS.L0 l0]
def laws_heldPhiS.c : Code := Tryz.f69.body.getD .skip
theorem laws_heldPhiS.eq (k : Nat) (x) : (laws_heldPhiS.s k).pf x = execF tab (laws_heldPhiS.E k) Tryz.f69 laws_heldPhiS.c (laws_heldPhiS.s k) (laws_heldPhiS.L (laws_heldPhiS.l0 k)) x := by kernel_rfl
theorem laws_heldPhiS.r0 (l0 : laws_heldPhiS.T0) (k : Nat) (x) : laws_heldPhiS.l0_ k l0 x.1.1.1 x.1.2.1.1 x.1.2.2.1.1 = roundOf tab (laws_heldPhiS.E k) (laws_heldPhiS.L l0) laws_heldPhiS.c (fin tab Tryz.f69 (laws_heldPhiS.s k)) 0 (laws_heldPhiS.L0 l0) x := by kernel_rfl
theorem laws_heldPhiS.sound : ∀ k, Sound Tryz.prog 69 (laws_heldPhiS.s k) := sound_of mixed tab_ok (f := 69) (fn := Tryz.f69) (c := laws_heldPhiS.c) (by kernel_rfl) (by kernel_rfl) (by kernel_rfl) ⟨[⟨false, [.lst tPhi]⟩, ⟨false, [.int .i64]⟩], [], false, [⟨false, [.int .i64]⟩], [], []⟩ (by kernel_rfl) (by kernel_rfl) (fun k => (laws_heldPhiS.s k).pf) laws_heldPhiS.E (fun k => (EntsOK.cons (laws_heldInt64S.sound k) EntsOK.nil)) (fun k => laws_heldPhiS.L (laws_heldPhiS.l0 k)) (fun k => ⟨rfl, trivial⟩) ⟨fun _ => rfl, trivial⟩ (fun k => ⟨⟨(laws_heldPhiS.L0 (laws_heldPhiS.l0 (k + 1))).l, rfl, fun x => laws_heldPhiS.r0 (laws_heldPhiS.l0 k) k x⟩, trivial⟩) laws_heldPhiS.eq
end
end Go.Proofs.YtkfehogikjcgkaaGreat.V
namespace Go.Proofs.YtkfehogikjcgkaaGreat.V
open Go
set_option linter.unusedVariables false
noncomputable section
/-! ### laws.heldInstS: function 70 -/
abbrev laws_heldInstS.R := (((Int × Unit) × Unit) × Unit)
abbrev laws_heldInstS.T0 : Type := (List tInstD) → Int → Int → Option laws_heldInstS.R
def laws_heldInstS.l0_ (k : Nat) (l0 : laws_heldInstS.T0) (a0 : List tInstD) (a1 : Int) (a2 : Int) : Option laws_heldInstS.R := bif decide (a2 < ((List.length a0 : Nat) : Int)) then (bif (decide (0 ≤ a2)) && (decide (a2 < ((List.length a0 : Nat) : Int))) then (bif !decide ((List.getD a0 (Int.toNat a2) tInstZ).1 = a1) then (some (((-1, ()), ()), ())) else (bif (decide (0 ≤ a2)) && (decide (a2 < ((List.length a0 : Nat) : Int))) then (bif !decide ((List.getD a0 (Int.toNat a2) tInstZ).2.1 = IntKind.wrap .i64 (a1 + 1)) then (some (((-1, ()), ()), ())) else (bif (decide (0 ≤ a2)) && (decide (a2 < ((List.length a0 : Nat) : Int))) then (bif !decide ((List.getD a0 (Int.toNat a2) tInstZ).2.2.1 = IntKind.wrap .i64 ((IntKind.wrap .i64 (a1 + 1)) + 1)) then (some (((-1, ()), ()), ())) else (bif (decide (0 ≤ a2)) && (decide (a2 < ((List.length a0 : Nat) : Int))) then (bif !decide ((List.getD a0 (Int.toNat a2) tInstZ).2.2.2.1 = IntKind.wrap .i64 ((IntKind.wrap .i64 ((IntKind.wrap .i64 (a1 + 1)) + 1)) + 1)) then (some (((-1, ()), ()), ())) else (bif (decide (0 ≤ a2)) && (decide (a2 < ((List.length a0 : Nat) : Int))) then (bif !decide ((List.getD a0 (Int.toNat a2) tInstZ).2.2.2.2.1 = IntKind.wrap .i64 ((IntKind.wrap .i64 ((IntKind.wrap .i64 ((IntKind.wrap .i64 (a1 + 1)) + 1)) + 1)) + 1)) then (some (((-1, ()), ()), ())) else (bif (decide (0 ≤ a2)) && (decide (a2 < ((List.length a0 : Nat) : Int))) then (bif !decide ((List.getD a0 (Int.toNat a2) tInstZ).2.2.2.2.2.1 = IntKind.wrap .i64 ((IntKind.wrap .i64 ((IntKind.wrap .i64 ((IntKind.wrap .i64 ((IntKind.wrap .i64 (a1 + 1)) + 1)) + 1)) + 1)) + 1)) then (some (((-1, ()), ()), ())) else (bif (decide (0 ≤ a2)) && (decide (a2 < ((List.length a0 : Nat) : Int))) then (Option.bind (laws_heldInt64S.f k ((List.getD a0 (Int.toNat a2) tInstZ).2.2.2.2.2.2.1) (IntKind.wrap .i64 ((IntKind.wrap .i64 ((IntKind.wrap .i64 ((IntKind.wrap .i64 ((IntKind.wrap .i64 ((IntKind.wrap .i64 (a1 + 1)) + 1)) + 1)) + 1)) + 1)) + 1))) fun r1 => bif decide (r1.1.1.1 < 0) then (some (((-1, ()), ()), ())) else (l0 a0 r1.1.1.1 (IntKind.wrap .i64 (a2 + 1)))) else none)) else none)) else none)) else none)) else none)) else none)) else none) else (some (((a1, ()), ()), ()))
def laws_heldInstS.all : Nat → (laws_heldInstS.T0) × Unit
  | 0 => (fun _ _ _ => none, ())
  | k + 1 => (laws_heldInstS.l0_ k (laws_heldInstS.all k).1, ())
def laws_heldInstS.l0 (k : Nat) : laws_heldInstS.T0 := (laws_heldInstS.all k).1
def laws_heldInstS.f (k : Nat) (a0 : List tInstD) (a1 : Int) : Option laws_heldInstS.R := laws_heldInstS.l0 k a0 a1 0
def laws_heldInstS.s (k : Nat) : FS := ⟨[⟨false, [.lst tInst]⟩, ⟨false, [.int .i64]⟩], [], false, [⟨false, [.int .i64]⟩], [], [], fun x => laws_heldInstS.f k x.1.1.1 x.1.2.1.1⟩
def laws_heldInstS.E (k : Nat) : Ents := [(⟨41, []⟩, laws_heldInt64S.s k)]
def laws_heldInstS.L0 (l : laws_heldInstS.T0) : LS laws_heldInstS.R := ⟨[], [(0, ⟨false, [.lst tInst]⟩), (1, ⟨false, [.int .i64]⟩), (5, ⟨false, [.int .i64]⟩)], [], fun x => l x.1.1.1 x.1.2.1.1 x.1.2.2.1.1⟩
def laws_heldInstS.L (l0 : laws_heldInstS.T0) : List (LS laws_heldInstS.R) := [laws_heldInstS.L0 l0]
def laws_heldInstS.c : Code := Tryz.f70.body.getD .skip
theorem laws_heldInstS.eq (k : Nat) (x) : (laws_heldInstS.s k).pf x = execF tab (laws_heldInstS.E k) Tryz.f70 laws_heldInstS.c (laws_heldInstS.s k) (laws_heldInstS.L (laws_heldInstS.l0 k)) x := by kernel_rfl
theorem laws_heldInstS.r0 (l0 : laws_heldInstS.T0) (k : Nat) (x) : laws_heldInstS.l0_ k l0 x.1.1.1 x.1.2.1.1 x.1.2.2.1.1 = roundOf tab (laws_heldInstS.E k) (laws_heldInstS.L l0) laws_heldInstS.c (fin tab Tryz.f70 (laws_heldInstS.s k)) 0 (laws_heldInstS.L0 l0) x := by kernel_rfl
theorem laws_heldInstS.sound : ∀ k, Sound Tryz.prog 70 (laws_heldInstS.s k) := sound_of mixed tab_ok (f := 70) (fn := Tryz.f70) (c := laws_heldInstS.c) (by kernel_rfl) (by kernel_rfl) (by kernel_rfl) ⟨[⟨false, [.lst tInst]⟩, ⟨false, [.int .i64]⟩], [], false, [⟨false, [.int .i64]⟩], [], []⟩ (by kernel_rfl) (by kernel_rfl) (fun k => (laws_heldInstS.s k).pf) laws_heldInstS.E (fun k => (EntsOK.cons (laws_heldInt64S.sound k) EntsOK.nil)) (fun k => laws_heldInstS.L (laws_heldInstS.l0 k)) (fun k => ⟨rfl, trivial⟩) ⟨fun _ => rfl, trivial⟩ (fun k => ⟨⟨(laws_heldInstS.L0 (laws_heldInstS.l0 (k + 1))).l, rfl, fun x => laws_heldInstS.r0 (laws_heldInstS.l0 k) k x⟩, trivial⟩) laws_heldInstS.eq
end
end Go.Proofs.YtkfehogikjcgkaaGreat.V
namespace Go.Proofs.YtkfehogikjcgkaaGreat.V
open Go
set_option linter.unusedVariables false
noncomputable section
/-! ### laws.heldBlockS: function 42 -/
abbrev laws_heldBlockS.R := (((Int × Unit) × Unit) × Unit)
abbrev laws_heldBlockS.T0 : Type := (List tBlockD) → Int → Int → Option laws_heldBlockS.R
def laws_heldBlockS.l0_ (k : Nat) (l0 : laws_heldBlockS.T0) (a0 : List tBlockD) (a1 : Int) (a2 : Int) : Option laws_heldBlockS.R := bif decide (a2 < ((List.length a0 : Nat) : Int)) then (bif (decide (0 ≤ a2)) && (decide (a2 < ((List.length a0 : Nat) : Int))) then (Option.bind (laws_heldPhiS.f k ((List.getD a0 (Int.toNat a2) tBlockZ).1) a1) fun r1 => bif decide (r1.1.1.1 < 0) then (some (((-1, ()), ()), ())) else (bif (decide (0 ≤ a2)) && (decide (a2 < ((List.length a0 : Nat) : Int))) then (Option.bind (laws_heldInstS.f k ((List.getD a0 (Int.toNat a2) tBlockZ).2.1) r1.1.1.1) fun r2 => bif decide (r2.1.1.1 < 0) then (some (((-1, ()), ()), ())) else (bif (decide (0 ≤ a2)) && (decide (a2 < ((List.length a0 : Nat) : Int))) then (bif !decide ((List.getD a0 (Int.toNat a2) tBlockZ).2.2.1 = r2.1.1.1) then (some (((-1, ()), ()), ())) else (bif (decide (0 ≤ a2)) && (decide (a2 < ((List.length a0 : Nat) : Int))) then (bif !decide ((List.getD a0 (Int.toNat a2) tBlockZ).2.2.2.1 = IntKind.wrap .i64 (r2.1.1.1 + 1)) then (some (((-1, ()), ()), ())) else (bif (decide (0 ≤ a2)) && (decide (a2 < ((List.length a0 : Nat) : Int))) then (bif !decide ((List.getD a0 (Int.toNat a2) tBlockZ).2.2.2.2.1 = IntKind.wrap .i64 ((IntKind.wrap .i64 (r2.1.1.1 + 1)) + 1)) then (some (((-1, ()), ()), ())) else (bif (decide (0 ≤ a2)) && (decide (a2 < ((List.length a0 : Nat) : Int))) then (bif !decide ((List.getD a0 (Int.toNat a2) tBlockZ).2.2.2.2.2.1 = IntKind.wrap .i64 ((IntKind.wrap .i64 ((IntKind.wrap .i64 (r2.1.1.1 + 1)) + 1)) + 1)) then (some (((-1, ()), ()), ())) else (l0 a0 (IntKind.wrap .i64 ((IntKind.wrap .i64 ((IntKind.wrap .i64 ((IntKind.wrap .i64 (r2.1.1.1 + 1)) + 1)) + 1)) + 1)) (IntKind.wrap .i64 (a2 + 1)))) else none)) else none)) else none)) else none)) else none)) else none) else (some (((a1, ()), ()), ()))
def laws_heldBlockS.all : Nat → (laws_heldBlockS.T0) × Unit
  | 0 => (fun _ _ _ => none, ())
  | k + 1 => (laws_heldBlockS.l0_ k (laws_heldBlockS.all k).1, ())
def laws_heldBlockS.l0 (k : Nat) : laws_heldBlockS.T0 := (laws_heldBlockS.all k).1
def laws_heldBlockS.f (k : Nat) (a0 : List tBlockD) (a1 : Int) : Option laws_heldBlockS.R := laws_heldBlockS.l0 k a0 a1 0
def laws_heldBlockS.s (k : Nat) : FS := ⟨[⟨false, [.lst tBlock]⟩, ⟨false, [.int .i64]⟩], [], false, [⟨false, [.int .i64]⟩], [], [], fun x => laws_heldBlockS.f k x.1.1.1 x.1.2.1.1⟩
def laws_heldBlockS.E (k : Nat) : Ents := [(⟨69, []⟩, laws_heldPhiS.s k), (⟨70, []⟩, laws_heldInstS.s k)]
def laws_heldBlockS.L0 (l : laws_heldBlockS.T0) : LS laws_heldBlockS.R := ⟨[], [(0, ⟨false, [.lst tBlock]⟩), (1, ⟨false, [.int .i64]⟩), (5, ⟨false, [.int .i64]⟩)], [], fun x => l x.1.1.1 x.1.2.1.1 x.1.2.2.1.1⟩
def laws_heldBlockS.L (l0 : laws_heldBlockS.T0) : List (LS laws_heldBlockS.R) := [laws_heldBlockS.L0 l0]
def laws_heldBlockS.c : Code := Tryz.f42.body.getD .skip
theorem laws_heldBlockS.eq (k : Nat) (x) : (laws_heldBlockS.s k).pf x = execF tab (laws_heldBlockS.E k) Tryz.f42 laws_heldBlockS.c (laws_heldBlockS.s k) (laws_heldBlockS.L (laws_heldBlockS.l0 k)) x := by kernel_rfl
theorem laws_heldBlockS.r0 (l0 : laws_heldBlockS.T0) (k : Nat) (x) : laws_heldBlockS.l0_ k l0 x.1.1.1 x.1.2.1.1 x.1.2.2.1.1 = roundOf tab (laws_heldBlockS.E k) (laws_heldBlockS.L l0) laws_heldBlockS.c (fin tab Tryz.f42 (laws_heldBlockS.s k)) 0 (laws_heldBlockS.L0 l0) x := by kernel_rfl
theorem laws_heldBlockS.sound : ∀ k, Sound Tryz.prog 42 (laws_heldBlockS.s k) := sound_of mixed tab_ok (f := 42) (fn := Tryz.f42) (c := laws_heldBlockS.c) (by kernel_rfl) (by kernel_rfl) (by kernel_rfl) ⟨[⟨false, [.lst tBlock]⟩, ⟨false, [.int .i64]⟩], [], false, [⟨false, [.int .i64]⟩], [], []⟩ (by kernel_rfl) (by kernel_rfl) (fun k => (laws_heldBlockS.s k).pf) laws_heldBlockS.E (fun k => (EntsOK.cons (laws_heldPhiS.sound k) (EntsOK.cons (laws_heldInstS.sound k) EntsOK.nil))) (fun k => laws_heldBlockS.L (laws_heldBlockS.l0 k)) (fun k => ⟨rfl, trivial⟩) ⟨fun _ => rfl, trivial⟩ (fun k => ⟨⟨(laws_heldBlockS.L0 (laws_heldBlockS.l0 (k + 1))).l, rfl, fun x => laws_heldBlockS.r0 (laws_heldBlockS.l0 k) k x⟩, trivial⟩) laws_heldBlockS.eq
end
end Go.Proofs.YtkfehogikjcgkaaGreat.V
namespace Go.Proofs.YtkfehogikjcgkaaGreat.V
open Go
set_option linter.unusedVariables false
noncomputable section
/-! ### laws.heldFunc: function 14 -/
abbrev laws_heldFunc.R := (((Int × Unit) × Unit) × Unit)
def laws_heldFunc.f (k : Nat) (a0 : tFuncD) (a1 : Int) : Option laws_heldFunc.R := Option.bind (laws_heldInt64S.f k a0.1 a1) fun r1 => bif decide (r1.1.1.1 < 0) then (some (((-1, ()), ()), ())) else (Option.bind (laws_heldBlockS.f k a0.2.2.1 r1.1.1.1) fun r2 => bif decide (r2.1.1.1 < 0) then (some (((-1, ()), ()), ())) else (some (((r2.1.1.1, ()), ()), ())))
def laws_heldFunc.s (k : Nat) : FS := ⟨[⟨true, [.lst (.int .i64), .int .i64, .lst tBlock]⟩, ⟨false, [.int .i64]⟩], [], false, [⟨false, [.int .i64]⟩], [], [], fun x => laws_heldFunc.f k x.1.1 x.1.2.1.1⟩
def laws_heldFunc.E (k : Nat) : Ents := [(⟨41, []⟩, laws_heldInt64S.s k), (⟨42, []⟩, laws_heldBlockS.s k)]
def laws_heldFunc.L : List (LS laws_heldFunc.R) := []
def laws_heldFunc.c : Code := Tryz.f14.body.getD .skip
theorem laws_heldFunc.eq (k : Nat) (x) : (laws_heldFunc.s k).pf x = execF tab (laws_heldFunc.E k) Tryz.f14 laws_heldFunc.c (laws_heldFunc.s k) laws_heldFunc.L x := by kernel_rfl
theorem laws_heldFunc.sound : ∀ k, Sound Tryz.prog 14 (laws_heldFunc.s k) := sound_of mixed tab_ok (f := 14) (fn := Tryz.f14) (c := laws_heldFunc.c) (by kernel_rfl) (by kernel_rfl) (by kernel_rfl) ⟨[⟨true, [.lst (.int .i64), .int .i64, .lst tBlock]⟩, ⟨false, [.int .i64]⟩], [], false, [⟨false, [.int .i64]⟩], [], []⟩ (by kernel_rfl) (by kernel_rfl) (fun k => (laws_heldFunc.s k).pf) laws_heldFunc.E (fun k => (EntsOK.cons (laws_heldInt64S.sound k) (EntsOK.cons (laws_heldBlockS.sound k) EntsOK.nil))) (fun k => laws_heldFunc.L) (fun k => trivial) trivial (fun k => trivial) laws_heldFunc.eq
end
end Go.Proofs.YtkfehogikjcgkaaGreat.V
namespace Go.Proofs.YtkfehogikjcgkaaGreat.V
open Go
set_option linter.unusedVariables false
noncomputable section
/-! ### laws.FnExactWithout: function 3 -/
abbrev laws_FnExactWithout.R := (((Bool × Unit) × Unit) × Unit)
def laws_FnExactWithout.f (k : Nat) (a0 : tFuncD) (a1 : List Int) : Option laws_FnExactWithout.R := bif decide (1048576 < ((List.length a1 : Nat) : Int)) then (some (((true, ()), ()), ())) else (Option.bind (laws_szFunc.f k a0 1048576) fun r1 => bif decide (r1.1.1.1 < 0) then (some (((true, ()), ()), ())) else (Option.bind (laws_toFunc.f k a0) fun r2 => Option.bind (laws_toInt64S.f k a1) fun r3 => Option.bind (spec_Without.f k (r2.2.1, r2.1.1.2.1, r2.2.2.1, ()) r3.2.1) fun r4 => Option.bind (laws_toFunc.f k a0) fun r5 => Option.bind (laws_toInt64S.f k a1) fun r6 => Option.bind (impl_Without.f k (r5.2.1, r5.1.1.2.1, r5.2.2.1, ()) r6.2.1) fun r7 => Option.bind (laws_eqFunc.f k (r7.2.1, r7.1.1.2.1, r7.2.2.1, ()) (r4.2.1, r4.1.1.2.1, r4.2.2.1, ())) fun r8 => bif !r8.1.1.1 then (some (((false, ()), ()), ())) else (bif !(r7.1.2.1.1 == r4.1.2.1.1) then (some (((false, ()), ()), ())) else (Option.bind (laws_toFunc.f k a0) fun r9 => Option.bind (laws_eqFunc.f k (r5.2.1, r5.1.1.2.1, r5.2.2.1, ()) (r9.2.1, r9.1.1.2.1, r9.2.2.1, ())) fun r10 => bif !r10.1.1.1 then (some (((false, ()), ()), ())) else (Option.bind (laws_toInt64S.f k a1) fun r11 => Option.bind (laws_eqInt64S.f k r6.2.1 r11.2.1) fun r12 => bif !r12.1.1.1 then (some (((false, ()), ()), ())) else (Option.bind (laws_markFunc.f k r5.1.1.2.1 1 r5.2.1 r5.2.2.1) fun r13 => Option.bind (laws_markInt64S.f k r13.1.1.1 r6.2.1) fun r14 => bif decide (r14.1.1.1 < 0) then (some (((false, ()), ()), ())) else (Option.bind (laws_eqFunc.f k (r7.2.1, r7.1.1.2.1, r7.2.2.1, ()) (r4.2.1, r4.1.1.2.1, r4.2.2.1, ())) fun r15 => bif !r15.1.1.1 then (some (((false, ()), ()), ())) else (bif !(r7.1.2.1.1 == r4.1.2.1.1) then (some (((false, ()), ()), ())) else (Option.bind (laws_markFunc.f k r7.1.1.2.1 1 r7.2.1 r7.2.2.1) fun r16 => Option.bind (laws_heldFunc.f k (r16.2.1, r7.1.1.2.1, r16.2.2.1, ()) 1) fun r17 => bif decide (r17.1.1.1 < 0) then (some (((false, ()), ()), ())) else (bif !decide (r17.1.1.1 = r16.1.1.1) then (some (((false, ()), ()), ())) else (Option.bind (laws_toFunc.f k a0) fun r18 => Option.bind (laws_toInt64S.f k a1) fun r19 => Option.bind (impl_Without.f k (r18.2.1, r18.1.1.2.1, r18.2.2.1, ()) r19.2.1) fun r20 => Option.bind (laws_eqFunc.f k (r20.2.1, r20.1.1.2.1, r20.2.2.1, ()) (r4.2.1, r4.1.1.2.1, r4.2.2.1, ())) fun r21 => bif !r21.1.1.1 then (some (((false, ()), ()), ())) else (bif !(r20.1.2.1.1 == r4.1.2.1.1) then (some (((false, ()), ()), ())) else (Option.bind (laws_heldFunc.f k (r16.2.1, r7.1.1.2.1, r16.2.2.1, ()) 1) fun r22 => bif decide (r22.1.1.1 < 0) then (some (((false, ()), ()), ())) else (bif !decide (r22.1.1.1 = r16.1.1.1) then (some (((false, ()), ()), ())) else (some (((true, ()), ()), ()))))))))))))))))
def laws_FnExactWithout.s (k : Nat) : FS := ⟨[⟨true, [.lst (.int .i64), .int .i64, .lst tBlock]⟩, ⟨false, [.lst (.int .i64)]⟩], [], false, [⟨false, [.bool]⟩], [], [], fun x => laws_FnExactWithout.f k x.1.1 x.1.2.1.1⟩
def laws_FnExactWithout.E (k : Nat) : Ents := [(⟨5, []⟩, laws_szFunc.s k), (⟨7, []⟩, laws_toFunc.s k), (⟨8, []⟩, laws_toInt64S.s k), (⟨6, []⟩, spec_Without.s k), (⟨9, []⟩, impl_Without.s k), (⟨10, []⟩, laws_eqFunc.s k), (⟨11, []⟩, laws_eqInt64S.s k), (⟨12, []⟩, laws_markFunc.s k), (⟨13, []⟩, laws_markInt64S.s k), (⟨14, []⟩, laws_heldFunc.s k)]
def laws_FnExactWithout.L : List (LS laws_FnExactWithout.R) := []
def laws_FnExactWithout.c : Code := Tryz.f3.body.getD .skip
theorem laws_FnExactWithout.eq (k : Nat) (x) : (laws_FnExactWithout.s k).pf x = execF tab (laws_FnExactWithout.E k) Tryz.f3 laws_FnExactWithout.c (laws_FnExactWithout.s k) laws_FnExactWithout.L x := by kernel_rfl
theorem laws_FnExactWithout.sound : ∀ k, Sound Tryz.prog 3 (laws_FnExactWithout.s k) := sound_of mixed tab_ok (f := 3) (fn := Tryz.f3) (c := laws_FnExactWithout.c) (by kernel_rfl) (by kernel_rfl) (by kernel_rfl) ⟨[⟨true, [.lst (.int .i64), .int .i64, .lst tBlock]⟩, ⟨false, [.lst (.int .i64)]⟩], [], false, [⟨false, [.bool]⟩], [], []⟩ (by kernel_rfl) (by kernel_rfl) (fun k => (laws_FnExactWithout.s k).pf) laws_FnExactWithout.E (fun k => (EntsOK.cons (laws_szFunc.sound k) (EntsOK.cons (laws_toFunc.sound k) (EntsOK.cons (laws_toInt64S.sound k) (EntsOK.cons (spec_Without.sound k) (EntsOK.cons (impl_Without.sound k) (EntsOK.cons (laws_eqFunc.sound k) (EntsOK.cons (laws_eqInt64S.sound k) (EntsOK.cons (laws_markFunc.sound k) (EntsOK.cons (laws_markInt64S.sound k) (EntsOK.cons (laws_heldFunc.sound k) EntsOK.nil))))))))))) (fun k => laws_FnExactWithout.L) (fun k => trivial) trivial (fun k => trivial) laws_FnExactWithout.eq
end
end Go.Proofs.YtkfehogikjcgkaaGreat.V
namespace Go.Proofs.YtkfehogikjcgkaaGreat.V
open Go Go.Deep Go.RowKit
set_option linter.unusedVariables false
set_option linter.unusedSimpArgs false
/-- What is known of a datum that was read. -/
def Wf : (t : T) → t.Den → Prop
  | .int k, n => (Lit.int k n).wf = true
  | .bool, _ => True
  | .str, s => ByteArray.size s ≤ 9223372036854775807
  | .list t, xs => List.length (α := t.Den) xs ≤ 9223372036854775807 ∧ ∀ x : t.Den, List.Mem (α := t.Den) x xs → Wf t x
  | .pair a b, x => Wf a (Prod.fst (α := a.Den) (β := b.Den) x) ∧ Wf b (Prod.snd (α := a.Den) (β := b.Den) x)
  | .unit, _ => True
def OpensC (P : Program) (ty : TypeId) (t r : T) : Prop :=
  ∀ (H : Type) (enc : TypeId × Value → H) (w : World) (base : Nat) (spare : Nat → Bool) (held : Bool) (fuel : Nat) (cs : List Value) (x : DataW H × List MemPlace), DataW.trod enc P w base spare held fuel ty cs = some x →
    ∀ (y : r.Den) (us : List Value), Rd (fun b => b < w.heap.size) w r y us → Wf r y → ∃ a : t.Den, Rd (fun b => b < w.heap.size) w t a (cs ++ us) ∧ Wf t a
def Opens (P : Program) (ty : TypeId) (t : T) : Prop :=
  ∀ (H : Type) (enc : TypeId × Value → H) (w : World) (base : Nat) (spare : Nat → Bool) (held : Bool) (fuel : Nat) (cs : List Value) (x : DataW H × List MemPlace), DataW.trod enc P w base spare held fuel ty cs = some x →
    ∃ a : t.Den, Rd (fun b => b < w.heap.size) w t a cs ∧ Wf t a
theorem OpensC.whole {P : Program} {ty : TypeId} {t : T} (h : OpensC P ty t .unit) : Opens P ty t := by
  intro H enc w base spare held fuel cs x hx
  obtain ⟨a, h1, h2⟩ := h H enc w base spare held fuel cs x hx () [] rfl trivial
  rw [List.append_nil] at h1
  exact ⟨a, h1, h2⟩
theorem OpensC.one {P : Program} {ty : TypeId} {e : T} (h : OpensC P ty (.pair e .unit) .unit) : Opens P ty e := by
  intro H enc w base spare held fuel cs x hx
  obtain ⟨a, ⟨us, ws, h0, h1, h2⟩, h3⟩ := h H enc w base spare held fuel cs x hx () [] rfl trivial
  simp only [Rd] at h2
  subst h2
  simp only [List.append_nil] at h0
  subst h0
  exact ⟨_, h1, h3.1⟩
theorem OpensC.leaf {P : Program} {ty : TypeId} {e r : T} (h : Opens P ty e) : OpensC P ty (.pair e r) r := by
  intro H enc w base spare held fuel cs x hx y us hy hw
  obtain ⟨a, h1, h2⟩ := h H enc w base spare held fuel cs x hx
  exact ⟨(a, y), ⟨cs, us, rfl, h1, hy⟩, h2, hw⟩
theorem opens_list {P : Program} {ty el : TypeId} {e : T} (hu : P.underlying ty = some (.slice el)) (hc : P.cellsOf el = e.sz) (h1 : 1 ≤ e.sz) (h : Opens P el e) : Opens P ty (.list e) := by
  intro H enc w base spare held fuel cs x hx
  rcases open_slice hu hx with ⟨rfl, -⟩ | ⟨a, len, cap, m, n, D, Pl, rfl, hb, hl, hm, hmm, -, hel⟩
  · exact ⟨([] : List e.Den), ⟨none, 0, rfl, Nat.le_refl _, fun h => absurd rfl h⟩, Nat.zero_le _, fun _ h => (List.not_mem_nil h).elim⟩
  · have hlm : len ≤ m := by rw [hmm]; split <;> omega
    have hspot : len ≠ 0 → a.spot = none ∧ a.block < w.heap.size := by
      intro hn
      obtain ⟨cs', c1, c2⟩ := hel 0 (by omega)
      obtain ⟨-, l1, l2⟩ := World.cells?_some c1
      rw [hc] at l1 l2
      have h0 := l2 0 (by omega)
      simp only [Nat.zero_mul, Addr.add, if_true] at h0
      rw [List.getElem?_eq_getElem (by omega)] at h0
      unfold World.cell? at h0
      split at h0
      · rename_i hh
        refine ⟨?_, (Array.getElem?_eq_some_iff.1 hh).1⟩
        split at h0
        · cases h0
        · rename_i hs
          simpa using hs
      · cases h0
    have hadd : len ≠ 0 → ∀ n, a.add n = ⟨a.block, a.off + n, none⟩ := by
      intro hn n
      have hs := (hspot hn).1
      unfold Addr.add
      split
      · rename_i h0
        subst h0
        cases a
        simp only at hs
        subst hs
        rfl
      · rfl
    have each : ∀ n, n ≤ len → ∃ (xs : List e.Den) (us : List Value), xs.length = n ∧ (∀ x ∈ xs, Wf e x) ∧ At w a.block a.off us ∧ ELs (Rd (fun b => b < w.heap.size) w e) e.sz xs us := by
      intro n
      induction n with
      | zero => exact fun _ => ⟨[], [], rfl, fun _ h => (List.not_mem_nil h).elim, fun j v hj => by simp at hj, rfl⟩
      | succ n ih =>
        intro hn
        obtain ⟨xs, us, i1, i2, i4, i5⟩ := ih (by omega)
        obtain ⟨cs', c1, c2⟩ := hel n (by omega)
        obtain ⟨y, y1, y2⟩ := h H enc w base spare held _ cs' _ c2
        obtain ⟨-, l1, l2⟩ := World.cells?_some c1
        rw [hc] at l1 l2
        have hcell : ∀ j, j < e.sz → w.cell? ⟨a.block, a.off + (n * e.sz + j), none⟩ = cs'[j]? := by
          intro j hj
          have := l2 j hj
          rw [Deep.add_add, hadd (by omega)] at this
          exact this
        refine ⟨xs ++ [y], us ++ cs', by simp [i1], fun x hx => ?_, fun j v hj => ?_, ?_⟩
        · rcases List.mem_append.1 hx with hx | hx
          · exact i2 x hx
          · simp only [List.mem_singleton] at hx; subst hx; exact y2
        · have hul : us.length = n * e.sz := by have := i5.length; rw [i1] at this; exact this
          rcases Nat.lt_or_ge j us.length with hlt | hge
          · rw [List.getElem?_append_left hlt] at hj
            exact i4 j v hj
          · rw [List.getElem?_append_right hge] at hj
            have hlt := (List.getElem?_eq_some_iff.1 hj).1
            have := hcell (j - us.length) (by omega)
            rw [hj, show a.off + (n * e.sz + (j - us.length)) = a.off + j by omega] at this
            exact this
        · refine i5.app ⟨cs', [], by simp, l1, y1, rfl⟩
    obtain ⟨xs, us, i1, i2, i4, i5⟩ := each len (Nat.le_refl _)
    refine ⟨xs, ⟨some a, cap, by rw [i1], by omega, fun hne => ?_⟩, ?_, i2⟩
    · have hn : len ≠ 0 := fun h0 => hne (List.length_eq_zero_iff.1 (by omega))
      obtain ⟨s1, s2⟩ := hspot hn
      refine ⟨a.block, a.off, us, ?_, s2, i4, i5⟩
      cases a
      simp only at s1
      subst s1
      rfl
    · have : cap ≤ maxLen := hm
      unfold maxLen at this
      show xs.length ≤ _
      omega
theorem opens_int {P : Program} {t : TypeId} {k : IntKind} (hu : P.underlying t = some (.int k)) : Opens P t (.int k) := by
  intro H enc w base spare held fuel cs x h
  obtain ⟨n, rfl, -, hw⟩ := DataW.trod_int hu h
  exact ⟨n, rfl, hw⟩
/-- Fields from place o on, of m cells. -/
def OpensF (P : Program) (o m : Nat) (fs : List Field) (t r : T) : Prop :=
  ∀ (H : Type) (enc : TypeId × Value → H) (w : World) (base : Nat) (spare : Nat → Bool) (held : Bool) (fuel : Nat) (cs : List Value),
    (∀ f ∈ fs, ∃ x, DataW.trod enc P w base spare held fuel f.type ((cs.drop f.offset).take (P.cellsOf f.type)) = some x) → cs.length = o + m →
    ∀ (y : r.Den) (us : List Value), Rd (fun b => b < w.heap.size) w r y us → Wf r y → ∃ a : t.Den, Rd (fun b => b < w.heap.size) w t a (cs.drop o ++ us) ∧ Wf t a
theorem opensF_nil {P : Program} {o : Nat} {t : T} : OpensF P o 0 [] t t := by
  intro H enc w base spare held fuel cs h hl y us hy hw
  refine ⟨y, ?_, hw⟩
  rw [List.drop_eq_nil_of_le (by omega), List.nil_append]
  exact hy
theorem opensF_cons {P : Program} {o m n : Nat} {f : Field} {fs : List Field} {t t1 r : T} (ho : f.offset = o) (hc : P.cellsOf f.type = m) (hd : OpensC P f.type t t1) (hs : OpensF P (o + m) n fs t1 r) : OpensF P o (m + n) (f :: fs) t r := by
  intro H enc w base spare held fuel cs h hl y us hy hw
  obtain ⟨x, hx⟩ := h f (by simp)
  obtain ⟨a1, q1, q2⟩ := hs H enc w base spare held fuel cs (fun f hf => h f (by simp [hf])) (by omega) y us hy hw
  rw [ho, hc] at hx
  obtain ⟨a, q3, q4⟩ := hd H enc w base spare held fuel _ _ hx a1 _ q1 q2
  refine ⟨a, ?_, q4⟩
  rw [← List.append_assoc, ← List.drop_drop, List.take_append_drop] at q3
  exact q3
theorem opensC_struct {P : Program} {ty : TypeId} {fs : Array Field} {m : Nat} {t r : T} (hu : P.underlying ty = some (.struct fs)) (hc : P.cellsOf ty = m) (hd : OpensF P 0 m fs.toList t r) : OpensC P ty t r := by
  intro H enc w base spare held fuel cs x h y us hy hw
  obtain ⟨xs, n, -, -, hl, hxs, hf⟩ := DataW.trod_struct hu h
  have := hd H enc w base spare held n cs (fun f hm => by
    obtain ⟨i, hi, rfl⟩ := List.getElem_of_mem hm
    have hi' : i < fs.size := by simpa using hi
    have := hf i fs[i] (by simp [hi'])
    rw [List.getElem?_eq_getElem (by omega)] at this
    exact ⟨_, by simpa using this⟩) (by rw [hl, hc, Nat.zero_add]) y us hy hw
  simpa using this
/-! ### a law -/
def gh0 (W : World) : Gh := ⟨fun _ => none, fun _ => none, fun b => b < W.heap.size⟩
theorem rval_struct {W : World} {t : T} {a : t.Den} {cs : Array Value} (h : Rd (fun b => b < W.heap.size) W t a cs.toList) : RVal (gh0 W) [] W true (cellsOf t a) (.agg cs) :=
  ⟨cs, rfl, rcs_cells (g := gh0 W) h⟩
theorem rval_list {W : World} {t : T} {a : List t.Den} {v : Value} (h : Rd (fun b => b < W.heap.size) W (.list t) a [v]) : RVal (gh0 W) [] W false [.lst t a] v :=
  rcs_cells (g := gh0 W) (t := .list t) h
theorem law_calls {P : Program} {f : FuncId} {ins : List VS} {pf : DenV ins × DenO [] → Option (DenV [⟨false, [.bool]⟩] × DenO [])} (hs : Sound P f ⟨ins, [], false, [⟨false, [.bool]⟩], [], [], pf⟩) {x : DenV ins} (hx : pf (x, ()) = some (((true, ()), ()), ())) {W : World} {args : Array Value}
    (h : RVals (gh0 W) [] W (instV ins x) args.toList) : Calls P f args W fun e W' => e = .returned (.bool true) ∧ Below W.heap.size W W' := by
  have hG : RelG (gh0 W) [] W := ⟨fun o ob h => (by cases h), fun b o h => (by cases h), fun b h => h⟩
  refine (hs.2 (x, ()) (((true, ()), ()), ()) hx (gh0 W) W args hG h).mono fun e W' he => ?_
  cases e with
  | returned v =>
    obtain ⟨g', O⟩ := he
    have hv : RVal g' [] W' false [.bool true] v := O.val
    obtain ⟨u, us, e, h1, h2⟩ := hv
    obtain ⟨rfl, rfl⟩ : u = v ∧ us = [] := by simpa using e.symm
    have h3 : u = .bool true := h1.2
    refine ⟨by rw [h3], O.ext.os, O.ext.tape, O.ext.output, O.ext.size, fun k hk => O.ext.block k hk (by simp [gh0])⟩
  | panicked c => exact he.elim
  | outgrown => exact he.elim
end Go.Proofs.YtkfehogikjcgkaaGreat.V
namespace Go.Proofs.YtkfehogikjcgkaaGreat.V
open Go
set_option linter.unusedVariables false
theorem opensC136 (r : T) : OpensC Tryz.prog 136 (.pair (.int .i64) (.pair (.list (.int .i64)) r)) r := opensC_struct Tryz.underlying136 (by kernel_rfl) (opensF_cons (o := 0) (m := 1) (n := 1) rfl (by kernel_rfl) (OpensC.leaf (opens_int Tryz.underlying2)) (opensF_cons (o := 1) (m := 1) (n := 0) rfl (by kernel_rfl) (OpensC.leaf (opens_list Tryz.underlying22 (by kernel_rfl) (by decide) (opens_int Tryz.underlying2))) opensF_nil))
theorem opensC40 (r : T) : OpensC Tryz.prog 40 (.pair (.int .i64) (.pair (.int .i64) (.pair (.int .i64) (.pair (.int .i64) (.pair (.int .i64) (.pair (.int .i64) (.pair (.list (.int .i64)) r))))))) r := opensC_struct Tryz.underlying40 (by kernel_rfl) (opensF_cons (o := 0) (m := 1) (n := 6) rfl (by kernel_rfl) (OpensC.leaf (opens_int Tryz.underlying2)) (opensF_cons (o := 1) (m := 1) (n := 5) rfl (by kernel_rfl) (OpensC.leaf (opens_int Tryz.underlying2)) (opensF_cons (o := 2) (m := 1) (n := 4) rfl (by kernel_rfl) (OpensC.leaf (opens_int Tryz.underlying2)) (opensF_cons (o := 3) (m := 1) (n := 3) rfl (by kernel_rfl) (OpensC.leaf (opens_int Tryz.underlying2)) (opensF_cons (o := 4) (m := 1) (n := 2) rfl (by kernel_rfl) (OpensC.leaf (opens_int Tryz.underlying2)) (opensF_cons (o := 5) (m := 1) (n := 1) rfl (by kernel_rfl) (OpensC.leaf (opens_int Tryz.underlying2)) (opensF_cons (o := 6) (m := 1) (n := 0) rfl (by kernel_rfl) (OpensC.leaf (opens_list Tryz.underlying22 (by kernel_rfl) (by decide) (opens_int Tryz.underlying2))) opensF_nil)))))))
theorem opensC78 (r : T) : OpensC Tryz.prog 78 (.pair (.int .i64) (.pair (.int .i64) (.pair (.int .i64) (.pair (.int .i64) r)))) r := opensC_struct Tryz.underlying78 (by kernel_rfl) (opensF_cons (o := 0) (m := 1) (n := 3) rfl (by kernel_rfl) (OpensC.leaf (opens_int Tryz.underlying2)) (opensF_cons (o := 1) (m := 1) (n := 2) rfl (by kernel_rfl) (OpensC.leaf (opens_int Tryz.underlying2)) (opensF_cons (o := 2) (m := 1) (n := 1) rfl (by kernel_rfl) (OpensC.leaf (opens_int Tryz.underlying2)) (opensF_cons (o := 3) (m := 1) (n := 0) rfl (by kernel_rfl) (OpensC.leaf (opens_int Tryz.underlying2)) opensF_nil))))
theorem opensC80 (r : T) : OpensC Tryz.prog 80 (.pair (.list tPhi) (.pair (.list tInst) (.pair (.int .i64) (.pair (.int .i64) (.pair (.int .i64) (.pair (.int .i64) r)))))) r := opensC_struct Tryz.underlying80 (by kernel_rfl) (opensF_cons (o := 0) (m := 1) (n := 5) rfl (by kernel_rfl) (OpensC.leaf (opens_list Tryz.underlying76 (by kernel_rfl) (by decide) (OpensC.whole (opensC136 _)))) (opensF_cons (o := 1) (m := 1) (n := 4) rfl (by kernel_rfl) (OpensC.leaf (opens_list Tryz.underlying77 (by kernel_rfl) (by decide) (OpensC.whole (opensC40 _)))) (opensF_cons (o := 2) (m := 4) (n := 0) rfl (by kernel_rfl) (opensC78 _) opensF_nil)))
theorem opensC25 (r : T) : OpensC Tryz.prog 25 (.pair (.list (.int .i64)) (.pair (.int .i64) (.pair (.list tBlock) r))) r := opensC_struct Tryz.underlying25 (by kernel_rfl) (opensF_cons (o := 0) (m := 1) (n := 2) rfl (by kernel_rfl) (OpensC.leaf (opens_list Tryz.underlying22 (by kernel_rfl) (by decide) (opens_int Tryz.underlying2))) (opensF_cons (o := 1) (m := 1) (n := 1) rfl (by kernel_rfl) (OpensC.leaf (opens_int Tryz.underlying2)) (opensF_cons (o := 2) (m := 1) (n := 0) rfl (by kernel_rfl) (OpensC.leaf (opens_list Tryz.underlying23 (by kernel_rfl) (by decide) (OpensC.whole (opensC80 _)))) opensF_nil)))
end Go.Proofs.YtkfehogikjcgkaaGreat.V
namespace Go.Proofs.YtkfehogikjcgkaaGreat.V
open Go
set_option linter.unusedVariables false
set_option linter.unusedSimpArgs false
def Ev {R : Type} (g : Nat → Option R) (r : R) : Prop := ∃ n, ∀ k, n ≤ k → g k = some r
abbrev one {α : Type} (x : α) : ((α × Unit) × Unit) × Unit := (((x, ()), ()), ())
abbrev rowR {α : Type} (xs : α) : ((Unit × Unit) × Unit) × (α × Unit) := ((((), ()), ()), (xs, ()))
section
variable {R S : Type}
theorem Ev.cst {o : Option R} {r : R} (h : o = some r) : Ev (fun _ => o) r := ⟨0, fun _ _ => h⟩
theorem Ev.all {g : Nat → Option R} {r : R} (h : ∀ k, g k = some r) : Ev g r := ⟨0, fun k _ => h k⟩
theorem Ev.congr {g g' : Nat → Option R} {r : R} (h : Ev g' r) (e : ∀ k, g k = g' k) : Ev g r := by
  obtain ⟨n, h⟩ := h
  exact ⟨n, fun k hk => by rw [e, h k hk]⟩
theorem Ev.step {g g' : Nat → Option R} {r : R} (h : Ev g' r) (e : ∀ k, g (k + 1) = g' k) : Ev g r := by
  obtain ⟨n, h⟩ := h
  refine ⟨n + 1, fun k hk => ?_⟩
  obtain ⟨k, rfl⟩ : ∃ j, k = j + 1 := ⟨k - 1, by omega⟩
  rw [e, h k (by omega)]
theorem Ev.bind {g : Nat → Option S} {f : Nat → S → Option R} {a : S} {r : R} (h : Ev g a) (k : Ev (fun n => f n a) r) : Ev (fun n => Option.bind (g n) (f n)) r := by
  obtain ⟨n, h⟩ := h
  obtain ⟨m, k⟩ := k
  exact ⟨max n m, fun j hj => by show Option.bind (g j) (f j) = some r; rw [h j (by omega), Option.bind_some]; exact k j (by omega)⟩
theorem Ev.rw {g : Nat → Option R} {r s : R} (h : Ev g r) (e : r = s) : Ev g s := e ▸ h
theorem Ev.pos {c : Bool} {f g : Nat → Option R} {r : R} (hc : c = true) (h : Ev f r) : Ev (fun k => bif c then f k else g k) r := h.congr fun k => by rw [hc]; rfl
theorem Ev.neg {c : Bool} {f g : Nat → Option R} {r : R} (hc : c = false) (h : Ev g r) : Ev (fun k => bif c then f k else g k) r := h.congr fun k => by rw [hc]; rfl
theorem Ev.ex {g : Nat → Option R} {r : R} (h : Ev g r) : ∃ k, g k = some r := by
  obtain ⟨n, h⟩ := h
  exact ⟨n, h n (Nat.le_refl _)⟩
end
def W (x : Int) : Int := IntKind.wrap .i64 x
theorem wrap_id {x : Int} (h0 : -9223372036854775808 ≤ x) (h1 : x ≤ 9223372036854775807) : IntKind.wrap .i64 x = x := by
  have e : IntKind.wrap .i64 x = if (true && decide (x % 18446744073709551616 ≥ 9223372036854775808)) = true then x % 18446744073709551616 - 18446744073709551616 else x % 18446744073709551616 := rfl
  rw [e]
  simp only [Bool.true_and, decide_eq_true_eq]
  split <;> omega
theorem wrap_nat {i : Nat} (h : i < 9223372036854775807) : IntKind.wrap .i64 ((i : Int) + 1) = ((i + 1 : Nat) : Int) := by
  rw [wrap_id (by omega) (by omega)]; omega
theorem getD_at {α : Type} (l : List α) (z : α) (j : Nat) (h : j < l.length) : l.getD j z = l[j] := by simp [List.getD, List.getElem?_eq_getElem h]
theorem dpos {c : Prop} [Decidable c] (h : c) : decide c = true := by simp [h]
theorem dneg {c : Prop} [Decidable c] (h : ¬ c) : decide c = false := by simp [h]
theorem Ev.dp {R : Type} {p : Prop} [Decidable p] {f g : Nat → Option R} {r : R} (h : p) (e : Ev f r) : Ev (fun k => bif decide p then f k else g k) r := Ev.pos (dpos h) e
theorem Ev.dn {R : Type} {p : Prop} [Decidable p] {f g : Nat → Option R} {r : R} (h : ¬ p) (e : Ev g r) : Ev (fun k => bif decide p then f k else g k) r := Ev.neg (dneg h) e
theorem Ev.dd {R : Type} {p q : Prop} [Decidable p] [Decidable q] {f g : Nat → Option R} {r : R} (h : p) (h' : q) (e : Ev f r) : Ev (fun k => bif decide p && decide q then f k else g k) r := Ev.pos (by rw [dpos h, dpos h']; rfl) e
theorem Ev.succ {R : Type} {g : Nat → Option R} {r : R} (h : Ev (fun k => g (k + 1)) r) : Ev g r := Ev.step h fun _ => rfl
/-- A loop over places 0 .. n, backwards. -/
theorem Ev.down {R : Type} {G : Nat → Nat → Option R} {V : Nat → R} (n : Nat) (hend : Ev (G n) (V n)) (hstep : ∀ i, i < n → Ev (G (i + 1)) (V (i + 1)) → Ev (G i) (V i)) : ∀ i, i ≤ n → Ev (G i) (V i) := by
  intro i hi
  obtain ⟨d, rfl⟩ : ∃ d, i = n - d := ⟨n - i, by omega⟩
  clear hi
  induction d with
  | zero => exact hend
  | succ d ih =>
    by_cases h : d < n
    · have e : n - (d + 1) + 1 = n - d := by omega
      exact hstep (n - (d + 1)) (by omega) (by rw [e]; exact ih)
    · have e : n - (d + 1) = n - d := by omega
      rw [e]; exact ih
section
variable {α R : Type} {z : α} {l : List α}
/-- What a loop's head asks: is the place one of the list? -/
theorem head_in {i : Nat} (h : i < l.length) : (decide ((i : Int) < (l.length : Int))) = true := dpos (by omega)
theorem head_0 {i : Nat} : (decide (0 ≤ (i : Int))) = true := dpos (by omega)
theorem head_end : (decide ((l.length : Int) < (l.length : Int))) = false := dneg (by omega)
theorem get_in {i : Nat} (h : i < l.length) : l.getD (Int.toNat (i : Int)) z = l[i] := by rw [Int.toNat_natCast]; exact getD_at l z i h
/-- The loops that ask something of each element. -/
theorem each_ev {L : Nat → Int → Option R} {q : Nat → α → (Nat → Option R) → Option R} {tail : Nat → Option R} {V : List α → R} (hlen : l.length ≤ 9223372036854775807)
    (hL : ∀ k a, L (k + 1) a = bif decide (a < (l.length : Int)) then (bif decide (0 ≤ a) && decide (a < (l.length : Int)) then q k (l.getD a.toNat z) (fun j => L j (IntKind.wrap .i64 (a + 1))) else none) else tail k)
    (hend : Ev tail (V [])) (hstep : ∀ x m (g : Nat → Option R), x ∈ l → Ev g (V m) → Ev (fun k => q k x g) (V (x :: m))) : Ev (fun k => L k 0) (V l) := by
  have := Ev.down (G := fun i k => L k (i : Int)) (V := fun i => V (l.drop i)) l.length ?_ ?_ 0 (Nat.zero_le _)
  · exact this
  · rw [List.drop_length]
    refine hend.step fun k => ?_
    rw [hL, head_end]; rfl
  · intro i hi ih
    rw [List.drop_eq_getElem_cons hi]
    refine (hstep l[i] (l.drop (i + 1)) (fun j => L j (((i + 1 : Nat)) : Int)) (List.getElem_mem hi) ih).step fun k => ?_
    show L (k + 1) (i : Int) = _
    rw [hL]
    simp only [head_in hi, head_0, Bool.and_self, cond_true, get_in hi, wrap_nat (show i < 9223372036854775807 by omega)]
/-- slices.IndexFunc. -/
def ixF (p : α → Bool) : List α → Nat → Int
  | [], _ => -1
  | x :: l, i => bif p x then (i : Int) else ixF p l (i + 1)
theorem ixF_any (p : α → Bool) : ∀ (l : List α) (i : Nat), decide (0 ≤ ixF p l i) = l.any p
  | [], i => by simp [ixF]
  | x :: l, i => by
    have ih := ixF_any p l (i + 1)
    rw [List.any_cons]
    unfold ixF
    rcases Bool.eq_false_or_eq_true (p x) with h | h
    · simp only [h, cond_true, Bool.true_or]; exact dpos (by omega)
    · simp only [h, cond_false, Bool.false_or]; exact ih
theorem index_ev {p : α → Bool} {q : Nat → α → Option (((Bool × Unit) × Unit) × Unit)} {L : Nat → Int → Int → Option (((Int × Unit) × Unit) × Unit)} (hlen : l.length ≤ 9223372036854775807)
    (hL : ∀ k b a, L (k + 1) b a = bif decide (a < b) then (bif decide (0 ≤ a) && decide (a < (l.length : Int)) then (Option.bind (q k (l.getD a.toNat z)) fun r1 => bif r1.1.1.1 then some (((a, ()), ()), ()) else L k b (IntKind.wrap .i64 (a + 1))) else none) else some (((-1, ()), ()), ()))
    (hq : ∀ x ∈ l, Ev (fun k => q k x) (one (p x))) : Ev (fun k => Option.bind (L k (l.length : Int) 0) fun r1 => some (((decide (0 ≤ r1.1.1.1), ()), ()), ())) (one (l.any p)) := by
  have := Ev.down (G := fun i k => L k (l.length : Int) (i : Int)) (V := fun i => one (ixF p (l.drop i) i)) l.length ?_ ?_ 0 (Nat.zero_le _)
  · refine (Ev.bind (f := fun _ r1 => some (((decide (0 ≤ r1.1.1.1), ()), ()), ())) this (Ev.cst rfl)).rw ?_
    show one (decide (0 ≤ ixF p l 0)) = _
    rw [ixF_any]
  · rw [List.drop_length]
    refine Ev.step (g' := fun _ => some (((-1, ()), ()), ())) (Ev.cst rfl) fun k => ?_
    show L (k + 1) _ _ = _
    rw [hL, head_end]; rfl
  · intro i hi ih
    rw [List.drop_eq_getElem_cons hi]
    have h1 := hq l[i] (List.getElem_mem hi)
    refine Ev.step (g' := fun k => Option.bind (q k l[i]) fun r1 => bif r1.1.1.1 then some ((((i : Int), ()), ()), ()) else L k (l.length : Int) ((i + 1 : Nat) : Int)) ?_ fun k => ?_
    · refine Ev.bind h1 ?_
      simp only [ixF]
      cases p l[i] with
      | true => exact Ev.cst rfl
      | false => exact ih
    · show L (k + 1) _ _ = _
      rw [hL]
      simp only [head_in hi, head_0, Bool.and_self, cond_true, get_in hi, wrap_nat (show i < 9223372036854775807 by omega)]
end
end Go.Proofs.YtkfehogikjcgkaaGreat.V
namespace Go.Proofs.YtkfehogikjcgkaaGreat.V
open Go
set_option linter.unusedVariables false
set_option linter.unusedSimpArgs false
/-- All lists are short. -/
def Small : (t : T) → t.Den → Prop
  | .list t, xs => List.length (α := t.Den) xs ≤ 1048576 ∧ ∀ x : t.Den, List.Mem (α := t.Den) x xs → Small t x
  | .pair a b, x => Small a (Prod.fst (α := a.Den) (β := b.Den) x) ∧ Small b (Prod.snd (α := a.Den) (β := b.Den) x)
  | _, _ => True
abbrev IR := (((Int × Unit) × Unit) × Unit)
abbrev BR := (((Bool × Unit) × Unit) × Unit)
def SzP {α : Type} (wf small : α → Prop) (f : Nat → α → Int → Option IR) : Prop := ∀ (x : α), wf x → ∀ n : Int, 0 ≤ n → n ≤ 1048576 → ∃ s, Ev (fun k => f k x n) (one s) ∧ -1 ≤ s ∧ s ≤ n ∧ (0 ≤ s → small x)
abbrev SzOK (t : T) (f : Nat → t.Den → Int → Option IR) : Prop := SzP (Wf t) (Small t) f
theorem sz_list {α : Type} {wf small : α → Prop} {z : α} {f : Nat → α → Int → Option IR} (hf : SzP wf small f) {L : Nat → List α → Int → Int → Option IR} {F : Nat → List α → Int → Option IR}
    (hL : ∀ k l a1 a2, L (k + 1) l a1 a2 = bif decide (a2 < (l.length : Int)) then (bif decide (0 ≤ a2) && decide (a2 < (l.length : Int)) then (Option.bind (f k (l.getD a2.toNat z) a1) fun r1 => bif decide (r1.1.1.1 < 0) then some (((-1, ()), ()), ()) else L k l r1.1.1.1 (IntKind.wrap .i64 (a2 + 1))) else none) else some (((a1, ()), ()), ()))
    (hF : ∀ k l a, F k l a = bif decide (IntKind.wrap .i64 (a - (l.length : Int)) < 0) then some (((-1, ()), ()), ()) else L k l (IntKind.wrap .i64 (a - (l.length : Int))) 0) : SzP (fun l : List α => l.length ≤ 9223372036854775807 ∧ ∀ x ∈ l, wf x) (fun l : List α => l.length ≤ 1048576 ∧ ∀ x ∈ l, small x) F := by
  intro l hw n h0 h1
  obtain ⟨hlen, hel⟩ := hw
  have key : ∀ (d i : Nat) (n : Int), i + d = l.length → 0 ≤ n → n ≤ 1048576 → ∃ s, Ev (fun k => L k l n (i : Int)) (one s) ∧ -1 ≤ s ∧ s ≤ n ∧ (0 ≤ s → ∀ x ∈ l.drop i, small x) := by
    intro d
    induction d with
    | zero =>
      intro i n hi h0 h1
      have hi' : i = l.length := by omega
      subst hi'
      refine ⟨n, Ev.step (g' := fun _ => some (one n)) (Ev.cst rfl) fun k => ?_, by omega, Int.le_refl _, fun _ x hx => by rw [List.drop_length] at hx; cases hx⟩
      rw [hL, head_end]; rfl
    | succ d ih =>
      intro i n hi h0 h1
      have hi' : i < l.length := by omega
      have hmem : l[i] ∈ l := List.getElem_mem hi'
      obtain ⟨s, e1, e2, e3, e4⟩ := hf (l[i]) (hel _ hmem) n h0 h1
      have hstep : ∀ k, L (k + 1) l n (i : Int) = Option.bind (f k (l[i]) n) fun r1 => bif decide (r1.1.1.1 < 0) then some (((-1, ()), ()), ()) else L k l r1.1.1.1 ((i + 1 : Nat) : Int) := fun k => by
        rw [hL]
        simp only [head_in hi', head_0, Bool.and_self, cond_true, get_in hi', wrap_nat (show i < 9223372036854775807 by omega)]
      rcases Int.lt_or_le s 0 with hs | hs
      · refine ⟨-1, Ev.step (Ev.bind (f := fun k r1 => bif decide (r1.1.1.1 < 0) then some (((-1, ()), ()), ()) else L k l r1.1.1.1 ((i + 1 : Nat) : Int)) e1 ?_) hstep, by omega, by omega, fun h => by omega⟩
        exact Ev.pos (dpos hs) (Ev.cst rfl)
      · obtain ⟨s', q1, q2, q3, q4⟩ := ih (i + 1) s (by omega) hs (by omega)
        refine ⟨s', Ev.step (Ev.bind (f := fun k r1 => bif decide (r1.1.1.1 < 0) then some (((-1, ()), ()), ()) else L k l r1.1.1.1 ((i + 1 : Nat) : Int)) e1 (Ev.neg (dneg (show ¬ s < 0 by omega)) q1)) hstep, q2, by omega, fun h x hx => ?_⟩
        rw [List.drop_eq_getElem_cons hi'] at hx
        rcases List.mem_cons.1 hx with rfl | hx
        · exact e4 hs
        · exact q4 h x hx
  have hw : IntKind.wrap .i64 (n - (l.length : Int)) = n - (l.length : Int) := wrap_id (by omega) (by omega)
  rcases Int.lt_or_le (n - (l.length : Int)) 0 with hs | hs
  · refine ⟨-1, (Ev.cst rfl : Ev (fun _ => some (one (-1 : Int))) _).congr fun k => ?_, by omega, by omega, fun h => by omega⟩
    rw [hF, hw, dpos hs]; rfl
  · obtain ⟨s, q1, q2, q3, q4⟩ := key (l.length) 0 _ (by omega) hs (by omega)
    refine ⟨s, q1.congr fun k => ?_, q2, by omega, fun h => ⟨by omega, fun x hx => q4 h x (by simpa using hx)⟩⟩
    rw [hF, hw, dneg (by omega)]; rfl
/-- A copy, element by element. -/
theorem to_list {α R : Type} {z : α} {L : Nat → List α → Int → List α → Option (((Unit × Unit) × Unit) × (List α × Unit))} {q : Nat → α → (α → Option (((Unit × Unit) × Unit) × (List α × Unit))) → Option (((Unit × Unit) × Unit) × (List α × Unit))} {F : Nat → List α → Option (((Unit × Unit) × Unit) × (List α × Unit))} {b : Int}
    (hL : ∀ k l a1 a2, L (k + 1) l a1 a2 = bif decide (a1 < (l.length : Int)) then (bif decide (0 ≤ a1) && decide (a1 < (l.length : Int)) then q k (l.getD a1.toNat z) (fun y => bif decide (0 ≤ a1) && decide (a1 < (a2.length : Int)) then L k l (IntKind.wrap .i64 (a1 + 1)) (a2.set a1.toNat y) else none) else none) else some ((((), ()), ()), (a2, ())))
    (hF : ∀ k l, F k l = bif decide ((l.length : Int) = (l.length : Int)) && decide (0 ≤ (l.length : Int)) && decide ((l.length : Int) * b ≤ 281474976710656) then L k l 0 (List.replicate (Int.toNat (l.length : Int)) z) else none)
    {l : List α} (hlen : l.length ≤ 1048576) (hb0 : 0 ≤ b) (hb : b ≤ 1000) (hq : ∀ x ∈ l, ∀ (h : Nat → α → Option (((Unit × Unit) × Unit) × (List α × Unit))) r, Ev (fun k => h k x) r → Ev (fun k => q k x (h k)) r) : Ev (fun k => F k l) (rowR l) := by
  have h1 := Ev.down (G := fun i k => L k l (i : Int) (l.take i ++ List.replicate (l.length - i) z)) (V := fun _ => rowR l) l.length ?_ ?_ 0 (Nat.zero_le _)
  · refine h1.congr fun k => ?_
    have hsz : (l.length : Int) * b ≤ 281474976710656 := by
      have : (l.length : Int) * b ≤ 1048576 * 1000 := Int.mul_le_mul (by omega) hb hb0 (by omega)
      omega
    rw [hF, dpos rfl, dpos (show 0 ≤ (l.length : Int) by omega), dpos hsz]
    simp
  · refine Ev.step (g' := fun _ => some (rowR l)) (Ev.cst rfl) fun k => ?_
    show L (k + 1) l _ _ = _
    rw [hL, head_end]
    simp
  · intro i hi ih
    refine Ev.step (g' := fun k => q k l[i] (fun y => bif decide (0 ≤ (i : Int)) && decide ((i : Int) < (((l.take i ++ List.replicate (l.length - i) z).length : Nat) : Int)) then L k l ((i + 1 : Nat) : Int) ((l.take i ++ List.replicate (l.length - i) z).set i y) else none)) (hq _ (List.getElem_mem hi) (fun k y => bif decide (0 ≤ (i : Int)) && decide ((i : Int) < (((l.take i ++ List.replicate (l.length - i) z).length : Nat) : Int)) then L k l ((i + 1 : Nat) : Int) ((l.take i ++ List.replicate (l.length - i) z).set i y) else none) _ ?_) fun k => ?_
    · refine Ev.pos ?_ (ih.congr fun k => ?_)
      · rw [dpos (by omega), dpos (by simp; omega)]; rfl
      · congr 1
        rw [List.set_append_right _ _ (by simp; omega)]
        have e1 : i - (l.take i).length = 0 := by simp; omega
        have e2 : l.length - i = (l.length - (i + 1)) + 1 := by omega
        rw [e1, e2, List.replicate_succ, List.set_cons_zero, List.take_succ_eq_append_getElem hi, List.append_assoc]
        rfl
    · show L (k + 1) l _ _ = _
      rw [hL]
      simp only [head_in hi, head_0, Bool.and_self, cond_true, get_in hi, wrap_nat (show i < 9223372036854775807 by omega), Int.toNat_natCast]
      rw [getD_at l z i hi]
/-- A list compared with itself. -/
theorem eq_list {α : Type} {z : α} {L : Nat → List α → List α → Int → Option BR} {q : Nat → α → α → Option BR → Option BR} {F : Nat → List α → List α → Option BR}
    (hL : ∀ k l m a, L (k + 1) l m a = bif decide (a < (l.length : Int)) then (bif decide (0 ≤ a) && decide (a < (l.length : Int)) then (bif decide (0 ≤ a) && decide (a < (m.length : Int)) then q k (l.getD a.toNat z) (m.getD a.toNat z) (L k l m (IntKind.wrap .i64 (a + 1))) else none) else none) else some (((true, ()), ()), ()))
    (hF : ∀ k l m, F k l m = bif !decide ((l.length : Int) = (m.length : Int)) then some (((false, ()), ()), ()) else L k l m 0)
    {l : List α} (hlen : l.length ≤ 1048576) (hq : ∀ x ∈ l, ∀ (g : Nat → Option BR) r, Ev g r → Ev (fun k => q k x x (g k)) r) : Ev (fun k => F k l l) (one true) := by
  have h1 := Ev.down (G := fun i k => L k l l (i : Int)) (V := fun _ => one true) l.length ?_ ?_ 0 (Nat.zero_le _)
  · refine h1.congr fun k => ?_
    rw [hF, dpos rfl]; rfl
  · refine Ev.step (g' := fun _ => some (one true)) (Ev.cst rfl) fun k => ?_
    show L (k + 1) l l _ = _
    rw [hL, head_end]; rfl
  · intro i hi ih
    refine Ev.step (hq _ (List.getElem_mem hi) (fun k => L k l l ((i + 1 : Nat) : Int)) _ ih) fun k => ?_
    show L (k + 1) l l _ = _
    rw [hL]
    simp only [head_in hi, head_0, Bool.and_self, cond_true, get_in hi, wrap_nat (show i < 9223372036854775807 by omega)]
end Go.Proofs.YtkfehogikjcgkaaGreat.V
namespace Go.Proofs.YtkfehogikjcgkaaGreat.V
open Go
set_option linter.unusedVariables false
set_option linter.unusedSimpArgs false
/-! ### how much there is -/
theorem sz_then {n s : Int} {g : Nat → Option IR} (h : Ev g (one s)) : Ev (fun k => Option.bind (g k) fun r1 => bif decide (r1.1.1.1 < 0) then some (((-1, ()), ()), ()) else some (((r1.1.1.1, ()), ()), ())) (one (if s < 0 then -1 else s)) := by
  refine Ev.bind h ?_
  by_cases hs : s < 0
  · rw [if_pos hs]; exact Ev.pos (dpos hs) (Ev.cst rfl)
  · rw [if_neg hs]; exact Ev.neg (dneg hs) (Ev.cst rfl)
theorem szInts : SzOK (.list (.int .i64)) laws_szInt64S.f := by
  intro l hw n h0 h1
  have hlen : List.length (α := Int) l ≤ 9223372036854775807 := hw.1
  have hwr : IntKind.wrap .i64 (n - (List.length (α := Int) l : Int)) = n - (List.length (α := Int) l : Int) := wrap_id (by omega) (by omega)
  have he : ∀ k, laws_szInt64S.f k l n = bif decide (n - (List.length (α := Int) l : Int) < 0) then some (one (-1)) else some (one (n - (List.length (α := Int) l : Int))) := fun k => by
    show (bif decide (IntKind.wrap .i64 (n - (List.length (α := Int) l : Int)) < 0) then _ else _) = _
    rw [hwr]
  by_cases hs : n - (List.length (α := Int) l : Int) < 0
  · exact ⟨-1, Ev.all fun k => by rw [he, dpos hs]; rfl, by omega, by omega, fun h => by omega⟩
  · exact ⟨_, Ev.all fun k => by rw [he, dneg hs]; rfl, by omega, by omega, fun h => ⟨by show List.length (α := Int) l ≤ _; omega, fun _ _ => trivial⟩⟩
theorem szPhi : SzOK tPhi laws_szPhi.f := by
  intro x hw n h0 h1
  obtain ⟨s, e, a, b, c⟩ := szInts _ hw.2.1 n h0 h1
  exact ⟨_, sz_then (n := n) e, by split <;> omega, by split <;> omega, fun h => ⟨trivial, c (by split at h <;> omega), trivial⟩⟩
theorem szPhiS : SzOK (.list tPhi) laws_szPhiS.f := sz_list (z := tPhiZ) szPhi (L := laws_szPhiS.l0) (fun k l a b => rfl) fun k l a => rfl
theorem szInst : SzOK tInst laws_szInst.f := by
  intro x hw n h0 h1
  obtain ⟨s, e, a, b, c⟩ := szInts _ hw.2.2.2.2.2.2.1 n h0 h1
  exact ⟨_, sz_then (n := n) e, by split <;> omega, by split <;> omega, fun h => ⟨trivial, trivial, trivial, trivial, trivial, trivial, c (by split at h <;> omega), trivial⟩⟩
theorem szInstS : SzOK (.list tInst) laws_szInstS.f := sz_list (z := tInstZ) szInst (L := laws_szInstS.l0) (fun k l a b => rfl) fun k l a => rfl
theorem sz_two {n s : Int} {g : Nat → Option IR} {f : Nat → Int → Option IR} {r : Int} (h : Ev g (one s)) (h' : 0 ≤ s → Ev (fun k => f k s) (one r)) (hr : s < 0 → r = -1) : Ev (fun k => Option.bind (g k) fun r1 => bif decide (r1.1.1.1 < 0) then some (((-1, ()), ()), ()) else f k r1.1.1.1) (one r) := by
  refine Ev.bind h ?_
  by_cases hs : s < 0
  · rw [hr hs]; exact Ev.pos (dpos hs) (Ev.cst rfl)
  · exact Ev.neg (dneg hs) (h' (by omega))
theorem szBlock : SzOK tBlock laws_szBlock.f := by
  intro x hw n h0 h1
  obtain ⟨s, e, a, b, c⟩ := szPhiS _ hw.1 n h0 h1
  by_cases hs : s < 0
  · exact ⟨-1, sz_two (n := n) (f := fun k s => Option.bind (laws_szInstS.f k x.2.1 s) fun r1 => bif decide (r1.1.1.1 < 0) then some (((-1, ()), ()), ()) else some (((r1.1.1.1, ()), ()), ())) e (fun h => by omega) (fun _ => rfl), by omega, by omega, fun h => by omega⟩
  · obtain ⟨s', e', a', b', c'⟩ := szInstS _ hw.2.1 s (by omega) (by omega)
    exact ⟨_, sz_two (n := n) (f := fun k s => Option.bind (laws_szInstS.f k x.2.1 s) fun r1 => bif decide (r1.1.1.1 < 0) then some (((-1, ()), ()), ()) else some (((r1.1.1.1, ()), ()), ())) e (fun _ => sz_then (n := n) e') (fun h => by omega), by split <;> omega, by split <;> omega, fun h => ⟨c (by omega), c' (by split at h <;> omega), trivial, trivial, trivial, trivial, trivial⟩⟩
theorem szBlockS : SzOK (.list tBlock) laws_szBlockS.f := sz_list (z := tBlockZ) szBlock (L := laws_szBlockS.l0) (fun k l a b => rfl) fun k l a => rfl
theorem szFunc : SzOK tFunc laws_szFunc.f := by
  intro x hw n h0 h1
  obtain ⟨s, e, a, b, c⟩ := szInts _ hw.1 n h0 h1
  by_cases hs : s < 0
  · exact ⟨-1, sz_two (n := n) (f := fun k s => Option.bind (laws_szBlockS.f k x.2.2.1 s) fun r1 => bif decide (r1.1.1.1 < 0) then some (((-1, ()), ()), ()) else some (((r1.1.1.1, ()), ()), ())) e (fun h => by omega) (fun _ => rfl), by omega, by omega, fun h => by omega⟩
  · obtain ⟨s', e', a', b', c'⟩ := szBlockS _ hw.2.2.1 s (by omega) (by omega)
    exact ⟨_, sz_two (n := n) (f := fun k s => Option.bind (laws_szBlockS.f k x.2.2.1 s) fun r1 => bif decide (r1.1.1.1 < 0) then some (((-1, ()), ()), ()) else some (((r1.1.1.1, ()), ()), ())) e (fun _ => sz_then (n := n) e') (fun h => by omega), by split <;> omega, by split <;> omega, fun h => ⟨c (by omega), trivial, c' (by split at h <;> omega), trivial⟩⟩
/-! ### a copy -/
theorem toInts {l : List Int} (h : Small (.list (.int .i64)) l) : Ev (fun k => laws_toInt64S.f k l) (rowR l) :=
  to_list (z := 0) (L := laws_toInt64S.l0) (q := fun k x h => h x) (b := 8) (R := Unit) (fun k l a b => rfl) (fun k l => rfl) h.1 (by omega) (by omega) fun x _ h r hh => hh
theorem toPhi {x : tPhiD} (h : Small tPhi x) : Ev (fun k => laws_toPhi.f k x) (((x.1, (), ()), ()), (x.2.1, ())) := Ev.bind (toInts h.2.1) (Ev.cst rfl)
theorem toPhiS {l : List tPhiD} (h : Small (.list tPhi) l) : Ev (fun k => laws_toPhiS.f k l) (rowR l) :=
  to_list (z := tPhiZ) (L := laws_toPhiS.l0) (q := fun k x h => Option.bind (laws_toPhi.f k x) fun r1 => h (r1.1.1.1, r1.2.1, ())) (b := 32) (R := Unit) (fun k l a b => rfl) (fun k l => rfl) h.1 (by omega) (by omega) fun x hx g r hh => Ev.bind (toPhi (h.2 x hx)) hh
theorem toInst {x : tInstD} (h : Small tInst x) : Ev (fun k => laws_toInst.f k x) (((x.1, x.2.1, x.2.2.1, x.2.2.2.1, x.2.2.2.2.1, x.2.2.2.2.2.1, (), ()), ()), (x.2.2.2.2.2.2.1, ())) := Ev.bind (toInts h.2.2.2.2.2.2.1) (Ev.cst rfl)
theorem toInstS {l : List tInstD} (h : Small (.list tInst) l) : Ev (fun k => laws_toInstS.f k l) (rowR l) :=
  to_list (z := tInstZ) (L := laws_toInstS.l0) (q := fun k x h => Option.bind (laws_toInst.f k x) fun r1 => h (r1.1.1.1, r1.1.1.2.1, r1.1.1.2.2.1, r1.1.1.2.2.2.1, r1.1.1.2.2.2.2.1, r1.1.1.2.2.2.2.2.1, r1.2.1, ())) (b := 72) (R := Unit) (fun k l a b => rfl) (fun k l => rfl) h.1 (by omega) (by omega) fun x hx g r hh => Ev.bind (toInst (h.2 x hx)) hh
theorem toBlock {x : tBlockD} (h : Small tBlock x) : Ev (fun k => laws_toBlock.f k x) ((((), (), x.2.2.1, x.2.2.2.1, x.2.2.2.2.1, x.2.2.2.2.2.1, ()), ()), (x.1, x.2.1, ())) := Ev.bind (toPhiS h.1) (Ev.bind (toInstS h.2.1) (Ev.cst rfl))
theorem toBlockS {l : List tBlockD} (h : Small (.list tBlock) l) : Ev (fun k => laws_toBlockS.f k l) (rowR l) :=
  to_list (z := tBlockZ) (L := laws_toBlockS.l0) (q := fun k x h => Option.bind (laws_toBlock.f k x) fun r1 => h (r1.2.1, r1.2.2.1, r1.1.1.2.2.1, r1.1.1.2.2.2.1, r1.1.1.2.2.2.2.1, r1.1.1.2.2.2.2.2.1, ())) (b := 80) (R := Unit) (fun k l a b => rfl) (fun k l => rfl) h.1 (by omega) (by omega) fun x hx g r hh => Ev.bind (toBlock (h.2 x hx)) hh
theorem toFunc {x : tFuncD} (h : Small tFunc x) : Ev (fun k => laws_toFunc.f k x) ((((), x.2.1, (), ()), ()), (x.1, x.2.2.1, ())) := Ev.bind (toInts h.1) (Ev.bind (toBlockS h.2.2.1) (Ev.cst rfl))
/-! ### a thing compared with itself -/
theorem eqInts {l : List Int} (h : Small (.list (.int .i64)) l) : Ev (fun k => laws_eqInt64S.f k l l) (one true) :=
  eq_list (z := 0) (L := laws_eqInt64S.l0) (q := fun k x y g => bif !decide (x = y) then some (((false, ()), ()), ()) else g) (fun k l m a => rfl) (fun k l m => rfl) h.1 fun x _ g r hh => Ev.neg (by rw [dpos rfl]; rfl) hh
theorem Ev.skip {R : Type} {n : Int} {o : Option R} {g : Nat → Option R} {r : R} (h : Ev g r) : Ev (fun k => bif !decide (n = n) then o else g k) r := Ev.neg (by rw [dpos rfl]; rfl) h
theorem Ev.yes {g : Nat → Option BR} {f : Nat → Option BR} {o : Option BR} {r : BR} (h : Ev g (one true)) (hf : Ev f r) : Ev (fun k => Option.bind (g k) fun r1 => bif !r1.1.1.1 then o else f k) r := Ev.bind h (Ev.neg rfl hf)
theorem eqPhi {x : tPhiD} (h : Small tPhi x) : Ev (fun k => laws_eqPhi.f k x x) (one true) := Ev.skip (Ev.yes (eqInts h.2.1) (Ev.cst rfl))
theorem eqPhiS {l : List tPhiD} (h : Small (.list tPhi) l) : Ev (fun k => laws_eqPhiS.f k l l) (one true) :=
  eq_list (z := tPhiZ) (L := laws_eqPhiS.l0) (q := fun k x y g => Option.bind (laws_eqPhi.f k x y) fun r1 => bif !r1.1.1.1 then some (((false, ()), ()), ()) else g) (fun k l m a => rfl) (fun k l m => rfl) h.1 fun x hx g r hh => Ev.yes (eqPhi (h.2 x hx)) hh
theorem eqInst {x : tInstD} (h : Small tInst x) : Ev (fun k => laws_eqInst.f k x x) (one true) := Ev.skip (Ev.skip (Ev.skip (Ev.skip (Ev.skip (Ev.skip (Ev.yes (eqInts h.2.2.2.2.2.2.1) (Ev.cst rfl)))))))
theorem eqInstS {l : List tInstD} (h : Small (.list tInst) l) : Ev (fun k => laws_eqInstS.f k l l) (one true) :=
  eq_list (z := tInstZ) (L := laws_eqInstS.l0) (q := fun k x y g => Option.bind (laws_eqInst.f k x y) fun r1 => bif !r1.1.1.1 then some (((false, ()), ()), ()) else g) (fun k l m a => rfl) (fun k l m => rfl) h.1 fun x hx g r hh => Ev.yes (eqInst (h.2 x hx)) hh
theorem eqTerm {x : tTermD} : Ev (fun k => laws_eqTerm.f k x x) (one true) := Ev.skip (Ev.skip (Ev.skip (Ev.skip (Ev.cst rfl))))
theorem eqBlock {x : tBlockD} (h : Small tBlock x) : Ev (fun k => laws_eqBlock.f k x x) (one true) := Ev.yes (eqPhiS h.1) (Ev.yes (eqInstS h.2.1) (Ev.yes eqTerm (Ev.cst rfl)))
theorem eqBlockS {l : List tBlockD} (h : Small (.list tBlock) l) : Ev (fun k => laws_eqBlockS.f k l l) (one true) :=
  eq_list (z := tBlockZ) (L := laws_eqBlockS.l0) (q := fun k x y g => Option.bind (laws_eqBlock.f k x y) fun r1 => bif !r1.1.1.1 then some (((false, ()), ()), ()) else g) (fun k l m a => rfl) (fun k l m => rfl) h.1 fun x hx g r hh => Ev.yes (eqBlock (h.2 x hx)) hh
theorem eqFunc {x : tFuncD} (h : Small tFunc x) : Ev (fun k => laws_eqFunc.f k x x) (one true) := Ev.yes (eqInts h.1) (Ev.skip (Ev.yes (eqBlockS h.2.2.1) (Ev.cst rfl)))
end Go.Proofs.YtkfehogikjcgkaaGreat.V
namespace Go.Proofs.YtkfehogikjcgkaaGreat.V
open Go
set_option linter.unusedVariables false
set_option linter.unusedSimpArgs false
theorem Ev.sc {R : Type} {g : Nat → Option R} {r : R} (h : Ev (fun k => g (k + 1)) r) : Ev g r := Ev.step h fun _ => rfl
theorem updAt_length {α : Type} (z : α) (l : List α) (i : Nat) (f : α → α) : (updAt z l i f).length = l.length := by simp [updAt]
theorem updAt_at {α : Type} (z : α) (l : List α) (i : Nat) (f : α → α) (h : i < l.length) : (updAt z l i f).getD i z = f (l.getD i z) := by
  rw [getD_at _ _ _ (by rw [updAt_length]; exact h)]
  simp [updAt]
theorem updAt_twice {α : Type} {z : α} {l : List α} {i : Nat} (h : i < l.length) (f g : α → α) : updAt z (updAt z l i f) i g = updAt z l i (fun x => g (f x)) := by
  show (updAt z l i f).set i (g ((updAt z l i f).getD i z)) = _
  rw [updAt_at _ _ _ _ h]
  simp [updAt]
abbrev MkR (α : Type) := (((Int × Unit) × Unit) × (α × Unit))
abbrev mkr {α : Type} (n : Int) (l : α) : MkR α := (((n, ()), ()), (l, ()))
/-- The numbers n, n + 1, .. -/
def upFrom : Int → Nat → List Int
  | _, 0 => []
  | n, d + 1 => n :: upFrom (n + 1) d
theorem markInts_l : ∀ (d i : Nat) (pre : List Int) (l : List Int) (n : Int), pre.length = i → l.length = d → i + d ≤ 1048576 → 0 ≤ n → n + (d : Int) ≤ 9223372036854775807 → Ev (fun k => laws_markInt64S.l0 k n (i : Int) (pre ++ l)) (mkr (n + (d : Int)) (pre ++ upFrom n d)) := by
  intro d
  induction d with
  | zero =>
    intro i pre l n hi hl h1 h0 hM
    obtain rfl : l = [] := List.eq_nil_of_length_eq_zero hl
    subst hi
    refine Ev.step (g' := fun _ => some (mkr (n + 0) (pre ++ []))) (Ev.cst rfl) fun k => ?_
    show laws_markInt64S.l0_ k (laws_markInt64S.l0 k) n _ (pre ++ []) = _
    unfold laws_markInt64S.l0_
    simp
  | succ d ih =>
    intro i pre l n hi hl h1 h0 hM
    obtain ⟨x, l, rfl⟩ : ∃ x m, l = x :: m := by
      cases l with
      | nil => simp at hl
      | cons x m => exact ⟨x, m, rfl⟩
    subst hi
    have hlt : pre.length < (pre ++ x :: l).length := by simp
    refine Ev.sc ?_
    show Ev (fun k => laws_markInt64S.l0_ k (laws_markInt64S.l0 k) n _ (pre ++ x :: l)) _
    unfold laws_markInt64S.l0_
    simp only [head_in hlt, head_0, Bool.and_self, cond_true, Int.toNat_natCast, wrap_nat (show pre.length < 9223372036854775807 by omega), wrap_id (x := n + 1) (by omega) (by omega)]
    have e : (pre ++ x :: l).set pre.length n = (pre ++ [n]) ++ l := by simp
    rw [e]
    refine (ih (pre.length + 1) (pre ++ [n]) l (n + 1) (by simp) (by simpa using hl) (by omega) (by omega) (by omega)).rw ?_
    have e1 : n + 1 + (d : Int) = n + ((d + 1 : Nat) : Int) := by omega
    simp [upFrom, e1]
theorem markInts (l : List Int) (n : Int) (hl : l.length ≤ 1048576) (h0 : 0 ≤ n) (hM : n + (l.length : Int) ≤ 9223372036854775807) : Ev (fun k => laws_markInt64S.f k n l) (mkr (n + (l.length : Int)) (upFrom n l.length)) :=
  markInts_l l.length 0 [] l n rfl rfl (by omega) h0 hM
theorem heldInts_l : ∀ (d i : Nat) (pre : List Int) (n : Int), pre.length = i → i + d ≤ 1048576 → 0 ≤ n → n + (d : Int) ≤ 9223372036854775807 → Ev (fun k => laws_heldInt64S.l0 k (pre ++ upFrom n d) n (i : Int)) (one (n + (d : Int))) := by
  intro d
  induction d with
  | zero =>
    intro i pre n hi h1 h0 hM
    subst hi
    refine Ev.step (g' := fun _ => some (one (n + 0))) (Ev.cst rfl) fun k => ?_
    show laws_heldInt64S.l0_ k (laws_heldInt64S.l0 k) (pre ++ []) n _ = _
    unfold laws_heldInt64S.l0_
    simp
  | succ d ih =>
    intro i pre n hi h1 h0 hM
    subst hi
    have hlt : pre.length < (pre ++ n :: upFrom (n + 1) d).length := by simp
    refine Ev.sc ?_
    show Ev (fun k => laws_heldInt64S.l0_ k (laws_heldInt64S.l0 k) (pre ++ n :: upFrom (n + 1) d) n _) _
    unfold laws_heldInt64S.l0_
    simp only [head_in hlt, head_0, Bool.and_self, cond_true, get_in hlt, wrap_nat (show pre.length < 9223372036854775807 by omega), wrap_id (x := n + 1) (by omega) (by omega)]
    refine Ev.neg (by simp) ?_
    have e : pre ++ n :: upFrom (n + 1) d = (pre ++ [n]) ++ upFrom (n + 1) d := by simp
    rw [e]
    refine (ih (pre.length + 1) (pre ++ [n]) (n + 1) (by simp) (by omega) (by omega) (by omega)).rw ?_
    have e1 : n + 1 + (d : Int) = n + ((d + 1 : Nat) : Int) := by omega
    rw [e1]
theorem heldInts (n : Int) (d : Nat) (hl : d ≤ 1048576) (h0 : 0 ≤ n) (hM : n + (d : Int) ≤ 9223372036854775807) : Ev (fun k => laws_heldInt64S.f k (upFrom n d) n) (one (n + (d : Int))) :=
  heldInts_l d 0 [] n rfl (by omega) h0 hM
end Go.Proofs.YtkfehogikjcgkaaGreat.V
namespace Go.Proofs.YtkfehogikjcgkaaGreat.V
open Go
set_option linter.unusedVariables false
set_option linter.unusedSimpArgs false
/-- The elements that count from a number up to another one. -/
def Chain {α : Type} (P : Int → α → Int → Prop) : Int → List α → Int → Prop
  | n, [], n' => n = n'
  | n, x :: l, n' => ∃ n1, P n x n1 ∧ Chain P n1 l n'
theorem mark_ch {α : Type} {z : α} {B : Int} (hB : 0 ≤ B) {small : α → Prop} {P : Int → α → Int → Prop} {L : Nat → Int → Int → List α → Option (MkR (List α))} {M : Int}
    (hend : ∀ (l : List α) (n : Int) k, L (k + 1) n (l.length : Int) l = some (mkr n l))
    (hstep : ∀ (l : List α) (i : Nat) (n : Int), i < l.length → l.length ≤ 1048576 → small (l.getD i z) → 0 ≤ n → n + B ≤ M → ∃ n' x, n ≤ n' ∧ n' ≤ n + B ∧ P n x n' ∧ ∀ r, Ev (fun k => L k n' ((i + 1 : Nat) : Int) (l.set i x)) r → Ev (fun k => L k n (i : Int) l) r) :
    ∀ (d i : Nat) (l : List α) (n : Int), i + d = l.length → l.length ≤ 1048576 → (∀ j x, i ≤ j → l[j]? = some x → small x) → 0 ≤ n → n + (d : Int) * B ≤ M → ∃ n' m, Ev (fun k => L k n (i : Int) l) (mkr n' (l.take i ++ m)) ∧ Chain P n m n' ∧ n ≤ n' ∧ n' ≤ n + (d : Int) * B ∧ m.length = d := by
  intro d
  induction d with
  | zero =>
    intro i l n hi hl hs h0 hM
    obtain rfl : i = l.length := by omega
    exact ⟨n, [], (Ev.step (g' := fun _ => some (mkr n l)) (Ev.cst rfl) (hend l n)).rw (by rw [List.take_length, List.append_nil]), rfl, Int.le_refl _, by omega, rfl⟩
  | succ d ih =>
    intro i l n hi hl hs h0 hM
    have hlt : i < l.length := by omega
    have e : ((d + 1 : Nat) : Int) * B = (d : Int) * B + B := by rw [Int.natCast_add, Int.add_mul]; simp
    have hd : 0 ≤ (d : Int) * B := Int.mul_nonneg (by omega) hB
    rw [e] at hM ⊢
    obtain ⟨n1, x1, a1, a2, a3, a5⟩ := hstep l i n hlt hl (hs i _ (Nat.le_refl _) (by rw [getD_at _ _ _ hlt]; exact List.getElem?_eq_getElem hlt)) h0 (by omega)
    obtain ⟨n2, m2, b1, b2, b3, b4, b5⟩ := ih (i + 1) (l.set i x1) n1 (by rw [List.length_set]; omega) (by rw [List.length_set]; exact hl) (fun j x hj hx => hs j x (by omega) (by rw [List.getElem?_set_ne (by omega)] at hx; exact hx)) (by omega) (by omega)
    refine ⟨n2, x1 :: m2, (a5 _ b1).rw ?_, ⟨n1, a3, b2⟩, by omega, by omega, by rw [List.length_cons, b5]⟩
    have e2 : (l.set i x1).take (i + 1) = l.take i ++ [x1] := by
      rw [List.take_succ_eq_append_getElem (by rw [List.length_set]; exact hlt), List.getElem_set_self, List.take_set_of_le (Nat.le_refl i)]
    show mkr n2 ((l.set i x1).take (i + 1) ++ m2) = _
    rw [e2, List.append_assoc]; rfl
theorem mark_all2 {α : Type} {z : α} {B : Int} (hB : 0 ≤ B) {small : α → Prop} {P : Int → α → Int → Prop} {L : Nat → Int → Int → List α → Option (MkR (List α))} {M : Int}
    (hend : ∀ (l : List α) (n : Int) k, L (k + 1) n (l.length : Int) l = some (mkr n l))
    (hstep : ∀ (l : List α) (i : Nat) (n : Int), i < l.length → l.length ≤ 1048576 → small (l.getD i z) → 0 ≤ n → n + B ≤ M → ∃ n' x, n ≤ n' ∧ n' ≤ n + B ∧ P n x n' ∧ ∀ r, Ev (fun k => L k n' ((i + 1 : Nat) : Int) (l.set i x)) r → Ev (fun k => L k n (i : Int) l) r)
    (l : List α) (n : Int) (hl : l.length ≤ 1048576) (hs : ∀ x ∈ l, small x) (h0 : 0 ≤ n) (hM : n + 1048576 * B ≤ M) : ∃ n' m, Ev (fun k => L k n 0 l) (mkr n' m) ∧ Chain P n m n' ∧ n ≤ n' ∧ n' ≤ n + 1048576 * B ∧ m.length ≤ 1048576 := by
  have hle : (l.length : Int) * B ≤ 1048576 * B := Int.mul_le_mul_of_nonneg_right (by omega) hB
  obtain ⟨n', m, a, b, c, d, e⟩ := mark_ch (z := z) hB (small := small) (P := P) hend hstep l.length 0 l n (by omega) hl (fun j x _ hx => hs x (List.mem_of_getElem? hx)) h0 (by omega)
  exact ⟨n', m, a, b, c, by omega, by omega⟩
theorem held_ch {α : Type} {z : α} {P : Int → α → Int → Prop} {H : Nat → List α → Int → Int → Option IR}
    (hend : ∀ (l : List α) (n : Int) k, H (k + 1) l n (l.length : Int) = some (one n))
    (hstep : ∀ (l : List α) (i : Nat) (n n' : Int), i < l.length → l.length ≤ 1048576 → P n (l.getD i z) n' → ∀ r, Ev (fun k => H k l n' ((i + 1 : Nat) : Int)) r → Ev (fun k => H k l n (i : Int)) r) :
    ∀ (d i : Nat) (l : List α) (n n' : Int), i + d = l.length → l.length ≤ 1048576 → Chain P n (l.drop i) n' → Ev (fun k => H k l n (i : Int)) (one n') := by
  intro d
  induction d with
  | zero =>
    intro i l n n' hi hl hc
    obtain rfl : i = l.length := by omega
    rw [List.drop_length] at hc
    obtain rfl : n = n' := hc
    exact Ev.step (g' := fun _ => some (one n)) (Ev.cst rfl) (hend l n)
  | succ d ih =>
    intro i l n n' hi hl hc
    have hlt : i < l.length := by omega
    rw [List.drop_eq_getElem_cons hlt] at hc
    obtain ⟨n1, p, c⟩ := hc
    exact hstep l i n n1 hlt hl (by rw [getD_at _ _ _ hlt]; exact p) _ (ih (i + 1) l n1 n' (by omega) hl c)
theorem held_all {α : Type} {z : α} {P : Int → α → Int → Prop} {H : Nat → List α → Int → Int → Option IR}
    (hend : ∀ (l : List α) (n : Int) k, H (k + 1) l n (l.length : Int) = some (one n))
    (hstep : ∀ (l : List α) (i : Nat) (n n' : Int), i < l.length → l.length ≤ 1048576 → P n (l.getD i z) n' → ∀ r, Ev (fun k => H k l n' ((i + 1 : Nat) : Int)) r → Ev (fun k => H k l n (i : Int)) r)
    (l : List α) (n n' : Int) (hl : l.length ≤ 1048576) (hc : Chain P n l n') : Ev (fun k => H k l n 0) (one n') := held_ch hend hstep l.length 0 l n n' (by omega) hl hc
theorem Ev.sk {R : Type} {n m : Int} {o : Option R} {g : Nat → Option R} {r : R} (h : n = m) (e : Ev g r) : Ev (fun k => bif !decide (n = m) then o else g k) r := Ev.neg (by rw [dpos h]; rfl) e
def MP (n : Int) (x : tPhiD) (n' : Int) : Prop := ∃ d : Nat, d ≤ 1048576 ∧ 0 ≤ n ∧ n' = n + 1 + (d : Int) ∧ n' ≤ 9000000000000000000 ∧ x.1 = n ∧ x.2.1 = upFrom (n + 1) d
def MI (n : Int) (x : tInstD) (n' : Int) : Prop := ∃ d : Nat, d ≤ 1048576 ∧ 0 ≤ n ∧ n' = n + 1 + 1 + 1 + 1 + 1 + 1 + (d : Int) ∧ n' ≤ 9000000000000000000 ∧ x.1 = n ∧ x.2.1 = n + 1 ∧ x.2.2.1 = n + 1 + 1 ∧ x.2.2.2.1 = n + 1 + 1 + 1 ∧ x.2.2.2.2.1 = n + 1 + 1 + 1 + 1 ∧ x.2.2.2.2.2.1 = n + 1 + 1 + 1 + 1 + 1 ∧ x.2.2.2.2.2.2.1 = upFrom (n + 1 + 1 + 1 + 1 + 1 + 1) d
def MB (n : Int) (x : tBlockD) (n' : Int) : Prop := ∃ n1 n2, x.1.length ≤ 1048576 ∧ x.2.1.length ≤ 1048576 ∧ Chain MP n x.1 n1 ∧ Chain MI n1 x.2.1 n2 ∧ 0 ≤ n1 ∧ 0 ≤ n2 ∧ n' = n2 + 1 + 1 + 1 + 1 ∧ n' ≤ 9000000000000000000 ∧ x.2.2.1 = n2 ∧ x.2.2.2.1 = n2 + 1 ∧ x.2.2.2.2.1 = n2 + 1 + 1 ∧ x.2.2.2.2.2.1 = n2 + 1 + 1 + 1
theorem markPhis2 (l : List tPhiD) (hs : Small (.list tPhi) l) (n : Int) (h0 : 0 ≤ n) (hM : n ≤ 4611686018427387904) : ∃ n' m, Ev (fun k => laws_markPhiS.f k n l) (mkr n' m) ∧ Chain MP n m n' ∧ n ≤ n' ∧ n' ≤ n + 1048576 * 1048577 ∧ m.length ≤ 1048576 := by
  refine mark_all2 (z := tPhiZ) (B := 1048577) (by omega) (small := Small tPhi) (L := laws_markPhiS.l0) (M := 4611686018427387904 + 1048576 * 1048577) (fun l n k => ?_) (fun l i n hi hl hx h0 hM => ?_) l n hs.1 hs.2 h0 (by omega)
  · show laws_markPhiS.l0_ k (laws_markPhiS.l0 k) n _ l = _
    unfold laws_markPhiS.l0_
    rw [head_end]; rfl
  · have hlen : (l.getD i tPhiZ).2.1.length ≤ 1048576 := hx.2.1.1
    refine ⟨n + 1 + ((l.getD i tPhiZ).2.1.length : Int), (n, upFrom (n + 1) (l.getD i tPhiZ).2.1.length, (l.getD i tPhiZ).2.2), by omega, by omega, ⟨_, hlen, h0, rfl, by omega, rfl, rfl⟩, fun r hr => Ev.sc ?_⟩
    show Ev (fun k => laws_markPhiS.l0_ k (laws_markPhiS.l0 k) n _ l) _
    unfold laws_markPhiS.l0_
    simp only [updAt_length, head_in hi, head_0, Bool.and_self, cond_true, Int.toNat_natCast, wrap_nat (show i < 9223372036854775807 by omega), wrap_id (x := n + 1) (by omega) (by omega), updAt_twice hi, updAt_at _ _ _ _ hi]
    exact Ev.bind (markInts _ (n + 1) hlen (by omega) (by omega)) hr
theorem markInsts2 (l : List tInstD) (hs : Small (.list tInst) l) (n : Int) (h0 : 0 ≤ n) (hM : n ≤ 4611686018427387904) : ∃ n' m, Ev (fun k => laws_markInstS.f k n l) (mkr n' m) ∧ Chain MI n m n' ∧ n ≤ n' ∧ n' ≤ n + 1048576 * 1048582 ∧ m.length ≤ 1048576 := by
  refine mark_all2 (z := tInstZ) (B := 1048582) (by omega) (small := Small tInst) (L := laws_markInstS.l0) (M := 4611686018427387904 + 1048576 * 1048582) (fun l n k => ?_) (fun l i n hi hl hx h0 hM => ?_) l n hs.1 hs.2 h0 (by omega)
  · show laws_markInstS.l0_ k (laws_markInstS.l0 k) n _ l = _
    unfold laws_markInstS.l0_
    rw [head_end]; rfl
  · have hlen : (l.getD i tInstZ).2.2.2.2.2.2.1.length ≤ 1048576 := hx.2.2.2.2.2.2.1.1
    refine ⟨n + 1 + 1 + 1 + 1 + 1 + 1 + ((l.getD i tInstZ).2.2.2.2.2.2.1.length : Int), (n, n + 1, n + 1 + 1, n + 1 + 1 + 1, n + 1 + 1 + 1 + 1, n + 1 + 1 + 1 + 1 + 1, upFrom (n + 1 + 1 + 1 + 1 + 1 + 1) (l.getD i tInstZ).2.2.2.2.2.2.1.length, (l.getD i tInstZ).2.2.2.2.2.2.2), by omega, by omega, ⟨_, hlen, h0, rfl, by omega, rfl, rfl, rfl, rfl, rfl, rfl, rfl⟩, fun r hr => Ev.sc ?_⟩
    show Ev (fun k => laws_markInstS.l0_ k (laws_markInstS.l0 k) n _ l) _
    unfold laws_markInstS.l0_
    simp only [updAt_length, head_in hi, head_0, Bool.and_self, cond_true, Int.toNat_natCast, wrap_nat (show i < 9223372036854775807 by omega), wrap_id (x := n + 1) (by omega) (by omega), wrap_id (x := n + 1 + 1) (by omega) (by omega), wrap_id (x := n + 1 + 1 + 1) (by omega) (by omega), wrap_id (x := n + 1 + 1 + 1 + 1) (by omega) (by omega), wrap_id (x := n + 1 + 1 + 1 + 1 + 1) (by omega) (by omega), wrap_id (x := n + 1 + 1 + 1 + 1 + 1 + 1) (by omega) (by omega), updAt_twice hi, updAt_at _ _ _ _ hi]
    exact Ev.bind (markInts _ (n + 1 + 1 + 1 + 1 + 1 + 1) hlen (by omega) (by omega)) hr
theorem markBlocks2 (l : List tBlockD) (hs : Small (.list tBlock) l) (n : Int) (h0 : 0 ≤ n) (hM : n ≤ 1048577) : ∃ n' m, Ev (fun k => laws_markBlockS.f k n l) (mkr n' m) ∧ Chain MB n m n' ∧ n ≤ n' ∧ n' ≤ n + 1048576 * (1048576 * 1048577 + 1048576 * 1048582 + 4) ∧ m.length ≤ 1048576 := by
  refine mark_all2 (z := tBlockZ) (B := 1048576 * 1048577 + 1048576 * 1048582 + 4) (by omega) (small := Small tBlock) (L := laws_markBlockS.l0) (M := 4611686018427387904) (fun l n k => ?_) (fun l i n hi hl hx h0 hM => ?_) l n hs.1 hs.2 h0 (by omega)
  · show laws_markBlockS.l0_ k (laws_markBlockS.l0 k) n _ l = _
    unfold laws_markBlockS.l0_
    rw [head_end]; rfl
  · obtain ⟨n1, p1, e1, q1, a1, b1, c1⟩ := markPhis2 (l.getD i tBlockZ).1 hx.1 n h0 (by omega)
    obtain ⟨n2, p2, e2, q2, a2, b2, c2⟩ := markInsts2 (l.getD i tBlockZ).2.1 hx.2.1 n1 (by omega) (by omega)
    refine ⟨n2 + 1 + 1 + 1 + 1, (p1, p2, n2, n2 + 1, n2 + 1 + 1, n2 + 1 + 1 + 1, (l.getD i tBlockZ).2.2.2.2.2.2), by omega, by omega, ⟨n1, n2, c1, c2, q1, q2, by omega, by omega, rfl, by omega, rfl, rfl, rfl, rfl⟩, fun r hr => Ev.sc ?_⟩
    show Ev (fun k => laws_markBlockS.l0_ k (laws_markBlockS.l0 k) n _ l) _
    unfold laws_markBlockS.l0_
    simp only [updAt_length, head_in hi, head_0, Bool.and_self, cond_true, Int.toNat_natCast, wrap_nat (show i < 9223372036854775807 by omega), updAt_twice hi, updAt_at _ _ _ _ hi]
    refine Ev.bind e1 (Ev.bind e2 ?_)
    simp only [mkr, wrap_id (x := n2 + 1) (by omega) (by omega), wrap_id (x := n2 + 1 + 1) (by omega) (by omega), wrap_id (x := n2 + 1 + 1 + 1) (by omega) (by omega), wrap_id (x := n2 + 1 + 1 + 1 + 1) (by omega) (by omega)]
    exact hr
theorem heldPhis (l : List tPhiD) (n n' : Int) (hl : l.length ≤ 1048576) (hc : Chain MP n l n') : Ev (fun k => laws_heldPhiS.f k l n) (one n') := by
  refine held_all (z := tPhiZ) (P := MP) (H := laws_heldPhiS.l0) (fun l n k => ?_) (fun l i n n1 hi hl hp r hr => Ev.sc ?_) l n n' hl hc
  · show laws_heldPhiS.l0_ k (laws_heldPhiS.l0 k) l n _ = _
    unfold laws_heldPhiS.l0_
    rw [head_end]; rfl
  · obtain ⟨d, hd, h0, rfl, hM, e1, e2⟩ := hp
    show Ev (fun k => laws_heldPhiS.l0_ k (laws_heldPhiS.l0 k) l n _) _
    unfold laws_heldPhiS.l0_
    simp only [head_in hi, head_0, Bool.and_self, cond_true, Int.toNat_natCast, wrap_nat (show i < 9223372036854775807 by omega), wrap_id (x := n + 1) (by omega) (by omega), e2]
    exact Ev.sk e1 (Ev.bind (heldInts (n + 1) d hd (by omega) (by omega)) (Ev.dn (show ¬ n + 1 + (d : Int) < 0 by omega) hr))
theorem heldInsts (l : List tInstD) (n n' : Int) (hl : l.length ≤ 1048576) (hc : Chain MI n l n') : Ev (fun k => laws_heldInstS.f k l n) (one n') := by
  refine held_all (z := tInstZ) (P := MI) (H := laws_heldInstS.l0) (fun l n k => ?_) (fun l i n n1 hi hl hp r hr => Ev.sc ?_) l n n' hl hc
  · show laws_heldInstS.l0_ k (laws_heldInstS.l0 k) l n _ = _
    unfold laws_heldInstS.l0_
    rw [head_end]; rfl
  · obtain ⟨d, hd, h0, rfl, hM, e1, e2, e3, e4, e5, e6, e7⟩ := hp
    show Ev (fun k => laws_heldInstS.l0_ k (laws_heldInstS.l0 k) l n _) _
    unfold laws_heldInstS.l0_
    simp only [head_in hi, head_0, Bool.and_self, cond_true, Int.toNat_natCast, wrap_nat (show i < 9223372036854775807 by omega), wrap_id (x := n + 1) (by omega) (by omega), wrap_id (x := n + 1 + 1) (by omega) (by omega), wrap_id (x := n + 1 + 1 + 1) (by omega) (by omega), wrap_id (x := n + 1 + 1 + 1 + 1) (by omega) (by omega), wrap_id (x := n + 1 + 1 + 1 + 1 + 1) (by omega) (by omega), wrap_id (x := n + 1 + 1 + 1 + 1 + 1 + 1) (by omega) (by omega), e7]
    exact Ev.sk e1 (Ev.sk e2 (Ev.sk e3 (Ev.sk e4 (Ev.sk e5 (Ev.sk e6 (Ev.bind (heldInts (n + 1 + 1 + 1 + 1 + 1 + 1) d hd (by omega) (by omega)) (Ev.dn (show ¬ n + 1 + 1 + 1 + 1 + 1 + 1 + (d : Int) < 0 by omega) hr)))))))
theorem heldBlocks (l : List tBlockD) (n n' : Int) (hl : l.length ≤ 1048576) (hc : Chain MB n l n') : Ev (fun k => laws_heldBlockS.f k l n) (one n') := by
  refine held_all (z := tBlockZ) (P := MB) (H := laws_heldBlockS.l0) (fun l n k => ?_) (fun l i n n1 hi hl hp r hr => Ev.sc ?_) l n n' hl hc
  · show laws_heldBlockS.l0_ k (laws_heldBlockS.l0 k) l n _ = _
    unfold laws_heldBlockS.l0_
    rw [head_end]; rfl
  · obtain ⟨m1, m2, u1, u2, c1, c2, p1, p2, rfl, hM, e1, e2, e3, e4⟩ := hp
    show Ev (fun k => laws_heldBlockS.l0_ k (laws_heldBlockS.l0 k) l n _) _
    unfold laws_heldBlockS.l0_
    simp only [head_in hi, head_0, Bool.and_self, cond_true, Int.toNat_natCast, wrap_nat (show i < 9223372036854775807 by omega)]
    refine Ev.bind (heldPhis _ n m1 u1 c1) (Ev.dn (show ¬ m1 < 0 by omega) (Ev.bind (heldInsts _ m1 m2 u2 c2) (Ev.dn (show ¬ m2 < 0 by omega) ?_)))
    simp only [wrap_id (x := m2 + 1) (by omega) (by omega), wrap_id (x := m2 + 1 + 1) (by omega) (by omega), wrap_id (x := m2 + 1 + 1 + 1) (by omega) (by omega), wrap_id (x := m2 + 1 + 1 + 1 + 1) (by omega) (by omega)]
    exact Ev.sk e1 (Ev.sk e2 (Ev.sk e3 (Ev.sk e4 hr)))
/-- What is laid over a function is read back. -/
theorem markHeld (w : Int) {p : List Int} (hp : Small (.list (.int .i64)) p) {b : List tBlockD} (hb : Small (.list tBlock) b) : ∃ n' p' b', Ev (fun k => laws_markFunc.f k w 1 p b) (((n', ()), ()), (p', b', ())) ∧ 0 ≤ n' ∧ n' ≤ 4611686018427387904 ∧ Ev (fun k => laws_heldFunc.f k (p', w, b', ()) 1) (one n') := by
  have hp1 : p.length ≤ 1048576 := hp.1
  obtain ⟨n2, m, e2, q2, a2, b2, c2⟩ := markBlocks2 b hb (1 + (p.length : Int)) (by omega) (by omega)
  refine ⟨n2, _, _, Ev.bind (markInts p 1 hp1 (by omega) (by omega)) (Ev.bind e2 (Ev.cst rfl)), by omega, by omega, ?_⟩
  exact Ev.bind (heldInts 1 p.length hp1 (by omega) (by omega)) (Ev.dn (show ¬ (1 : Int) + (p.length : Int) < 0 by omega) (Ev.bind (heldBlocks m _ n2 c2 q2) (Ev.dn (show ¬ n2 < 0 by omega) (Ev.cst rfl))))
end Go.Proofs.YtkfehogikjcgkaaGreat.V
namespace Go.Proofs.YtkfehogikjcgkaaGreat.V
open Go
set_option linter.unusedVariables false
set_option linter.unusedSimpArgs false
def inB (lo hi x : Int) : Bool := decide (lo ≤ x) && decide (x ≤ hi)
def wOk (w : Int) : Bool := decide (w = 1) || decide (w = 8) || decide (w = 16) || decide (w = 32)
def opsB (i : tInstD) : List Int :=
  bif inB 1 17 i.1 then [i.2.2.1, i.2.2.2.1] else bif decide (i.1 = 24) then [i.2.2.1, i.2.2.2.1] else bif inB 18 20 i.1 then [i.2.2.1] else bif decide (i.1 = 23) then [i.2.2.1] else bif decide (i.1 = 25) then [i.2.2.1] else bif decide (i.1 = 27) then [i.2.2.1] else
  bif decide (i.1 = 22) then [i.2.2.1, i.2.2.2.1, i.2.2.2.2.1] else bif decide (i.1 = 26) then i.2.2.2.2.2.2.1 else []
theorem specIn (k : Nat) (a lo hi : Int) : spec_l1In.f k a lo hi = some (one (inB lo hi a)) := by
  unfold spec_l1In.f inB
  cases decide (lo ≤ a) <;> rfl
theorem implIn (k : Nat) (a lo hi : Int) : impl_within.f k a lo hi = some (one (inB lo hi a)) := by
  unfold impl_within.f inB
  cases decide (lo ≤ a) <;> rfl
theorem specW (k : Nat) (a : Int) : spec_WidthOk.f k a = some (one (wOk a)) := by
  unfold spec_WidthOk.f wOk
  cases decide (a = 1) <;> cases decide (a = 8) <;> cases decide (a = 16) <;> rfl
theorem implW (k : Nat) (a : Int) : impl_WidthOk.f k a = some (one (wOk a)) := by
  unfold impl_WidthOk.f wOk
  cases decide (a = 1) <;> cases decide (a = 8) <;> cases decide (a = 16) <;> rfl
theorem specCopy (k : Nat) {l : List Int} (h : l.length ≤ 1048576) : spec_l1Copy.f k l = some (rowR l) := by
  unfold spec_l1Copy.f
  rw [dpos (by simp; omega)]; rfl
theorem implClone (k : Nat) {l : List Int} (h : l.length ≤ 1048576) : slices_Clone_int64_int64.f k l = some (rowR l) := by
  unfold slices_Clone_int64_int64.f cloneF
  rw [dpos (by omega)]; rfl
theorem specOps (k : Nat) {i : tInstD} (h : i.2.2.2.2.2.2.1.length ≤ 1048576) : spec_l2Operands.f k i = some (rowR (opsB i)) := by
  unfold spec_l2Operands.f opsB
  simp only [specIn, specCopy k h, Option.bind_some]
  cases inB 1 17 i.1
  · cases decide (i.1 = 24)
    · cases inB 18 20 i.1
      · cases decide (i.1 = 23)
        · cases decide (i.1 = 25)
          · cases decide (i.1 = 27)
            · cases decide (i.1 = 22)
              · cases decide (i.1 = 26) <;> rfl
              · rfl
            · rfl
          · rfl
        · rfl
      · rfl
    · rfl
  · rfl
theorem implBin (k : Nat) (a : Int) : impl_isBinary.f k a = some (one (inB 1 17 a)) := by
  unfold impl_isBinary.f
  rw [implIn]; rfl
theorem implCast (k : Nat) (a : Int) : impl_isCast.f k a = some (one (inB 18 20 a)) := by
  unfold impl_isCast.f
  rw [implIn]; rfl
theorem implOps (k : Nat) {i : tInstD} (h : i.2.2.2.2.2.2.1.length ≤ 1048576) : impl_OperandsOf.f k i = some (rowR (opsB i)) := by
  unfold impl_OperandsOf.f opsB
  simp only [implBin, implCast, implClone k h, Option.bind_some]
  cases inB 1 17 i.1
  · cases decide (i.1 = 24)
    · cases inB 18 20 i.1
      · cases decide (i.1 = 23)
        · cases decide (i.1 = 25)
          · cases decide (i.1 = 27)
            · cases decide (i.1 = 22)
              · cases decide (i.1 = 26) <;> rfl
              · rfl
            · rfl
          · rfl
        · rfl
      · rfl
    · rfl
  · rfl
/-! ### instructions -/
def topOf (w : Int) : Int := bif decide (w = 1) then 1 else bif decide (w = 8) then 255 else bif decide (w = 16) then 65535 else 4294967295
def valB (w x : Int) : Bool := wOk w && inB 0 (topOf w) x
theorem wOk_cases {w : Int} (h : wOk w = true) : w = 1 ∨ w = 8 ∨ w = 16 ∨ w = 32 := by
  simp only [wOk, Bool.or_eq_true, decide_eq_true_eq] at h
  omega
theorem specVal (k : Nat) (w x : Int) : spec_l1Value.f k w x = some (one (valB w x)) := by
  unfold spec_l1Value.f valB
  simp only [specW, Option.bind_some]
  cases h : wOk w with
  | false => rfl
  | true => rcases wOk_cases h with rfl | rfl | rfl | rfl <;> (unfold spec_l1Top.f; simp only [specIn]; rfl)
theorem implVal (k : Nat) (w x : Int) : impl_isValue.f k w x = some (one (valB w x)) := by
  unfold impl_isValue.f valB
  simp only [implW, Option.bind_some]
  cases h : wOk w with
  | false => rfl
  | true => rcases wOk_cases h with rfl | rfl | rfl | rfl <;> (unfold impl_mask.f; simp only [implIn]; rfl)
def widB (i : tInstD) : Bool := bif decide (i.1 = 24) || decide (i.1 = 25) then decide (i.2.1 = 0) else bif decide (i.1 = 23) then decide (i.2.1 = 8) else wOk i.2.1
def immB (i : tInstD) (funcs : Int) : Bool := bif decide (i.1 = 21) then valB i.2.1 i.2.2.2.2.2.1 else bif decide (i.1 = 26) then inB 0 (funcs - 1) i.2.2.2.2.2.1 else decide (i.2.2.2.2.2.1 = 0)
def named (i : tInstD) : Nat := bif decide (i.1 = 26) then 0 else (opsB i).length
def zerosB (i : tInstD) : Bool := ([i.2.2.1, i.2.2.2.1, i.2.2.2.2.1].drop (named i)).all fun n => decide (n = 0)
def instB (count funcs : Int) (i : tInstD) : Bool :=
  inB 1 27 i.1 && decide (i.2.2.2.2.2.2.1.length ≤ 4) && (decide (i.2.2.2.2.2.2.1.length = 0) || decide (i.1 = 26)) && (opsB i).all (inB 0 (count - 1)) && zerosB i && widB i && immB i funcs
theorem implWid (k : Nat) (i : tInstD) : impl_isWidth.f k i = some (one (widB i)) := by
  unfold impl_isWidth.f widB
  simp only [implW, Option.bind_some]
  by_cases h : i.1 = 24
  · simp [h]
  · by_cases h2 : i.1 = 25
    · simp [h2]
    · simp only [dneg h, dneg h2, cond_false, Bool.or_self]
      cases decide (i.1 = 23) <;> rfl
theorem implImm (k : Nat) (i : tInstD) {funcs : Int} (h0 : 0 ≤ funcs) (h1 : funcs ≤ 9223372036854775807) : impl_isImm.f k i funcs = some (one (immB i funcs)) := by
  unfold impl_isImm.f immB
  simp only [implVal, implIn, Option.bind_some, wrap_id (show -9223372036854775808 ≤ funcs - 1 by omega) (show funcs - 1 ≤ 9223372036854775807 by omega)]
  cases decide (i.1 = 21) <;> cases decide (i.1 = 26) <;> rfl
/-! ### ends -/
def termB (count blocks : Int) (t : tTermD) : Bool :=
  bif decide (t.1 = 1) then inB 0 (count - 1) t.2.1 && decide (t.2.2.1 = 0) && decide (t.2.2.2.1 = 0) else
  bif decide (t.1 = 2) then decide (t.2.1 = 0) && inB 0 (blocks - 1) t.2.2.1 && decide (t.2.2.2.1 = 0) else
  bif decide (t.1 = 3) then inB 0 (count - 1) t.2.1 && inB 0 (blocks - 1) t.2.2.1 && inB 0 (blocks - 1) t.2.2.2.1 && !decide (t.2.2.1 = t.2.2.2.1) else
  decide (t.1 = 4) && decide (t.2.1 = 0) && decide (t.2.2.1 = 0) && decide (t.2.2.2.1 = 0)
theorem specTerm (k : Nat) (t : tTermD) {count blocks : Int} (h0 : 0 ≤ count) (h1 : count ≤ 9223372036854775807) (h2 : 0 ≤ blocks) (h3 : blocks ≤ 9223372036854775807) : spec_l2Term.f k t count blocks = some (one (termB count blocks t)) := by
  unfold spec_l2Term.f termB
  simp only [specIn, Option.bind_some, wrap_id (show -9223372036854775808 ≤ count - 1 by omega) (show count - 1 ≤ 9223372036854775807 by omega), wrap_id (show -9223372036854775808 ≤ blocks - 1 by omega) (show blocks - 1 ≤ 9223372036854775807 by omega)]
  cases decide (t.1 = 1)
  · cases decide (t.1 = 2)
    · cases decide (t.1 = 3)
      · cases decide (t.1 = 4) <;> cases decide (t.2.1 = 0) <;> cases decide (t.2.2.1 = 0) <;> rfl
      · cases inB 0 (count - 1) t.2.1 <;> cases inB 0 (blocks - 1) t.2.2.1 <;> cases inB 0 (blocks - 1) t.2.2.2.1 <;> rfl
    · cases decide (t.2.1 = 0) <;> cases inB 0 (blocks - 1) t.2.2.1 <;> rfl
  · cases inB 0 (count - 1) t.2.1 <;> cases decide (t.2.2.1 = 0) <;> rfl
theorem implTerm1 (k : Nat) (a : Int) {f : tFuncD} (h : f.2.2.1.length ≤ 1048576) : impl_isTerm_1.f k a f = some (one (inB 0 ((f.2.2.1.length : Int) - 1) a)) := by
  unfold impl_isTerm_1.f
  rw [implIn, wrap_id (by omega) (by omega)]; rfl
theorem implTerm (k : Nat) (t : tTermD) {f : tFuncD} (h : f.2.2.1.length ≤ 1048576) {count : Int} (h0 : 0 ≤ count) (h1 : count ≤ 9223372036854775807) : impl_isTerm.f k f t count = some (one (termB count (f.2.2.1.length : Int) t)) := by
  unfold impl_isTerm.f termB
  simp only [implIn, implTerm1 k _ h, Option.bind_some, wrap_id (show -9223372036854775808 ≤ count - 1 by omega) (show count - 1 ≤ 9223372036854775807 by omega)]
  generalize (f.2.2.1.length : Int) = blocks
  cases decide (t.1 = 1)
  · cases decide (t.1 = 2)
    · cases decide (t.1 = 3)
      · cases decide (t.1 = 4) <;> cases decide (t.2.1 = 0) <;> cases decide (t.2.2.1 = 0) <;> rfl
      · cases inB 0 (count - 1) t.2.1 <;> cases inB 0 (blocks - 1) t.2.2.1 <;> cases inB 0 (blocks - 1) t.2.2.2.1 <;> rfl
    · cases decide (t.2.1 = 0) <;> cases inB 0 (blocks - 1) t.2.2.1 <;> rfl
  · cases inB 0 (count - 1) t.2.1 <;> cases decide (t.2.2.1 = 0) <;> rfl
end Go.Proofs.YtkfehogikjcgkaaGreat.V
namespace Go.Proofs.YtkfehogikjcgkaaGreat.V
open Go
set_option linter.unusedVariables false
set_option linter.unusedSimpArgs false
theorem any_not {α : Type} {p : α → Bool} : ∀ {l : List α}, (l.any fun x => !p x) = !l.all p
  | [] => rfl
  | x :: l => by simp only [List.any_cons, List.all_cons, any_not (l := l), Bool.not_and]
theorem implIn1 {l : List Int} (h : l.length ≤ 1048576) {count : Int} (h0 : 0 ≤ count) (h1 : count ≤ 9223372036854775807) : Ev (fun k => slices_ContainsFunc_int64_int64_3.f k l count) (one (!l.all (inB 0 (count - 1)))) := by
  rw [← any_not]
  exact index_ev (z := 0) (L := fun k b a => slices_IndexFunc_int64_int64_3.l0 k l b a count) (q := fun k x => impl_isInst_1.f k x count) (by omega) (fun k b a => rfl) fun x _ => Ev.all fun k => by
    unfold impl_isInst_1.f
    rw [implIn, wrap_id (by omega) (by omega)]; rfl
theorem implZero {l : List Int} (h : l.length ≤ 1048576) : Ev (fun k => slices_ContainsFunc_int64_int64_4.f k l) (one (!l.all fun n => decide (n = 0))) := by
  rw [← any_not]
  exact index_ev (z := 0) (L := fun k b a => slices_IndexFunc_int64_int64_4.l0 k l b a) (q := fun k x => impl_isInst_2.f k x) (by omega) (fun k b a => rfl) fun x _ => Ev.all fun k => rfl
theorem opsB_len {i : tInstD} (h : i.2.2.2.2.2.2.1.length ≤ 1048576) : (opsB i).length ≤ 1048576 := by
  unfold opsB
  cases inB 1 17 i.1 <;> cases decide (i.1 = 24) <;> cases inB 18 20 i.1 <;> cases decide (i.1 = 23) <;> cases decide (i.1 = 25) <;> cases decide (i.1 = 27) <;> cases decide (i.1 = 22) <;> cases decide (i.1 = 26) <;> simp only [cond_true, cond_false, List.length_cons, List.length_nil] <;> omega
theorem opsB_few {i : tInstD} (h : i.1 ≠ 26) : (opsB i).length ≤ 3 := by
  unfold opsB
  rw [dneg h]
  cases inB 1 17 i.1 <;> cases decide (i.1 = 24) <;> cases inB 18 20 i.1 <;> cases decide (i.1 = 23) <;> cases decide (i.1 = 25) <;> cases decide (i.1 = 27) <;> cases decide (i.1 = 22) <;> simp
theorem ev_and {g : Nat → Option BR} {b c : Bool} (h : Ev g (one c)) : Ev (fun k => bif !b then some (one false) else g k) (one (b && c)) := by
  cases b with
  | true => exact Ev.neg rfl h
  | false => exact Ev.pos rfl (Ev.cst rfl)
theorem ev_and' {g : Nat → Option BR} {b c : Bool} (h : Ev g (one c)) : Ev (fun k => bif b then some (one false) else g k) (one (!b && c)) := by
  cases b with
  | true => exact Ev.pos rfl (Ev.cst rfl)
  | false => exact Ev.neg rfl h
/-- What comes behind the operands, in the program. -/
theorem implTail {i : tInstD} {l : List Int} (hl : l.length ≤ 1048576) {funcs : Int} (h0 : 0 ≤ funcs) (h1 : funcs ≤ 9223372036854775807) : Ev (fun k => Option.bind (slices_ContainsFunc_int64_int64_4.f k l) fun r4 => bif r4.1.1.1 then some (((false, ()), ()), ()) else Option.bind (impl_isWidth.f k i) fun r5 => bif r5.1.1.1 then Option.bind (impl_isImm.f k i funcs) fun r6 => some (((r6.1.1.1, ()), ()), ()) else some (((false, ()), ()), ())) (one ((l.all fun n => decide (n = 0)) && widB i && immB i funcs)) := by
  refine Ev.bind (implZero hl) ?_
  cases l.all fun n => decide (n = 0) with
  | false => exact Ev.cst rfl
  | true =>
    refine Ev.all fun k => ?_
    simp only [implWid, implImm k i h0 h1, Option.bind_some]
    cases widB i <;> cases immB i funcs <;> rfl
theorem implInst {i : tInstD} (hs : i.2.2.2.2.2.2.1.length ≤ 1048576) {count funcs : Int} (h0 : 0 ≤ count) (h1 : count ≤ 9223372036854775807) (h2 : 0 ≤ funcs) (h3 : funcs ≤ 9223372036854775807) : Ev (fun k => impl_isInst.f k i count funcs) (one (instB count funcs i)) := by
  have rest : i.1 = 26 ∨ i.1 ≠ 26 → Ev (fun k => Option.bind (impl_OperandsOf.f k i) fun r2 => Option.bind (slices_ContainsFunc_int64_int64_3.f k r2.2.1 count) fun r3 => bif r3.1.1.1 then some (((false, ()), ()), ()) else
      bif decide (i.1 = 26) then (bif (decide ((0 : Int) ≤ 0)) && (decide ((0 : Int) ≤ ((List.length [i.2.2.1, i.2.2.2.1, i.2.2.2.2.1] : Nat) : Int))) then (Option.bind (slices_ContainsFunc_int64_int64_4.f k [i.2.2.1, i.2.2.2.1, i.2.2.2.2.1]) fun r4 => bif r4.1.1.1 then some (((false, ()), ()), ()) else Option.bind (impl_isWidth.f k i) fun r5 => bif r5.1.1.1 then Option.bind (impl_isImm.f k i funcs) fun r6 => some (((r6.1.1.1, ()), ()), ()) else some (((false, ()), ()), ())) else none)
      else (bif (decide (0 ≤ ((List.length r2.2.1 : Nat) : Int))) && (decide (((List.length r2.2.1 : Nat) : Int) ≤ ((List.length [i.2.2.1, i.2.2.2.1, i.2.2.2.2.1] : Nat) : Int))) then (Option.bind (slices_ContainsFunc_int64_int64_4.f k (List.drop (Int.toNat ((List.length r2.2.1 : Nat) : Int)) [i.2.2.1, i.2.2.2.1, i.2.2.2.2.1])) fun r4 => bif r4.1.1.1 then some (((false, ()), ()), ()) else Option.bind (impl_isWidth.f k i) fun r5 => bif r5.1.1.1 then Option.bind (impl_isImm.f k i funcs) fun r6 => some (((r6.1.1.1, ()), ()), ()) else some (((false, ()), ()), ())) else none))
      (one ((opsB i).all (inB 0 (count - 1)) && (zerosB i && widB i && immB i funcs))) := by
    intro hd
    refine Ev.bind (Ev.all fun k => implOps k hs) (Ev.bind (implIn1 (opsB_len hs) h0 h1) ?_)
    cases (opsB i).all (inB 0 (count - 1)) with
    | false => exact Ev.cst rfl
    | true =>
      rcases hd with hd | hd
      · refine Ev.neg rfl (Ev.pos (dpos hd) (Ev.pos rfl ?_))
        have := implTail (i := i) (l := [i.2.2.1, i.2.2.2.1, i.2.2.2.2.1]) (by simp) h2 h3
        refine this.rw ?_
        unfold zerosB named
        rw [dpos hd]; rfl
      · refine Ev.neg rfl (Ev.neg (dneg hd) (Ev.pos ?_ ?_))
        · have := opsB_few hd
          show (decide (0 ≤ ((opsB i).length : Int)) && decide (((opsB i).length : Int) ≤ 3)) = true
          rw [dpos (by omega), dpos (by omega)]; rfl
        · have := implTail (i := i) (l := List.drop (opsB i).length [i.2.2.1, i.2.2.2.1, i.2.2.2.2.1]) (by simp; omega) h2 h3
          refine this.rw ?_
          unfold zerosB named
          rw [dneg hd]; rfl
  have rest := rest (Decidable.em _)
  unfold impl_isInst.f
  refine Ev.bind (Ev.all fun k => implIn k _ _ _) ?_
  unfold instB
  generalize hz : ((opsB i).all (inB 0 (count - 1)) && (zerosB i && widB i && immB i funcs)) = zz at rest
  have hzz : ∀ b c d : Bool, (b && c && d && (opsB i).all (inB 0 (count - 1)) && zerosB i && widB i && immB i funcs) = (b && c && d && zz) := fun b c d => by rw [← hz]; simp only [Bool.and_assoc]
  rw [hzz]
  cases inB 1 27 i.1 with
  | false => exact Ev.pos rfl (Ev.cst rfl)
  | true =>
    refine Ev.neg rfl ?_
    by_cases h4 : 4 < ((i.2.2.2.2.2.2.1.length : Nat) : Int)
    · refine Ev.pos (dpos h4) (Ev.cst ?_)
      rw [dneg (show ¬ i.2.2.2.2.2.2.1.length ≤ 4 by omega)]; rfl
    · refine Ev.neg (dneg h4) ?_
      rw [dpos (show i.2.2.2.2.2.2.1.length ≤ 4 by omega)]
      by_cases h5 : 0 < ((i.2.2.2.2.2.2.1.length : Nat) : Int)
      · refine Ev.pos (dpos h5) ?_
        rw [dneg (show ¬ i.2.2.2.2.2.2.1.length = 0 by omega)]
        by_cases h6 : i.1 = 26
        · exact Ev.neg (by rw [dpos h6]; rfl) (rest.rw (by rw [dpos h6]; rfl))
        · exact Ev.pos (by rw [dneg h6]; rfl) (Ev.cst (by rw [dneg h6]; rfl))
      · refine Ev.neg (dneg h5) (rest.rw ?_)
        rw [dpos (show i.2.2.2.2.2.2.1.length = 0 by omega)]; rfl
/-! ### the specification's -/
theorem zeros_at {a b c : Int} : ∀ n : Nat, ([a, b, c].drop n).all (fun n => decide (n = 0)) = ((bif decide ((n : Int) < 1) then decide (a = 0) else true) && (bif decide ((n : Int) < 2) then decide (b = 0) else true) && (bif decide ((n : Int) < 3) then decide (c = 0) else true))
  | 0 => by simp [Bool.and_assoc]
  | 1 => by simp
  | 2 => by simp
  | n + 3 => by
    rw [dneg (show ¬ (((n + 3 : Nat) : Int) < 1) by omega), dneg (show ¬ (((n + 3 : Nat) : Int) < 2) by omega), dneg (show ¬ (((n + 3 : Nat) : Int) < 3) by omega)]
    simp
set_option synthInstance.maxHeartbeats 400000 in
set_option synthInstance.maxSize 100000 in
theorem specInst0 {i : tInstD} {ids : List Int} (hl : ids.length ≤ 1048576) {count funcs : Int} (h0 : 0 ≤ count) (h1 : count ≤ 9223372036854775807) (h2 : 0 ≤ funcs) (h3 : funcs ≤ 9223372036854775807) (hn : named i = bif decide (i.1 = 26) then 0 else ids.length) :
    Ev (fun k => spec_l2Inst.l0 k count funcs 0 i ids) (one (ids.all (inB 0 (count - 1)) && (decide (i.2.2.2.2.2.2.1.length ≤ 4) && zerosB i && widB i && immB i funcs))) := by
  refine each_ev (z := 0) (L := fun k a => spec_l2Inst.l0 k count funcs a i ids) (V := fun m => one (m.all (inB 0 (count - 1)) && (decide (i.2.2.2.2.2.2.1.length ≤ 4) && zerosB i && widB i && immB i funcs))) (q := fun k x g => Option.bind (spec_l1In.f k x 0 (IntKind.wrap .i64 (count - 1))) fun r1 => bif !r1.1.1.1 then some (((false, ()), ()), ()) else g k) (by omega) (fun k a => rfl) ?_ ?_
  · refine Ev.all fun k => ?_
    have hz : zerosB i = ((bif decide (((named i : Nat) : Int) < 1) then decide (i.2.2.1 = 0) else true) && (bif decide (((named i : Nat) : Int) < 2) then decide (i.2.2.2.1 = 0) else true) && (bif decide (((named i : Nat) : Int) < 3) then decide (i.2.2.2.2.1 = 0) else true)) := zeros_at _
    rw [hz, hn]
    simp only [specVal, specIn, specW, Option.bind_some, wrap_id (show -9223372036854775808 ≤ funcs - 1 by omega) (show funcs - 1 ≤ 9223372036854775807 by omega), List.all_nil, Bool.true_and]
    have h4 : decide (i.2.2.2.2.2.2.1.length ≤ 4) = !decide (4 < ((List.length i.2.2.2.2.2.2.1 : Nat) : Int)) := by
      by_cases h : 4 < ((List.length i.2.2.2.2.2.2.1 : Nat) : Int)
      · rw [dpos h, dneg (by omega)]; rfl
      · rw [dneg h, dpos (by omega)]; rfl
    rw [h4]
    unfold widB immB
    have fin : ∀ (o24 o25 o26 o21 o23 w0 w8 wk : Bool), decide (i.1 = 24) = o24 → decide (i.1 = 25) = o25 → decide (i.1 = 26) = o26 → decide (i.1 = 21) = o21 → decide (i.1 = 23) = o23 → decide (i.2.1 = 0) = w0 → decide (i.2.1 = 8) = w8 → wOk i.2.1 = wk →
        (o24 = true ∧ o25 = false ∧ o26 = false ∧ o21 = false ∧ o23 = false ∨ o24 = false ∧ o25 = true ∧ o26 = false ∧ o21 = false ∧ o23 = false ∨ o24 = false ∧ o25 = false ∧ o26 = true ∧ o21 = false ∧ o23 = false ∨ o24 = false ∧ o25 = false ∧ o26 = false ∧ o21 = true ∧ o23 = false ∨ o24 = false ∧ o25 = false ∧ o26 = false ∧ o21 = false ∧ o23 = true ∨ o24 = false ∧ o25 = false ∧ o26 = false ∧ o21 = false ∧ o23 = false) ∧
        (w0 = true ∧ w8 = false ∧ wk = false ∨ w0 = false ∧ w8 = true ∧ wk = true ∨ w0 = false ∧ w8 = false) := by
      rintro _ _ _ _ _ _ _ _ rfl rfl rfl rfl rfl rfl rfl rfl
      simp only [decide_eq_true_eq, decide_eq_false_iff_not]
      refine ⟨by omega, ?_⟩
      by_cases h : i.2.1 = 0
      · exact .inl ⟨h, by omega, by rw [h]; rfl⟩
      · by_cases h' : i.2.1 = 8
        · exact .inr (.inl ⟨h, h', by rw [h']; rfl⟩)
        · exact .inr (.inr ⟨h, h'⟩)
    have fin := fin _ _ _ _ _ _ _ _ rfl rfl rfl rfl rfl rfl rfl rfl
    clear hz h4 hn
    generalize decide (i.1 = 24) = o24 at fin ⊢
    generalize decide (i.1 = 25) = o25 at fin ⊢
    generalize decide (i.1 = 26) = o26 at fin ⊢
    generalize decide (i.1 = 21) = o21 at fin ⊢
    generalize decide (i.1 = 23) = o23 at fin ⊢
    generalize decide (i.2.1 = 0) = w0 at fin ⊢
    generalize decide (i.2.1 = 8) = w8 at fin ⊢
    generalize wOk i.2.1 = wk at fin ⊢
    have z1 : decide (((0 : Nat) : Int) < 1) = true := rfl
    have z2 : decide (((0 : Nat) : Int) < 2) = true := rfl
    have z3 : decide (((0 : Nat) : Int) < 3) = true := rfl
    have y1 : decide ((0 : Int) < 1) = true := rfl
    have y2 : decide ((0 : Int) < 2) = true := rfl
    have y3 : decide ((0 : Int) < 3) = true := rfl
    obtain ⟨f1, f2⟩ := fin
    rcases f1 with ⟨rfl, rfl, rfl, rfl, rfl⟩ | ⟨rfl, rfl, rfl, rfl, rfl⟩ | ⟨rfl, rfl, rfl, rfl, rfl⟩ | ⟨rfl, rfl, rfl, rfl, rfl⟩ | ⟨rfl, rfl, rfl, rfl, rfl⟩ | ⟨rfl, rfl, rfl, rfl, rfl⟩ <;> rcases f2 with ⟨rfl, rfl, rfl⟩ | ⟨rfl, rfl, rfl⟩ | ⟨rfl, rfl⟩ <;>
      simp only [cond_true, cond_false, z1, z2, z3, y1, y2, y3, beq_self_eq_true, Bool.not_true, Bool.not_false, Bool.or_true, Bool.or_false, Bool.and_false, Bool.false_and, Bool.true_and, Bool.and_true, show (true == false) = false from rfl, show (false == true) = false from rfl, Int.reduceLT, decide_true, decide_false] <;>
      generalize decide (4 < ((List.length i.2.2.2.2.2.2.1 : Nat) : Int)) = l4 <;>
      generalize decide (((ids.length : Nat) : Int) < 1) = n1 <;> generalize decide (((ids.length : Nat) : Int) < 2) = n2 <;> generalize decide (((ids.length : Nat) : Int) < 3) = n3 <;>
      generalize decide (i.2.2.1 = 0) = a <;> generalize decide (i.2.2.2.1 = 0) = b <;> generalize decide (i.2.2.2.2.1 = 0) = c <;> generalize decide (i.2.2.2.2.2.1 = 0) = m <;>
      generalize valB i.2.1 i.2.2.2.2.2.1 = va <;> generalize inB 0 (funcs - 1) i.2.2.2.2.2.1 = vb <;> revert l4 n1 n2 n3 a b c m va vb <;> (try revert wk) <;> decide +kernel
  · intro x m g hx hg
    refine Ev.bind (Ev.all fun k => specIn k _ _ _) ?_
    rw [wrap_id (by omega) (by omega), List.all_cons, Bool.and_assoc]
    exact ev_and hg
end Go.Proofs.YtkfehogikjcgkaaGreat.V
namespace Go.Proofs.YtkfehogikjcgkaaGreat.V
open Go
set_option linter.unusedVariables false
set_option linter.unusedSimpArgs false
theorem specInst {i : tInstD} (hs : i.2.2.2.2.2.2.1.length ≤ 1048576) {count funcs : Int} (h0 : 0 ≤ count) (h1 : count ≤ 9223372036854775807) (h2 : 0 ≤ funcs) (h3 : funcs ≤ 9223372036854775807) : Ev (fun k => spec_l2Inst.f k i count funcs) (one (instB count funcs i)) := by
  have hn : named i = bif decide (i.1 = 26) then 0 else (opsB i).length := rfl
  have l0 := specInst0 (opsB_len hs) h0 h1 h2 h3 hn
  unfold spec_l2Inst.f
  refine Ev.bind (Ev.all fun k => specIn k _ _ _) ?_
  unfold instB
  generalize hz : ((opsB i).all (inB 0 (count - 1))) = za at l0 ⊢
  cases inB 1 27 i.1 with
  | false => exact Ev.pos rfl (Ev.cst rfl)
  | true =>
    refine Ev.neg rfl ?_
    have done : ∀ b : Bool, b = true → Ev (fun k => Option.bind (spec_l2Operands.f k i) fun r3 => spec_l2Inst.l0 k count funcs 0 i r3.2.1) (one (true && decide (i.2.2.2.2.2.2.1.length ≤ 4) && b && za && zerosB i && widB i && immB i funcs)) := by
      rintro _ rfl
      refine (Ev.bind (f := fun k r3 => spec_l2Inst.l0 k count funcs 0 i r3.2.1) (Ev.all fun k => specOps k hs) l0).rw ?_
      generalize decide (i.2.2.2.2.2.2.1.length ≤ 4) = z4
      generalize zerosB i = z5
      generalize widB i = z6
      generalize immB i funcs = z7
      clear l0 hz
      revert za z4 z5 z6 z7
      decide
    by_cases h6 : i.1 = 26
    · exact Ev.neg (by rw [dpos h6]; rfl) (done _ (by rw [dpos h6, Bool.or_true]))
    · refine Ev.pos (by rw [dneg h6]; rfl) ?_
      by_cases h5 : 0 < ((i.2.2.2.2.2.2.1.length : Nat) : Int)
      · refine Ev.pos (dpos h5) (Ev.cst ?_)
        rw [dneg (show ¬ i.2.2.2.2.2.2.1.length = 0 by omega), dneg h6]
        simp
      · exact Ev.neg (dneg h5) (done _ (by rw [dpos (show i.2.2.2.2.2.2.1.length = 0 by omega), Bool.true_or]))
/-! ### how many ids -/
def sumB {α : Type} (w : α → Int) : List α → Int
  | [] => 0
  | x :: l => w x + sumB w l
theorem sumB_le {α : Type} {w : α → Int} {m : Int} : ∀ {l : List α}, (∀ x ∈ l, 0 ≤ w x ∧ w x ≤ m) → 0 ≤ sumB w l ∧ sumB w l ≤ l.length * m
  | [], _ => by simp [sumB]
  | x :: l, h => by
    obtain ⟨a, b⟩ := sumB_le (l := l) fun y hy => h y (by simp [hy])
    obtain ⟨c, d⟩ := h x (by simp)
    simp only [sumB, List.length_cons]
    have : ((l.length + 1 : Nat) : Int) * m = l.length * m + m := by
      rw [Int.natCast_add, Int.add_mul]; simp
    omega
theorem acc_ev {α : Type} {l : List α} {w : α → Int} {L : Nat → Int → Int → Option IR} (hw : ∀ x ∈ l, 0 ≤ w x ∧ w x ≤ 2097152) (hlen : l.length ≤ 1048576)
    (h1 : ∀ k a (i : Nat) (h : i < l.length), L (k + 1) a (i : Int) = L k (IntKind.wrap .i64 (a + IntKind.wrap .i64 (w l[i]))) ((i + 1 : Nat) : Int)) (h2 : ∀ k a, L (k + 1) a (l.length : Int) = some (one a)) {a : Int} (ha : 0 ≤ a) (ha' : a ≤ 1048576) : Ev (fun k => L k a 0) (one (a + sumB w l)) := by
  have key : ∀ (d i : Nat) (a : Int), i + d = l.length → 0 ≤ a → a ≤ 1048576 + i * 2097152 → Ev (fun k => L k a (i : Int)) (one (a + sumB w (l.drop i))) := by
    intro d
    induction d with
    | zero =>
      intro i a hi h0 h3
      have hi' : i = l.length := by omega
      subst hi'
      rw [List.drop_length]
      exact Ev.step (g' := fun _ => some (one a)) (Ev.cst (by simp [sumB])) fun k => h2 k a
    | succ d ih =>
      intro i a hi h0 h3
      have hi' : i < l.length := by omega
      obtain ⟨w0, w1⟩ := hw l[i] (List.getElem_mem hi')
      have := ih (i + 1) (a + w l[i]) (by omega) (by omega) (by omega)
      refine (Ev.step this fun k => ?_).rw ?_
      · show L (k + 1) a (i : Int) = _
        rw [h1 k a i hi', wrap_id (x := w l[i]) (by omega) (by omega), wrap_id (by omega) (by omega)]
      · rw [List.drop_eq_getElem_cons hi']
        simp only [sumB]
        rw [Int.add_assoc]
  have := key l.length 0 a (by omega) ha (by omega)
  simpa using this
def cntB (f : tFuncD) : Int := (f.1.length : Int) + sumB (fun x : tBlockD => ((x.1.length : Nat) : Int) + ((x.2.1.length : Nat) : Int)) f.2.2.1
theorem blk_small {f : tFuncD} (h : Small tFunc f) : ∀ x ∈ f.2.2.1, x.1.length ≤ 1048576 ∧ x.2.1.length ≤ 1048576 := fun x hx => by
  have := h.2.2.1.2 x hx
  exact ⟨this.1.1, this.2.1.1⟩
theorem cntB_le {f : tFuncD} (h : Small tFunc f) : 0 ≤ cntB f ∧ cntB f ≤ 1048576 + 1048576 * 2097152 := by
  have h1 : f.1.length ≤ 1048576 := h.1.1
  have h2 : f.2.2.1.length ≤ 1048576 := h.2.2.1.1
  have := sumB_le (w := fun x : tBlockD => ((x.1.length : Nat) : Int) + ((x.2.1.length : Nat) : Int)) (m := 2097152) (l := f.2.2.1) fun x hx => by
    have := blk_small h x hx
    omega
  unfold cntB
  omega
theorem specCount {f : tFuncD} (h : Small tFunc f) : Ev (fun k => spec_CountOf.f k f) (one (cntB f)) := by
  have h1 : f.1.length ≤ 1048576 := h.1.1
  exact acc_ev (L := fun k a i => spec_CountOf.l0 k a i f) (l := f.2.2.1) (w := fun x : tBlockD => ((x.1.length : Nat) : Int) + ((x.2.1.length : Nat) : Int)) (fun x hx => by have := blk_small h x hx; omega) h.2.2.1.1 (fun k a i hi => by
      show spec_CountOf.l0_ k (spec_CountOf.l0 k) a i f = _
      unfold spec_CountOf.l0_
      have hlen : f.2.2.1.length ≤ 1048576 := h.2.2.1.1
      simp only [head_in hi, head_0, Bool.and_self, cond_true, get_in hi, wrap_nat (show i < 9223372036854775807 by omega)]) (fun k a => by
      show spec_CountOf.l0_ k (spec_CountOf.l0 k) a _ f = _
      unfold spec_CountOf.l0_
      simp only [head_end, cond_false]) (by omega) (by omega)
theorem implCount {f : tFuncD} (h : Small tFunc f) : Ev (fun k => impl_CountOf.f k f) (one (cntB f)) := by
  have h1 : f.1.length ≤ 1048576 := h.1.1
  exact acc_ev (L := fun k a i => impl_CountOf.l0 k a f.2.2.1 ((List.length f.2.2.1 : Nat) : Int) i) (l := f.2.2.1) (w := fun x : tBlockD => ((x.1.length : Nat) : Int) + ((x.2.1.length : Nat) : Int)) (fun x hx => by have := blk_small h x hx; omega) h.2.2.1.1 (fun k a i hi => by
      show impl_CountOf.l0_ k (impl_CountOf.l0 k) a f.2.2.1 _ i = _
      unfold impl_CountOf.l0_
      have hlen : f.2.2.1.length ≤ 1048576 := h.2.2.1.1
      simp only [head_in hi, head_0, Bool.and_self, cond_true, get_in hi, wrap_nat (show i < 9223372036854775807 by omega)]) (fun k a => by
      show impl_CountOf.l0_ k (impl_CountOf.l0 k) a f.2.2.1 _ _ = _
      unfold impl_CountOf.l0_
      simp only [head_end, cond_false]) (by omega) (by omega)
/-! ### functions -/
def phiB (count : Int) (p : tPhiD) : Bool := wOk p.1 && decide (p.2.1.length ≤ 10) && p.2.1.all (inB 0 (count - 1))
def blockB (count funcs blocks : Int) (b : tBlockD) : Bool := b.1.all (phiB count) && b.2.1.all (instB count funcs) && termB count blocks b.2.2
def funcB (funcs : Int) (f : tFuncD) : Bool :=
  decide (f.1.length ≤ 4) && wOk f.2.1 && inB 1 10 (f.2.2.1.length : Int) && decide (cntB f ≤ 60) && f.1.all wOk && f.2.2.1.all (blockB (cntB f) funcs (f.2.2.1.length : Int))
section
variable {f : tFuncD} {funcs count blocks : Int}
theorem specFunc4 {x : tBlockD} (hx : Small tBlock x) (h0 : 0 ≤ count) (h1 : count ≤ 9223372036854775807) (h2 : 0 ≤ funcs) (h3 : funcs ≤ 9223372036854775807) (h4 : 0 ≤ blocks) (h5 : blocks ≤ 9223372036854775807) {j : Nat} (hj : j < 9223372036854775807) {r : Bool}
    (hr : Ev (fun k => spec_l2Func.l1 k funcs count blocks ((j + 1 : Nat) : Int) f) (one r)) : Ev (fun k => spec_l2Func.l4 k funcs count blocks j 0 f x) (one (x.2.1.all (instB count funcs) && (termB count blocks x.2.2 && r))) := by
  have hs := hx.2.1
  refine each_ev (z := tInstZ) (l := x.2.1) (L := fun k a => spec_l2Func.l4 k funcs count blocks j a f x) (V := fun m => one (m.all (instB count funcs) && (termB count blocks x.2.2 && r))) (q := fun k y g => Option.bind (spec_l2Inst.f k y count funcs) fun r1 => bif !r1.1.1.1 then some (((false, ()), ()), ()) else g k)
    (by have := hs.1; show List.length (α := tInstD) x.2.1 ≤ _; have : List.length (α := tInstD) x.2.1 ≤ 1048576 := this; omega) (fun k a => rfl) ?_ ?_
  · refine Ev.bind (Ev.all fun k => specTerm k x.2.2 h0 h1 h4 h5) ?_
    rw [wrap_nat hj, List.all_nil, Bool.true_and]
    exact ev_and hr
  · intro y m g hy hg
    refine Ev.bind (specInst (i := y) ((hs.2 y hy).2.2.2.2.2.2.1.1) h0 h1 h2 h3) ?_
    rw [List.all_cons, Bool.and_assoc]
    exact ev_and hg
theorem specFunc2 {x : tBlockD} (hx : Small tBlock x) (h0 : 0 ≤ count) (h1 : count ≤ 9223372036854775807) (h2 : 0 ≤ funcs) (h3 : funcs ≤ 9223372036854775807) (h4 : 0 ≤ blocks) (h5 : blocks ≤ 9223372036854775807) {j : Nat} (hj : j < 9223372036854775807) {r : Bool}
    (hr : Ev (fun k => spec_l2Func.l1 k funcs count blocks ((j + 1 : Nat) : Int) f) (one r)) : Ev (fun k => spec_l2Func.l2 k funcs count blocks j 0 f x) (one (blockB count funcs blocks x && r)) := by
  have hs := hx.1
  have hlen : x.1.length ≤ 1048576 := hs.1
  have tail := specFunc4 (f := f) hx h0 h1 h2 h3 h4 h5 hj hr
  have key := Ev.down (G := fun i k => spec_l2Func.l2 k funcs count blocks j (i : Int) f x) (V := fun i => one ((x.1.drop i).all (phiB count) && (x.2.1.all (instB count funcs) && (termB count blocks x.2.2 && r)))) x.1.length ?_ ?_ 0 (Nat.zero_le _)
  · refine key.rw ?_
    unfold blockB
    rw [List.drop_zero, Bool.and_assoc, Bool.and_assoc]
  · rw [List.drop_length]
    refine tail.step fun k => ?_
    show spec_l2Func.l2_ k (spec_l2Func.l0 k) (spec_l2Func.l1 k) (spec_l2Func.l2 k) (spec_l2Func.l3 k) (spec_l2Func.l4 k) funcs count blocks j _ f x = _
    unfold spec_l2Func.l2_
    simp only [head_end, cond_false]
  · intro i hi ih
    have hp := hs.2 x.1[i] (List.getElem_mem hi)
    have hpl : x.1[i].2.1.length ≤ 1048576 := hp.2.1.1
    -- the inner loop
    have inner := Ev.down (G := fun q k => spec_l2Func.l3 k funcs count blocks j i (q : Int) f x) (V := fun q => one ((x.1[i].2.1.drop q).all (inB 0 (count - 1)) && ((x.1.drop (i + 1)).all (phiB count) && (x.2.1.all (instB count funcs) && (termB count blocks x.2.2 && r))))) x.1[i].2.1.length ?_ ?_ 0 (Nat.zero_le _)
    · rw [List.drop_eq_getElem_cons hi, List.all_cons]
      refine Ev.step (g' := fun k => Option.bind (spec_WidthOk.f k x.1[i].1) fun r1 => bif !r1.1.1.1 then some (((false, ()), ()), ()) else bif decide (10 < ((List.length x.1[i].2.1 : Nat) : Int)) then some (((false, ()), ()), ()) else spec_l2Func.l3 k funcs count blocks j i 0 f x) ?_ fun k => ?_
      · refine Ev.bind (Ev.all fun k => specW k _) ?_
        have e1 : ∀ R, (phiB count x.1[i] && R) = (wOk x.1[i].1 && (!decide (10 < ((List.length x.1[i].2.1 : Nat) : Int)) && (x.1[i].2.1.all (inB 0 (count - 1)) && R))) := fun R => by
          have e : decide (x.1[i].2.1.length ≤ 10) = !decide (10 < ((List.length x.1[i].2.1 : Nat) : Int)) := by
            by_cases h : 10 < ((List.length x.1[i].2.1 : Nat) : Int)
            · rw [dpos h, dneg (by omega)]; rfl
            · rw [dneg h, dpos (by omega)]; rfl
          unfold phiB
          rw [e, Bool.and_assoc, Bool.and_assoc]
        rw [Bool.and_assoc, e1]
        refine ev_and ?_
        exact ev_and' inner
      · show spec_l2Func.l2_ k (spec_l2Func.l0 k) (spec_l2Func.l1 k) (spec_l2Func.l2 k) (spec_l2Func.l3 k) (spec_l2Func.l4 k) funcs count blocks j _ f x = _
        unfold spec_l2Func.l2_
        simp only [head_in hi, head_0, Bool.and_self, cond_true, get_in hi]
    · rw [List.drop_length, List.all_nil, Bool.true_and]
      refine ih.step fun k => ?_
      show spec_l2Func.l3_ k (spec_l2Func.l0 k) (spec_l2Func.l1 k) (spec_l2Func.l2 k) (spec_l2Func.l3 k) (spec_l2Func.l4 k) funcs count blocks j _ _ f x = _
      unfold spec_l2Func.l3_
      simp only [head_in hi, head_0, Bool.and_self, cond_true, get_in hi, head_end, cond_false, wrap_nat (show i < 9223372036854775807 by omega)]
    · intro q hq ihq
      rw [List.drop_eq_getElem_cons hq, List.all_cons, Bool.and_assoc]
      refine Ev.step (g' := fun k => Option.bind (spec_l1In.f k x.1[i].2.1[q] 0 (IntKind.wrap .i64 (count - 1))) fun r1 => bif !r1.1.1.1 then some (((false, ()), ()), ()) else spec_l2Func.l3 k funcs count blocks j i ((q + 1 : Nat) : Int) f x) ?_ fun k => ?_
      · rw [wrap_id (by omega) (by omega)]
        exact Ev.bind (Ev.all fun k => specIn k _ _ _) (ev_and ihq)
      · show spec_l2Func.l3_ k (spec_l2Func.l0 k) (spec_l2Func.l1 k) (spec_l2Func.l2 k) (spec_l2Func.l3 k) (spec_l2Func.l4 k) funcs count blocks j _ _ f x = _
        unfold spec_l2Func.l3_
        simp only [head_in hi, head_0, Bool.and_self, cond_true, get_in hi, head_in hq, get_in hq, wrap_nat (show q < 9223372036854775807 by omega)]
theorem specFunc1 (hf : Small tFunc f) (h0 : 0 ≤ count) (h1 : count ≤ 9223372036854775807) (h2 : 0 ≤ funcs) (h3 : funcs ≤ 9223372036854775807) (h4 : 0 ≤ blocks) (h5 : blocks ≤ 9223372036854775807) : Ev (fun k => spec_l2Func.l1 k funcs count blocks 0 f) (one (f.2.2.1.all (blockB count funcs blocks))) := by
  have hs := hf.2.2.1
  have hlen : f.2.2.1.length ≤ 1048576 := hs.1
  have key := Ev.down (G := fun i k => spec_l2Func.l1 k funcs count blocks (i : Int) f) (V := fun i => one ((f.2.2.1.drop i).all (blockB count funcs blocks))) f.2.2.1.length ?_ ?_ 0 (Nat.zero_le _)
  · exact key
  · rw [List.drop_length]
    refine Ev.step (g' := fun _ => some (one true)) (Ev.cst rfl) fun k => ?_
    show spec_l2Func.l1_ k (spec_l2Func.l0 k) (spec_l2Func.l1 k) (spec_l2Func.l2 k) (spec_l2Func.l3 k) (spec_l2Func.l4 k) funcs count blocks _ f = _
    unfold spec_l2Func.l1_
    simp only [head_end, cond_false]
  · intro i hi ih
    rw [List.drop_eq_getElem_cons hi, List.all_cons]
    refine (specFunc2 (f := f) (x := f.2.2.1[i]) (hs.2 _ (List.getElem_mem hi)) h0 h1 h2 h3 h4 h5 (show i < 9223372036854775807 by omega) ih).step fun k => ?_
    show spec_l2Func.l1_ k (spec_l2Func.l0 k) (spec_l2Func.l1 k) (spec_l2Func.l2 k) (spec_l2Func.l3 k) (spec_l2Func.l4 k) funcs count blocks _ f = _
    unfold spec_l2Func.l1_
    simp only [head_in hi, head_0, Bool.and_self, cond_true, get_in hi]
theorem le_not {a b : Int} : decide (a ≤ b) = !decide (b < a) := by
  by_cases h : b < a
  · rw [dpos h, dneg (by omega)]; rfl
  · rw [dneg h, dpos (by omega)]; rfl
theorem len_not {n m : Nat} : decide (n ≤ m) = !decide ((m : Int) < (n : Int)) := by
  by_cases h : (m : Int) < (n : Int)
  · rw [dpos h, dneg (by omega)]; rfl
  · rw [dneg h, dpos (by omega)]; rfl
theorem specFunc (hf : Small tFunc f) (h2 : 0 ≤ funcs) (h3 : funcs ≤ 9223372036854775807) : Ev (fun k => spec_l2Func.f k f funcs) (one (funcB funcs f)) := by
  have hs := hf.2.2.1
  have hlen : f.2.2.1.length ≤ 1048576 := hs.1
  have hpl : f.1.length ≤ 1048576 := hf.1.1
  obtain ⟨c0, c1⟩ := cntB_le hf
  unfold spec_l2Func.f funcB
  simp only [Bool.and_assoc]
  refine Ev.bind (specCount hf) ?_
  rw [len_not]
  refine ev_and' (Ev.bind (Ev.all fun k => specW k _) (ev_and (Ev.bind (Ev.all fun k => specIn k _ _ _) (ev_and ?_))))
  rw [le_not]
  refine ev_and' ?_
  exact each_ev (z := 0) (l := f.1) (L := fun k a => spec_l2Func.l0 k funcs (cntB f) (f.2.2.1.length : Int) a f) (V := fun m => one (m.all wOk && f.2.2.1.all (blockB (cntB f) funcs (f.2.2.1.length : Int)))) (q := fun k y g => Option.bind (spec_WidthOk.f k y) fun r1 => bif !r1.1.1.1 then some (((false, ()), ()), ()) else g k)
    (by omega) (fun k a => rfl) (specFunc1 hf c0 (by omega) h2 h3 (by omega) (by omega)) fun y m g hy hg => by
      refine Ev.bind (Ev.all fun k => specW k _) ?_
      rw [List.all_cons, Bool.and_assoc]
      exact ev_and hg
end
end Go.Proofs.YtkfehogikjcgkaaGreat.V
namespace Go.Proofs.YtkfehogikjcgkaaGreat.V
open Go
set_option linter.unusedVariables false
set_option linter.unusedSimpArgs false
theorem implWs {l : List Int} (h : l.length ≤ 1048576) : Ev (fun k => slices_ContainsFunc_int64_int64.f k l) (one (!l.all wOk)) := by
  rw [← any_not]
  exact index_ev (z := 0) (L := fun k b a => slices_IndexFunc_int64_int64.l0 k l b a) (q := fun k x => impl_isFunc_1.f k x) (by omega) (fun k b a => rfl) fun x _ => Ev.all fun k => by
    unfold impl_isFunc_1.f
    rw [implW]; rfl
theorem implIds {l : List Int} (h : l.length ≤ 1048576) {count : Int} (h0 : 0 ≤ count) (h1 : count ≤ 9223372036854775807) : Ev (fun k => slices_ContainsFunc_int64_int64_2.f k l count) (one (!l.all (inB 0 (count - 1)))) := by
  rw [← any_not]
  exact index_ev (z := 0) (L := fun k b a => slices_IndexFunc_int64_int64_2.l0 k l b a count) (q := fun k x => impl_isFunc_2_1.f k x count) (by omega) (fun k b a => rfl) fun x _ => Ev.all fun k => by
    unfold impl_isFunc_2_1.f
    rw [implIn, wrap_id (by omega) (by omega)]; rfl
theorem ev_nt {g : Nat → Option BR} {b c : Bool} (h : Ev g (one (!c))) : Ev (fun k => bif !b then some (one true) else g k) (one (!(b && c))) := by
  cases b with
  | true => exact Ev.neg rfl h
  | false => exact Ev.pos rfl (Ev.cst rfl)
theorem ev_nt' {g : Nat → Option BR} {b c : Bool} (h : Ev g (one (!c))) : Ev (fun k => bif b then some (one true) else g k) (one (!(!b && c))) := by
  cases b with
  | true => exact Ev.pos rfl (Ev.cst rfl)
  | false => exact Ev.neg rfl h
theorem implPhi {p : tPhiD} (hp : Small tPhi p) {count : Int} (h0 : 0 ≤ count) (h1 : count ≤ 9223372036854775807) : Ev (fun k => impl_isFunc_2.f k p count) (one (!phiB count p)) := by
  have hl : p.2.1.length ≤ 1048576 := hp.2.1.1
  unfold impl_isFunc_2.f phiB
  rw [Bool.and_assoc, len_not]
  exact Ev.bind (Ev.all fun k => implW k _) (ev_nt (ev_nt' (Ev.bind (implIds hl h0 h1) (Ev.cst rfl))))
theorem implPhis {l : List tPhiD} (hs : Small (.list tPhi) l) {count : Int} (h0 : 0 ≤ count) (h1 : count ≤ 9223372036854775807) : Ev (fun k => slices_ContainsFunc_impl_Phi_impl_Phi.f k l count) (one (!l.all (phiB count))) := by
  have hl : l.length ≤ 1048576 := hs.1
  rw [← any_not]
  exact index_ev (z := tPhiZ) (L := fun k b a => slices_IndexFunc_impl_Phi_impl_Phi.l0 k l b a count) (q := fun k x => impl_isFunc_2.f k x count) (by omega) (fun k b a => rfl) fun x hx => implPhi (hs.2 x hx) h0 h1
theorem implInsts {l : List tInstD} (hs : Small (.list tInst) l) {count funcs : Int} (h0 : 0 ≤ count) (h1 : count ≤ 9223372036854775807) (h2 : 0 ≤ funcs) (h3 : funcs ≤ 9223372036854775807) : Ev (fun k => slices_ContainsFunc_impl_Inst_impl_Inst.f k l count funcs) (one (!l.all (instB count funcs))) := by
  have hl : l.length ≤ 1048576 := hs.1
  rw [← any_not]
  refine index_ev (z := tInstZ) (L := fun k b a => slices_IndexFunc_impl_Inst_impl_Inst.l0 k l b a count funcs) (q := fun k x => impl_isFunc_3.f k x count funcs) (by omega) (fun k b a => rfl) fun x hx => ?_
  exact Ev.bind (implInst (i := x) ((hs.2 x hx).2.2.2.2.2.2.1.1) h0 h1 h2 h3) (Ev.cst rfl)
theorem implFunc {f : tFuncD} (hf : Small tFunc f) {funcs : Int} (h2 : 0 ≤ funcs) (h3 : funcs ≤ 9223372036854775807) : Ev (fun k => impl_isFunc.f k f funcs) (one (funcB funcs f)) := by
  have hs := hf.2.2.1
  have hlen : f.2.2.1.length ≤ 1048576 := hs.1
  have hpl : f.1.length ≤ 1048576 := hf.1.1
  obtain ⟨c0, c1⟩ := cntB_le hf
  have c1 : cntB f ≤ 9223372036854775807 := by omega
  have hord : funcB funcs f = (!decide (((4 : Nat) : Int) < ((f.1.length : Nat) : Int)) && (wOk f.2.1 && (inB 1 10 (f.2.2.1.length : Int) && (f.1.all wOk && (!decide (60 < cntB f) && f.2.2.1.all (blockB (cntB f) funcs (f.2.2.1.length : Int))))))) := by
    unfold funcB
    rw [len_not, le_not]
    generalize decide (((4 : Nat) : Int) < ((f.1.length : Nat) : Int)) = a
    generalize decide (60 < cntB f) = b
    generalize f.1.all wOk = c
    cases a <;> cases b <;> cases c <;> simp [Bool.and_assoc]
  rw [hord]
  unfold impl_isFunc.f
  refine ev_and' (Ev.bind (Ev.all fun k => implW k _) (ev_and (Ev.bind (Ev.all fun k => implIn k _ _ _) (ev_and (Ev.bind (implWs hpl) ?_)))))
  have inner : Ev (fun k => Option.bind (impl_CountOf.f k f) fun r4 => bif decide (60 < r4.1.1.1) then some (((false, ()), ()), ()) else impl_isFunc.l0 k f.2.2.1 ((List.length f.2.2.1 : Nat) : Int) 0 f funcs r4.1.1.1) (one (!decide (60 < cntB f) && f.2.2.1.all (blockB (cntB f) funcs (f.2.2.1.length : Int)))) := by
    refine Ev.bind (implCount hf) (ev_and' ?_)
    refine each_ev (z := tBlockZ) (l := f.2.2.1) (L := fun k a => impl_isFunc.l0 k f.2.2.1 ((List.length f.2.2.1 : Nat) : Int) a f funcs (cntB f)) (V := fun m => one (m.all (blockB (cntB f) funcs (f.2.2.1.length : Int))))
      (q := fun k x g => Option.bind (slices_ContainsFunc_impl_Phi_impl_Phi.f k x.1 (cntB f)) fun r1 => bif r1.1.1.1 then some (((false, ()), ()), ()) else Option.bind (slices_ContainsFunc_impl_Inst_impl_Inst.f k x.2.1 (cntB f) funcs) fun r2 => bif r2.1.1.1 then some (((false, ()), ()), ()) else Option.bind (impl_isTerm.f k f x.2.2 (cntB f)) fun r3 => bif !r3.1.1.1 then some (((false, ()), ()), ()) else g k)
      (by omega) (fun k a => rfl) (Ev.cst rfl) fun x m g hx hg => ?_
    have hx' := hs.2 x hx
    have hb : (blockB (cntB f) funcs (f.2.2.1.length : Int) x && m.all (blockB (cntB f) funcs (f.2.2.1.length : Int))) = (!(!x.1.all (phiB (cntB f))) && (!(!x.2.1.all (instB (cntB f) funcs)) && (termB (cntB f) (f.2.2.1.length : Int) x.2.2 && m.all (blockB (cntB f) funcs (f.2.2.1.length : Int))))) := by
      have e : blockB (cntB f) funcs (f.2.2.1.length : Int) x = (x.1.all (phiB (cntB f)) && x.2.1.all (instB (cntB f) funcs) && termB (cntB f) (f.2.2.1.length : Int) x.2.2) := rfl
      rw [e, Bool.not_not, Bool.not_not, Bool.and_assoc, Bool.and_assoc]
    rw [List.all_cons, hb]
    exact Ev.bind (implPhis hx'.1 c0 c1) (ev_and' (Ev.bind (implInsts hx'.2.1 c0 c1 h2 h3) (ev_and' (Ev.bind (Ev.all fun k => implTerm k x.2.2 hlen c0 c1) (ev_and hg)))))
  have := ev_and' (b := !f.1.all wOk) inner
  rw [Bool.not_not] at this
  exact this
end Go.Proofs.YtkfehogikjcgkaaGreat.V
namespace Go.Proofs.YtkfehogikjcgkaaGreat.V
open Go
set_option linter.unusedVariables false
set_option linter.unusedSimpArgs false
structure Fm (funcs : Int) (f : tFuncD) : Prop where
  p4 : f.1.length ≤ 4
  b1 : 1 ≤ f.2.2.1.length
  b10 : f.2.2.1.length ≤ 10
  cnt : cntB f ≤ 60
  pw : ∀ w ∈ f.1, wOk w = true
  ph : ∀ x ∈ f.2.2.1, ∀ p ∈ x.1, phiB (cntB f) p = true
  ins : ∀ x ∈ f.2.2.1, ∀ i ∈ x.2.1, instB (cntB f) funcs i = true
  tm : ∀ x ∈ f.2.2.1, termB (cntB f) (f.2.2.1.length : Int) x.2.2 = true
theorem inB_iff {lo hi x : Int} : inB lo hi x = true ↔ lo ≤ x ∧ x ≤ hi := by simp [inB]
theorem Fm.of {funcs : Int} {f : tFuncD} (h : funcB funcs f = true) : Fm funcs f := by
  simp only [funcB, Bool.and_eq_true, decide_eq_true_eq, List.all_eq_true, inB_iff, blockB] at h
  obtain ⟨⟨⟨⟨⟨h1, h2⟩, h3⟩, h4⟩, h5⟩, h6⟩ := h
  exact ⟨h1, by omega, by omega, h4, h5, fun x hx => (h6 x hx).1.1, fun x hx => (h6 x hx).1.2, fun x hx => (h6 x hx).2⟩
/-- How many ids a block gives. -/
def wB (x : tBlockD) : Int := ((x.1.length : Nat) : Int) + ((x.2.1.length : Nat) : Int)
theorem wB_nonneg (x : tBlockD) : 0 ≤ wB x := by unfold wB; omega
theorem cntB_eq (f : tFuncD) : cntB f = (f.1.length : Int) + sumB wB f.2.2.1 := rfl
theorem sumB_nonneg {α : Type} {w : α → Int} : ∀ {l : List α}, (∀ x ∈ l, 0 ≤ w x) → 0 ≤ sumB w l
  | [], _ => Int.le_refl _
  | x :: l, h => by
    have := h x (by simp)
    have := sumB_nonneg (l := l) fun y hy => h y (by simp [hy])
    simp only [sumB]; omega
theorem le_sumB {α : Type} {w : α → Int} {l : List α} (h : ∀ x ∈ l, 0 ≤ w x) {x : α} (hx : x ∈ l) : w x ≤ sumB w l := by
  induction l with
  | nil => cases hx
  | cons y l ih =>
    have hn := sumB_nonneg (l := l) fun z hz => h z (by simp [hz])
    simp only [sumB]
    rcases List.mem_cons.1 hx with rfl | hx
    · omega
    · have := ih (fun z hz => h z (by simp [hz])) hx
      have := h y (by simp)
      omega
theorem Fm.w60 {funcs : Int} {f : tFuncD} (h : Fm funcs f) {x : tBlockD} (hx : x ∈ f.2.2.1) : wB x ≤ 60 := by
  have := le_sumB (w := wB) (fun y _ => wB_nonneg y) hx
  have := h.cnt
  rw [cntB_eq] at this
  omega
theorem Fm.phis {funcs : Int} {f : tFuncD} (h : Fm funcs f) {x : tBlockD} (hx : x ∈ f.2.2.1) : x.1.length ≤ 60 ∧ x.2.1.length ≤ 60 := by
  have := h.w60 hx
  unfold wB at this
  omega
end Go.Proofs.YtkfehogikjcgkaaGreat.V
namespace Go.Proofs.YtkfehogikjcgkaaGreat.V
open Go
set_option linter.unusedVariables false
set_option linter.unusedSimpArgs false
section
variable {funcs : Int} {f : tFuncD}
def vid (f : tFuncD) (id : Int) : Prop := 0 ≤ id ∧ id < cntB f
theorem vid_of {id : Int} (h : inB 0 (cntB f - 1) id = true) : vid f id := by
  have := inB_iff.1 h
  exact ⟨this.1, by omega⟩
theorem Fm.vt (hf : Fm funcs f) {x : tBlockD} (hx : x ∈ f.2.2.1) (h : x.2.2.1 = 1 ∨ x.2.2.1 = 3) : vid f x.2.2.2.1 := by
  have := hf.tm x hx
  unfold termB at this
  rcases h with h | h <;> rw [h] at this
  · have h2 : (inB 0 (cntB f - 1) x.2.2.2.1 && decide (x.2.2.2.2.1 = 0) && decide (x.2.2.2.2.2.1 = 0)) = true := this
    simp only [Bool.and_eq_true] at h2
    exact vid_of h2.1.1
  · have h2 : (inB 0 (cntB f - 1) x.2.2.2.1 && inB 0 ((f.2.2.1.length : Int) - 1) x.2.2.2.2.1 && inB 0 ((f.2.2.1.length : Int) - 1) x.2.2.2.2.2.1 && !decide (x.2.2.2.2.1 = x.2.2.2.2.2.1)) = true := this
    simp only [Bool.and_eq_true] at h2
    exact vid_of h2.1.1.1
theorem Fm.vp (hf : Fm funcs f) {x : tBlockD} (hx : x ∈ f.2.2.1) {p : tPhiD} (hp : p ∈ x.1) {id : Int} (h : id ∈ p.2.1) : vid f id := by
  have := hf.ph x hx p hp
  simp only [phiB, Bool.and_eq_true, List.all_eq_true] at this
  exact vid_of (this.2 id h)
theorem Fm.vo (hf : Fm funcs f) {x : tBlockD} (hx : x ∈ f.2.2.1) {i : tInstD} (hi : i ∈ x.2.1) : i.2.2.2.2.2.2.1.length ≤ 4 ∧ ∀ id ∈ opsB i, vid f id := by
  have hin := hf.ins x hx i hi
  simp only [instB, Bool.and_eq_true, decide_eq_true_eq, List.all_eq_true] at hin
  exact ⟨hin.1.1.1.1.1.2, fun id h => vid_of (hin.1.1.1.2 id h)⟩
end
end Go.Proofs.YtkfehogikjcgkaaGreat.V
namespace Go.Proofs.YtkfehogikjcgkaaGreat.V
open Go
set_option linter.unusedVariables false
set_option linter.unusedSimpArgs false
theorem Ev.sk1 {R : Type} {g : Nat → Option R} {r : R} (h : Ev (fun k => g (k + 1)) r) : Ev g r := Ev.step h fun _ => rfl
/-- A loop whose state is known at each place. -/
theorem st_loop {σ R : Type} {n0 : Nat} {L : Nat → Int → σ → Option R} {T : Nat → σ → Option R} (S : Nat → σ)
    (hend : ∀ r, Ev (fun k => T k (S n0)) r → Ev (fun k => L k (n0 : Int) (S n0)) r)
    (hstep : ∀ i r, i < n0 → Ev (fun k => L k ((i + 1 : Nat) : Int) (S (i + 1))) r → Ev (fun k => L k (i : Int) (S i)) r) {r : R} (h : Ev (fun k => T k (S n0)) r) : Ev (fun k => L k 0 (S 0)) r :=
  Ev.down (G := fun i k => L k (i : Int) (S i)) (V := fun _ => r) n0 (hend r h) (fun i hi e => hstep i r hi e) 0 (Nat.zero_le _)
section
variable {α : Type}
theorem take_push {l : List α} {i : Nat} (h : i < l.length) : l.take i ++ [l[i]] = l.take (i + 1) := (List.take_succ_eq_append_getElem h).symm
theorem len_push {l : List α} {i : Nat} {x : α} (b : Nat) (hb : b ≤ 100) (h : l.length ≤ 1048576) : (List.length (l.take i) + List.length [x]) * b ≤ 140737488355328 := by
  have h1 : List.length (l.take i) + List.length [x] ≤ 1048577 := by simp only [List.length_take, List.length_cons, List.length_nil]; omega
  exact Nat.le_trans (Nat.mul_le_mul h1 hb) (by decide)
def updS (g : α → α) (l : List α) (i : Nat) : List α := (l.take i).map g ++ l.drop i
theorem updS_len (g : α → α) (l : List α) (i : Nat) : (updS g l i).length = l.length := by
  unfold updS
  simp only [List.length_append, List.length_map, List.length_take, List.length_drop]; omega
theorem updS_get (g : α → α) {l : List α} {i : Nat} (z : α) (h : i < l.length) : (updS g l i).getD i z = l[i] := by
  unfold updS
  have e : ((l.take i).map g).length = i := by simp only [List.length_map, List.length_take]; omega
  rw [List.getD_eq_getElem?_getD, List.getElem?_append_right (by omega), e, Nat.sub_self, List.getElem?_drop, Nat.add_zero, List.getElem?_eq_getElem h]; rfl
theorem updS_set (g : α → α) {l : List α} {i : Nat} (h : i < l.length) : (updS g l i).set i (g l[i]) = updS g l (i + 1) := by
  unfold updS
  have e : ((l.take i).map g).length = i := by simp only [List.length_map, List.length_take]; omega
  rw [List.set_append_right _ _ (by omega), e, Nat.sub_self, List.drop_eq_getElem_cons h, List.set_cons_zero, ← take_push h, List.map_append, List.append_assoc]; rfl
theorem updS_end (g : α → α) (l : List α) : updS g l l.length = l.map g := by
  unfold updS
  rw [List.take_length, List.drop_length, List.append_nil]
end
/-! ### copies -/
theorem specCopyInst (k : Nat) {i : tInstD} (h : i.2.2.2.2.2.2.1.length ≤ 1048576) : spec_l2CopyInst.f k i = some (((i.1, i.2.1, i.2.2.1, i.2.2.2.1, i.2.2.2.2.1, i.2.2.2.2.2.1, (), ()), ()), (i.2.2.2.2.2.2.1, ())) := by
  unfold spec_l2CopyInst.f
  rw [specCopy k h]; rfl
theorem specCopyBlock {x : tBlockD} (h : Small tBlock x) : Ev (fun k => spec_l2CopyBlock.f k x) ((((), (), x.2.2.1, x.2.2.2.1, x.2.2.2.2.1, x.2.2.2.2.2.1, ()), ()), (x.1, x.2.1, ())) := by
  have hp : x.1.length ≤ 1048576 := h.1.1
  have hi : x.2.1.length ≤ 1048576 := h.2.1.1
  unfold spec_l2CopyBlock.f
  refine st_loop (n0 := x.1.length) (L := fun k a s => spec_l2CopyBlock.l0 k a x 0 0 0 0 [] [] x.2.2.1 x.2.2.2.1 x.2.2.2.2.1 x.2.2.2.2.2.1 s []) (T := fun k s => spec_l2CopyBlock.l1 k 0 x 0 0 0 0 [] [] x.2.2.1 x.2.2.2.1 x.2.2.2.2.1 x.2.2.2.2.2.1 s []) (fun i => x.1.take i) (fun r e => Ev.sk1 ?_) (fun i r hlt e => Ev.sk1 ?_) ?_
  · show Ev (fun k => spec_l2CopyBlock.l0_ k (spec_l2CopyBlock.l0 k) (spec_l2CopyBlock.l1 k) _ _ _ _ _ _ _ _ _ _ _ _ _ _) _
    simp only [spec_l2CopyBlock.l0_, head_end, cond_false]
    exact e
  · show Ev (fun k => spec_l2CopyBlock.l0_ k (spec_l2CopyBlock.l0 k) (spec_l2CopyBlock.l1 k) _ _ _ _ _ _ _ _ _ _ _ _ _ _) _
    simp only [spec_l2CopyBlock.l0_, head_in hlt, head_0, Bool.and_self, cond_true, Int.toNat_natCast, getD_at _ _ _ hlt, wrap_nat (show i < 9223372036854775807 by omega)]
    refine Ev.bind (Ev.all fun k => specCopy k (h.1.2 _ (List.getElem_mem hlt)).2.1.1) (Ev.dp (len_push 32 (by decide) hp) ?_)
    simp only [← take_push hlt] at e
    exact e
  · simp only [List.take_length]
    refine (st_loop (n0 := x.2.1.length) (L := fun k a s => spec_l2CopyBlock.l1 k a x 0 0 0 0 [] [] x.2.2.1 x.2.2.2.1 x.2.2.2.2.1 x.2.2.2.2.2.1 x.1 s) (T := fun k s => some ((((), (), x.2.2.1, x.2.2.2.1, x.2.2.2.2.1, x.2.2.2.2.2.1, ()), ()), (x.1, s, ()))) (fun i => x.2.1.take i) (fun r e => Ev.sk1 ?_) (fun i r hlt e => Ev.sk1 ?_) (r := ((((), (), x.2.2.1, x.2.2.2.1, x.2.2.2.2.1, x.2.2.2.2.2.1, ()), ()), (x.1, x.2.1, ()))) ?_)
    · show Ev (fun k => spec_l2CopyBlock.l1_ k (spec_l2CopyBlock.l0 k) (spec_l2CopyBlock.l1 k) _ _ _ _ _ _ _ _ _ _ _ _ _ _) _
      simp only [spec_l2CopyBlock.l1_, head_end, cond_false]
      exact e
    · show Ev (fun k => spec_l2CopyBlock.l1_ k (spec_l2CopyBlock.l0 k) (spec_l2CopyBlock.l1 k) _ _ _ _ _ _ _ _ _ _ _ _ _ _) _
      simp only [spec_l2CopyBlock.l1_, head_in hlt, head_0, Bool.and_self, cond_true, Int.toNat_natCast, getD_at _ _ _ hlt, wrap_nat (show i < 9223372036854775807 by omega)]
      refine Ev.bind (Ev.all fun k => specCopyInst k (h.2.1.2 _ (List.getElem_mem hlt)).2.2.2.2.2.2.1.1) (Ev.dp (len_push 72 (by decide) hi) ?_)
      simp only [← take_push hlt] at e
      exact e
    · simp only [List.take_length]
      exact Ev.cst rfl
theorem specCopyFunc {f : tFuncD} (h : Small tFunc f) : Ev (fun k => spec_l2CopyFunc.f k f) ((((), f.2.1, (), ()), ()), (f.1, f.2.2.1, ())) := by
  have hb : f.2.2.1.length ≤ 1048576 := h.2.2.1.1
  unfold spec_l2CopyFunc.f
  refine Ev.bind (Ev.all fun k => specCopy k h.1.1) ?_
  refine (st_loop (n0 := f.2.2.1.length) (L := fun k a s => spec_l2CopyFunc.l0 k a f 0 [] [] f.2.1 f.1 s) (T := fun k s => some ((((), f.2.1, (), ()), ()), (f.1, s, ()))) (fun i => f.2.2.1.take i) (fun r e => Ev.sk1 ?_) (fun i r hlt e => Ev.sk1 ?_) ?_)
  · show Ev (fun k => spec_l2CopyFunc.l0_ k (spec_l2CopyFunc.l0 k) _ _ _ _ _ _ _ _) _
    simp only [spec_l2CopyFunc.l0_, head_end, cond_false]
    exact e
  · show Ev (fun k => spec_l2CopyFunc.l0_ k (spec_l2CopyFunc.l0 k) _ _ _ _ _ _ _ _) _
    simp only [spec_l2CopyFunc.l0_, head_in hlt, head_0, Bool.and_self, cond_true, Int.toNat_natCast, getD_at _ _ _ hlt, wrap_nat (show i < 9223372036854775807 by omega)]
    refine Ev.bind (specCopyBlock (h.2.2.1.2 _ (List.getElem_mem hlt))) (Ev.dp (len_push 80 (by decide) hb) ?_)
    simp only [← take_push hlt] at e
    exact e
  · simp only [List.take_length]
    exact Ev.cst rfl
/-! ### other ids -/
def okI (to : List Int) (i : Int) : Prop := 0 ≤ i ∧ i < (to.length : Int)
def subI (to : List Int) (i : Int) : Int := to.getD i.toNat 0
def subPhi (to : List Int) (p : tPhiD) : tPhiD := (p.1, p.2.1.map (subI to), ())
def subInst (to : List Int) (i : tInstD) : tInstD :=
  bif decide (i.1 = 26) then (i.1, i.2.1, i.2.2.1, i.2.2.2.1, i.2.2.2.2.1, i.2.2.2.2.2.1, i.2.2.2.2.2.2.1.map (subI to), ())
  else (i.1, i.2.1, bif decide (0 < (opsB i).length) then subI to i.2.2.1 else i.2.2.1, bif decide (1 < (opsB i).length) then subI to i.2.2.2.1 else i.2.2.2.1, bif decide (2 < (opsB i).length) then subI to i.2.2.2.2.1 else i.2.2.2.2.1, i.2.2.2.2.2.1, i.2.2.2.2.2.2.1, ())
def subTerm (to : List Int) (t : tTermD) : tTermD := bif decide (t.1 = 1) || decide (t.1 = 3) then (t.1, subI to t.2.1, t.2.2.1, t.2.2.2.1, ()) else t
def subB (to : List Int) (x : tBlockD) : tBlockD := (x.1.map (subPhi to), x.2.1.map (subInst to), subTerm to x.2.2)
def subF (to : List Int) (f : tFuncD) : tFuncD := (f.1, f.2.1, f.2.2.1.map (subB to), ())
def SubB (to : List Int) (x : tBlockD) : Prop := Small tBlock x ∧ (∀ p ∈ x.1, ∀ id ∈ p.2.1, okI to id) ∧ (∀ i ∈ x.2.1, ∀ id ∈ opsB i, okI to id) ∧ (x.2.2.1 = 1 ∨ x.2.2.1 = 3 → okI to x.2.2.2.1)
structure SubOK (to : List Int) (f : tFuncD) : Prop where
  sm : Small tFunc f
  bl : ∀ x ∈ f.2.2.1, SubB to x
abbrev instR (y : tInstD) : ((Int × Int × Int × Int × Int × Int × Unit × Unit) × Unit) × ((List Int) × Unit) := (((y.1, y.2.1, y.2.2.1, y.2.2.2.1, y.2.2.2.2.1, y.2.2.2.2.2.1, (), ()), ()), (y.2.2.2.2.2.2.1, ()))
theorem ops_forms {i : tInstD} (h : i.1 ≠ 26) : opsB i = [] ∨ opsB i = [i.2.2.1] ∨ opsB i = [i.2.2.1, i.2.2.2.1] ∨ opsB i = [i.2.2.1, i.2.2.2.1, i.2.2.2.2.1] := by
  unfold opsB
  rw [dneg h]
  cases inB 1 17 i.1 <;> cases decide (i.1 = 24) <;> cases inB 18 20 i.1 <;> cases decide (i.1 = 23) <;> cases decide (i.1 = 25) <;> cases decide (i.1 = 27) <;> cases decide (i.1 = 22) <;> simp
theorem okI_dec {to : List Int} {i : Int} (h : okI to i) : (decide (0 ≤ i) && decide (i < (to.length : Int))) = true := by rw [dpos h.1, dpos h.2]; rfl
theorem specSubInst {to : List Int} {i : tInstD} (hs : i.2.2.2.2.2.2.1.length ≤ 1048576) (ho : ∀ id ∈ opsB i, okI to id) : Ev (fun k => spec_l8Inst.f k i to) (instR (subInst to i)) := by
  unfold spec_l8Inst.f
  refine Ev.bind (Ev.all fun k => specCopyInst k hs) (Ev.bind (Ev.all fun k => specOps k hs) ?_)
  by_cases h26 : i.1 = 26
  · refine Ev.dp h26 ?_
    have ho' : ∀ id ∈ i.2.2.2.2.2.2.1, okI to id := by
      have : opsB i = i.2.2.2.2.2.2.1 := by unfold opsB inB; rw [h26]; rfl
      rw [← this]; exact ho
    have e : instR (subInst to i) = (((i.1, i.2.1, i.2.2.1, i.2.2.2.1, i.2.2.2.2.1, i.2.2.2.2.2.1, (), ()), ()), (i.2.2.2.2.2.2.1.map (subI to), ())) := by unfold subInst; rw [dpos h26]; rfl
    rw [e]
    refine st_loop (n0 := i.2.2.2.2.2.2.1.length) (L := fun k a s => spec_l8Inst.l0 k to a i 0 0 0 0 0 0 [] i.1 i.2.1 i.2.2.1 i.2.2.2.1 i.2.2.2.2.1 i.2.2.2.2.2.1 s) (T := fun k s => some (((i.1, i.2.1, i.2.2.1, i.2.2.2.1, i.2.2.2.2.1, i.2.2.2.2.2.1, (), ()), ()), (s, ()))) (updS (subI to) i.2.2.2.2.2.2.1) (fun r e => Ev.sk1 ?_) (fun j r hlt e => Ev.sk1 ?_) ?_
    · show Ev (fun k => spec_l8Inst.l0_ k (spec_l8Inst.l0 k) _ _ _ _ _ _ _ _ _ _ _ _ _ _ _ _ _) _
      simp only [spec_l8Inst.l0_, updS_len, head_end, cond_false]
      exact e
    · show Ev (fun k => spec_l8Inst.l0_ k (spec_l8Inst.l0 k) _ _ _ _ _ _ _ _ _ _ _ _ _ _ _ _ _) _
      simp only [spec_l8Inst.l0_, updS_len, head_in hlt, head_0, Bool.and_self, cond_true, Int.toNat_natCast, getD_at _ _ _ hlt, wrap_nat (show j < 9223372036854775807 by omega), okI_dec (ho' _ (List.getElem_mem hlt))]
      simp only [← updS_set (subI to) hlt] at e
      exact e
    · rw [updS_end]; exact Ev.cst rfl
  · refine Ev.dn h26 ?_
    have e : subInst to i = (i.1, i.2.1, bif decide (0 < (opsB i).length) then subI to i.2.2.1 else i.2.2.1, bif decide (1 < (opsB i).length) then subI to i.2.2.2.1 else i.2.2.2.1, bif decide (2 < (opsB i).length) then subI to i.2.2.2.2.1 else i.2.2.2.2.1, i.2.2.2.2.2.1, i.2.2.2.2.2.2.1, ()) := by unfold subInst; rw [dneg h26]; rfl
    rw [e]
    rcases ops_forms h26 with h | h | h | h <;> rw [h] at ho ⊢
    · exact Ev.cst rfl
    · exact Ev.dp (by simp) (Ev.pos (okI_dec (ho _ (by simp))) (Ev.cst rfl))
    · exact Ev.dp (by simp) (Ev.pos (okI_dec (ho i.2.2.1 (by simp))) (Ev.dp (by simp) (Ev.pos (okI_dec (ho i.2.2.2.1 (by simp))) (Ev.cst rfl))))
    · exact Ev.dp (by simp) (Ev.pos (okI_dec (ho i.2.2.1 (by simp))) (Ev.dp (by simp) (Ev.pos (okI_dec (ho i.2.2.2.1 (by simp))) (Ev.dp (by simp) (Ev.pos (okI_dec (ho i.2.2.2.2.1 (by simp))) (Ev.cst rfl))))))
theorem specSubTerm {to : List Int} {t : tTermD} (h : t.1 = 1 ∨ t.1 = 3 → okI to t.2.1) : Ev (fun k => spec_l8Term.f k t to) (((subTerm to t, ()), ())) := by
  unfold spec_l8Term.f subTerm
  by_cases h1 : t.1 = 1
  · rw [dpos h1]
    exact Ev.pos rfl (Ev.pos (okI_dec (h (Or.inl h1))) (Ev.cst rfl))
  · rw [dneg h1]
    by_cases h3 : t.1 = 3
    · rw [dpos h3]
      exact Ev.neg rfl (Ev.pos rfl (Ev.pos (okI_dec (h (Or.inr h3))) (Ev.cst rfl)))
    · rw [dneg h3]
      exact Ev.neg rfl (Ev.neg rfl (Ev.cst rfl))
/-! ### l8Subst -/
section
variable {to : List Int} {r : spec_l8Subst.R} {b : Int} {f : tFuncD} {a4 : Int} {a5 : List Int} {a6 : List tBlockD} {a7 : Int} {a8 : List Int} {a9 : List tBlockD} {a10 : Nat} {a11 a12 a13 a14 : Int}
theorem specPhiLoop {p : Nat} {phis : List tPhiD} (hp : p < phis.length) {w : Int} {ins : List Int} {insts : List tInstD} {t1 t2 t3 t4 : Int} (hl : ins.length ≤ 1048576) (ho : ∀ id ∈ ins, okI to id) (hpl : phis.length ≤ 1048576)
    (e : Ev (fun k => spec_l8Subst.l1 k to b ((p + 1 : Nat) : Int) f a4 a5 a6 a7 a8 a9 a10 a11 a12 a13 a14 (phis.set p (w, ins.map (subI to), ())) insts t1 t2 t3 t4) r) :
    Ev (fun k => spec_l8Subst.l2 k to b (p : Int) 0 f a4 a5 a6 a7 a8 a9 a10 a11 a12 a13 a14 phis p w ins insts t1 t2 t3 t4) r := by
  refine st_loop (n0 := ins.length) (L := fun k a s => spec_l8Subst.l2 k to b (p : Int) a f a4 a5 a6 a7 a8 a9 a10 a11 a12 a13 a14 phis p w s insts t1 t2 t3 t4) (T := fun k s => spec_l8Subst.l1 k to b ((p + 1 : Nat) : Int) f a4 a5 a6 a7 a8 a9 a10 a11 a12 a13 a14 (phis.set p (w, s, ())) insts t1 t2 t3 t4) (updS (subI to) ins) (fun r e => Ev.sk1 ?_) (fun j r hlt e => Ev.sk1 ?_) ?_
  · show Ev (fun k => spec_l8Subst.l2_ k (spec_l8Subst.l0 k) (spec_l8Subst.l1 k) (spec_l8Subst.l2 k) (spec_l8Subst.l3 k) _ _ _ _ _ _ _ _ _ _ _ _ _ _ _ _ _ _ _ _ _ _ _ _ _) _
    simp only [spec_l8Subst.l2_, updS_len, head_in hp, head_0, head_end, Bool.and_self, cond_true, cond_false, Int.toNat_natCast, decide_true, wrap_nat (show p < 9223372036854775807 by omega)]
    exact e
  · show Ev (fun k => spec_l8Subst.l2_ k (spec_l8Subst.l0 k) (spec_l8Subst.l1 k) (spec_l8Subst.l2 k) (spec_l8Subst.l3 k) _ _ _ _ _ _ _ _ _ _ _ _ _ _ _ _ _ _ _ _ _ _ _ _ _) _
    simp only [spec_l8Subst.l2_, updS_len, head_in hp, head_in hlt, head_0, Bool.and_self, cond_true, Int.toNat_natCast, decide_true, updS_get (subI to) 0 hlt, wrap_nat (show j < 9223372036854775807 by omega), okI_dec (ho _ (List.getElem_mem hlt))]
    simp only [← updS_set (subI to) hlt] at e
    exact e
  · rw [updS_end]; exact e
theorem specPhis {phis : List tPhiD} {insts : List tInstD} {t1 t2 t3 t4 : Int} (hl : Small (.list tPhi) phis) (ho : ∀ p ∈ phis, ∀ id ∈ p.2.1, okI to id)
    (e : Ev (fun k => spec_l8Subst.l3 k to b 0 f a4 a5 a6 a7 a8 a9 a10 a11 a12 a13 a14 (phis.map (subPhi to)) insts t1 t2 t3 t4) r) :
    Ev (fun k => spec_l8Subst.l1 k to b 0 f a4 a5 a6 a7 a8 a9 a10 a11 a12 a13 a14 phis insts t1 t2 t3 t4) r := by
  have hl1 : phis.length ≤ 1048576 := hl.1
  refine st_loop (n0 := phis.length) (L := fun k a s => spec_l8Subst.l1 k to b a f a4 a5 a6 a7 a8 a9 a10 a11 a12 a13 a14 s insts t1 t2 t3 t4) (T := fun k s => spec_l8Subst.l3 k to b 0 f a4 a5 a6 a7 a8 a9 a10 a11 a12 a13 a14 s insts t1 t2 t3 t4) (updS (subPhi to) phis) (fun r e => Ev.sk1 ?_) (fun j r hlt e => Ev.sk1 ?_) ?_
  · show Ev (fun k => spec_l8Subst.l1_ k (spec_l8Subst.l0 k) (spec_l8Subst.l1 k) (spec_l8Subst.l2 k) (spec_l8Subst.l3 k) _ _ _ _ _ _ _ _ _ _ _ _ _ _ _ _ _ _ _ _ _) _
    simp only [spec_l8Subst.l1_, updS_len, head_end, cond_false]
    exact e
  · show Ev (fun k => spec_l8Subst.l1_ k (spec_l8Subst.l0 k) (spec_l8Subst.l1 k) (spec_l8Subst.l2 k) (spec_l8Subst.l3 k) _ _ _ _ _ _ _ _ _ _ _ _ _ _ _ _ _ _ _ _ _) _
    simp only [spec_l8Subst.l1_, updS_len, head_in hlt, head_0, Bool.and_self, cond_true, Int.toNat_natCast, updS_get (subPhi to) _ hlt]
    refine specPhiLoop (by rw [updS_len]; exact hlt) (hl.2 _ (List.getElem_mem hlt)).2.1.1 (ho _ (List.getElem_mem hlt)) (by rw [updS_len]; exact hl1) ?_
    simp only [← updS_set (subPhi to) hlt] at e
    exact e
  · rw [updS_end]; exact e
theorem specInsts {i : Nat} {phis : List tPhiD} {insts : List tInstD} {t : tTermD} (hi : i < a9.length) (h9 : a9.length ≤ 1048576) (hl : Small (.list tInst) insts) (ho : ∀ x ∈ insts, ∀ id ∈ opsB x, okI to id) (ht : t.1 = 1 ∨ t.1 = 3 → okI to t.2.1)
    (e : Ev (fun k => spec_l8Subst.l0 k to ((i + 1 : Nat) : Int) f a4 a5 a6 a7 a8 (a9.set i (phis, insts.map (subInst to), subTerm to t))) r) :
    Ev (fun k => spec_l8Subst.l3 k to (i : Int) 0 f a4 a5 a6 a7 a8 a9 i a11 a12 a13 a14 phis insts t.1 t.2.1 t.2.2.1 t.2.2.2.1) r := by
  have hl1 : insts.length ≤ 1048576 := hl.1
  refine st_loop (n0 := insts.length) (L := fun k a s => spec_l8Subst.l3 k to (i : Int) a f a4 a5 a6 a7 a8 a9 i a11 a12 a13 a14 phis s t.1 t.2.1 t.2.2.1 t.2.2.2.1) (T := fun k s => spec_l8Subst.l0 k to ((i + 1 : Nat) : Int) f a4 a5 a6 a7 a8 (a9.set i (phis, s, subTerm to t))) (updS (subInst to) insts) (fun r e => Ev.sk1 ?_) (fun j r hlt e => Ev.sk1 ?_) ?_
  · show Ev (fun k => spec_l8Subst.l3_ k (spec_l8Subst.l0 k) (spec_l8Subst.l1 k) (spec_l8Subst.l2 k) (spec_l8Subst.l3 k) _ _ _ _ _ _ _ _ _ _ _ _ _ _ _ _ _ _ _ _ _) _
    simp only [spec_l8Subst.l3_, updS_len, head_end, cond_false]
    refine Ev.bind (specSubTerm (t := t) ht) ?_
    simp only [head_in hi, head_0, Bool.and_self, cond_true, Int.toNat_natCast, decide_true, wrap_nat (show i < 9223372036854775807 by omega)]
    exact e
  · show Ev (fun k => spec_l8Subst.l3_ k (spec_l8Subst.l0 k) (spec_l8Subst.l1 k) (spec_l8Subst.l2 k) (spec_l8Subst.l3 k) _ _ _ _ _ _ _ _ _ _ _ _ _ _ _ _ _ _ _ _ _) _
    simp only [spec_l8Subst.l3_, updS_len, head_in hlt, head_0, Bool.and_self, cond_true, Int.toNat_natCast, decide_true, updS_get (subInst to) _ hlt, wrap_nat (show j < 9223372036854775807 by omega)]
    refine Ev.bind (specSubInst (hl.2 _ (List.getElem_mem hlt)).2.2.2.2.2.2.1.1 (ho _ (List.getElem_mem hlt))) ?_
    simp only [← updS_set (subInst to) hlt] at e
    exact e
  · rw [updS_end]; exact e
end
theorem specSubst {to : List Int} {f : tFuncD} (h : SubOK to f) : Ev (fun k => spec_l8Subst.f k f to) ((((), f.2.1, (), ()), ()), (f.1, f.2.2.1.map (subB to), ())) := by
  have hb : f.2.2.1.length ≤ 1048576 := h.sm.2.2.1.1
  unfold spec_l8Subst.f
  refine Ev.bind (specCopyFunc h.sm) ?_
  refine st_loop (n0 := f.2.2.1.length) (L := fun k a s => spec_l8Subst.l0 k to a f 0 [] [] f.2.1 f.1 s) (T := fun k s => some ((((), f.2.1, (), ()), ()), (f.1, s, ()))) (updS (subB to) f.2.2.1) (fun r e => Ev.sk1 ?_) (fun j r hlt e => Ev.sk1 ?_) ?_
  · show Ev (fun k => spec_l8Subst.l0_ k (spec_l8Subst.l0 k) (spec_l8Subst.l1 k) (spec_l8Subst.l2 k) (spec_l8Subst.l3 k) _ _ _ _ _ _ _ _ _) _
    simp only [spec_l8Subst.l0_, head_end, cond_false]
    exact e
  · show Ev (fun k => spec_l8Subst.l0_ k (spec_l8Subst.l0 k) (spec_l8Subst.l1 k) (spec_l8Subst.l2 k) (spec_l8Subst.l3 k) _ _ _ _ _ _ _ _ _) _
    simp only [spec_l8Subst.l0_, updS_len, head_in hlt, head_0, Bool.and_self, cond_true, Int.toNat_natCast, decide_true, updS_get (subB to) _ hlt]
    obtain ⟨q1, q2, q3, q4⟩ := h.bl _ (List.getElem_mem hlt)
    refine specPhis q1.1 q2 (specInsts (t := (f.2.2.1[j]).2.2) (by rw [updS_len]; exact hlt) (by rw [updS_len]; exact hb) q1.2.1 q3 q4 ?_)
    simp only [← updS_set (subB to) hlt] at e
    exact e
  · rw [updS_end]; exact Ev.cst rfl
end Go.Proofs.YtkfehogikjcgkaaGreat.V
namespace Go.Proofs.YtkfehogikjcgkaaGreat.V
open Go
set_option linter.unusedVariables false
set_option linter.unusedSimpArgs false
theorem implOwnInst (k : Nat) {i : tInstD} (h : i.2.2.2.2.2.2.1.length ≤ 1048576) : impl_ownInst.f k i = some (((i.1, i.2.1, i.2.2.1, i.2.2.2.1, i.2.2.2.2.1, i.2.2.2.2.2.1, (), ()), ()), (i.2.2.2.2.2.2.1, ())) := by
  unfold impl_ownInst.f
  rw [implClone k h]; rfl
theorem implOwnBlock {x : tBlockD} (h : Small tBlock x) : Ev (fun k => impl_ownBlock.f k x) ((((), (), x.2.2.1, x.2.2.2.1, x.2.2.2.2.1, x.2.2.2.2.2.1, ()), ()), (x.1, x.2.1, ())) := by
  have hp : x.1.length ≤ 1048576 := h.1.1
  have hi : x.2.1.length ≤ 1048576 := h.2.1.1
  unfold impl_ownBlock.f
  refine st_loop (n0 := x.1.length) (L := fun k a s => impl_ownBlock.l0 k x.1 (x.1.length : Int) a x 0 0 0 0 [] [] x.2.2.1 x.2.2.2.1 x.2.2.2.2.1 x.2.2.2.2.2.1 s []) (T := fun k s => impl_ownBlock.l1 k x.2.1 (x.2.1.length : Int) 0 0 0 0 0 [] [] x.2.2.1 x.2.2.2.1 x.2.2.2.2.1 x.2.2.2.2.2.1 s []) (fun i => x.1.take i) (fun r e => Ev.sk1 ?_) (fun i r hlt e => Ev.sk1 ?_) ?_
  · show Ev (fun k => impl_ownBlock.l0_ k (impl_ownBlock.l0 k) (impl_ownBlock.l1 k) _ _ _ _ _ _ _ _ _ _ _ _ _ _ _ _) _
    simp only [impl_ownBlock.l0_, head_end, cond_false]
    exact e
  · show Ev (fun k => impl_ownBlock.l0_ k (impl_ownBlock.l0 k) (impl_ownBlock.l1 k) _ _ _ _ _ _ _ _ _ _ _ _ _ _ _ _) _
    simp only [impl_ownBlock.l0_, head_in hlt, head_0, Bool.and_self, cond_true, Int.toNat_natCast, getD_at _ _ _ hlt, wrap_nat (show i < 9223372036854775807 by omega)]
    refine Ev.bind (Ev.all fun k => implClone k (h.1.2 _ (List.getElem_mem hlt)).2.1.1) (Ev.dp (len_push 32 (by decide) hp) ?_)
    simp only [← take_push hlt] at e
    exact e
  · simp only [List.take_length]
    refine (st_loop (n0 := x.2.1.length) (L := fun k a s => impl_ownBlock.l1 k x.2.1 (x.2.1.length : Int) a 0 0 0 0 [] [] x.2.2.1 x.2.2.2.1 x.2.2.2.2.1 x.2.2.2.2.2.1 x.1 s) (T := fun k s => some ((((), (), x.2.2.1, x.2.2.2.1, x.2.2.2.2.1, x.2.2.2.2.2.1, ()), ()), (x.1, s, ()))) (fun i => x.2.1.take i) (fun r e => Ev.sk1 ?_) (fun i r hlt e => Ev.sk1 ?_) (r := ((((), (), x.2.2.1, x.2.2.2.1, x.2.2.2.2.1, x.2.2.2.2.2.1, ()), ()), (x.1, x.2.1, ()))) ?_)
    · show Ev (fun k => impl_ownBlock.l1_ k (impl_ownBlock.l0 k) (impl_ownBlock.l1 k) _ _ _ _ _ _ _ _ _ _ _ _ _ _ _) _
      simp only [impl_ownBlock.l1_, head_end, cond_false]
      exact e
    · show Ev (fun k => impl_ownBlock.l1_ k (impl_ownBlock.l0 k) (impl_ownBlock.l1 k) _ _ _ _ _ _ _ _ _ _ _ _ _ _ _) _
      simp only [impl_ownBlock.l1_, head_in hlt, head_0, Bool.and_self, cond_true, Int.toNat_natCast, getD_at _ _ _ hlt, wrap_nat (show i < 9223372036854775807 by omega)]
      refine Ev.bind (Ev.all fun k => implOwnInst k (h.2.1.2 _ (List.getElem_mem hlt)).2.2.2.2.2.2.1.1) (Ev.dp (len_push 72 (by decide) hi) ?_)
      simp only [← take_push hlt] at e
      exact e
    · simp only [List.take_length]
      exact Ev.cst rfl
theorem implOwnFunc {f : tFuncD} (h : Small tFunc f) : Ev (fun k => impl_ownFunc.f k f) ((((), f.2.1, (), ()), ()), (f.1, f.2.2.1, ())) := by
  have hb : f.2.2.1.length ≤ 1048576 := h.2.2.1.1
  unfold impl_ownFunc.f
  refine Ev.bind (Ev.all fun k => implClone k h.1.1) ?_
  refine (st_loop (n0 := f.2.2.1.length) (L := fun k a s => impl_ownFunc.l0 k f.2.2.1 (f.2.2.1.length : Int) a 0 [] [] f.2.1 f.1 s) (T := fun k s => some ((((), f.2.1, (), ()), ()), (f.1, s, ()))) (fun i => f.2.2.1.take i) (fun r e => Ev.sk1 ?_) (fun i r hlt e => Ev.sk1 ?_) ?_)
  · show Ev (fun k => impl_ownFunc.l0_ k (impl_ownFunc.l0 k) _ _ _ _ _ _ _ _ _) _
    simp only [impl_ownFunc.l0_, head_end, cond_false]
    exact e
  · show Ev (fun k => impl_ownFunc.l0_ k (impl_ownFunc.l0 k) _ _ _ _ _ _ _ _ _) _
    simp only [impl_ownFunc.l0_, head_in hlt, head_0, Bool.and_self, cond_true, Int.toNat_natCast, getD_at _ _ _ hlt, wrap_nat (show i < 9223372036854775807 by omega)]
    refine Ev.bind (implOwnBlock (h.2.2.1.2 _ (List.getElem_mem hlt))) (Ev.dp (len_push 80 (by decide) hb) ?_)
    simp only [← take_push hlt] at e
    exact e
  · simp only [List.take_length]
    exact Ev.cst rfl
theorem closI (k : Nat) {to : List Int} {i : Int} (h : okI to i) : impl_without_1.f k i to = some (one (subI to i)) := by
  unfold impl_without_1.f
  rw [okI_dec h]; rfl
theorem implEnd {to : List Int} {t : tTermD} (h : t.1 = 1 ∨ t.1 = 3 → okI to t.2.1) : Ev (fun k => impl_endRenamed.f k t to) (((subTerm to t, ()), ())) := by
  unfold impl_endRenamed.f subTerm impl_endNames.f
  by_cases h1 : t.1 = 1
  · rw [dpos h1]
    exact Ev.bind (Ev.cst rfl) (Ev.dp (by simp) (Ev.bind (Ev.all fun k => closI k (h (Or.inl h1))) (Ev.cst rfl)))
  · rw [dneg h1]
    by_cases h3 : t.1 = 3
    · rw [dpos h3]
      exact Ev.bind (Ev.cst rfl) (Ev.dp (by simp) (Ev.bind (Ev.all fun k => closI k (h (Or.inr h3))) (Ev.cst rfl)))
    · rw [dneg h3]
      exact Ev.bind (Ev.cst rfl) (Ev.dn (by simp) (Ev.cst rfl))
section
variable {to : List Int} {a3 a4 a5 a6 a7 a8 : Int} {a9 : List Int} {o w A B C m : Int} {args : List Int} {ops : List Int} {r : impl_renamed.R}
theorem ren_end (e : r = ((((o, w, A, B, C, m, (), ()), ()), (args, ())) : impl_renamed.R)) : Ev (fun k => impl_renamed.l1 k (ops.length : Int) (ops.length : Int) to a3 a4 a5 a6 a7 a8 a9 o w A B C m args ops) r := by
  refine Ev.sk1 ?_
  show Ev (fun k => impl_renamed.l1_ k (impl_renamed.l0 k) (impl_renamed.l1 k) _ _ _ _ _ _ _ _ _ _ _ _ _ _ _ _ _ _) _
  simp only [impl_renamed.l1_, head_end, cond_false]
  rw [e]; exact Ev.cst rfl
theorem ren_0 (h0 : 0 < ops.length) (ho : okI to (ops.getD 0 0)) (e : Ev (fun k => impl_renamed.l1 k (ops.length : Int) 1 to a3 a4 a5 a6 a7 a8 a9 o w (subI to (ops.getD 0 0)) B C m args ops) r) : Ev (fun k => impl_renamed.l1 k (ops.length : Int) 0 to a3 a4 a5 a6 a7 a8 a9 o w A B C m args ops) r := by
  refine Ev.sk1 ?_
  show Ev (fun k => impl_renamed.l1_ k (impl_renamed.l0 k) (impl_renamed.l1 k) _ _ _ _ _ _ _ _ _ _ _ _ _ _ _ _ _ _) _
  unfold impl_renamed.l1_
  exact Ev.dp (by omega) (Ev.dd (by omega) (by omega) (Ev.dd (by omega) (by decide) (Ev.dp (by decide) (Ev.bind (Ev.all fun k => closI k ho) e))))
theorem ren_1 (h0 : 1 < ops.length) (ho : okI to (ops.getD 1 0)) (e : Ev (fun k => impl_renamed.l1 k (ops.length : Int) 2 to a3 a4 a5 a6 a7 a8 a9 o w A (subI to (ops.getD 1 0)) C m args ops) r) : Ev (fun k => impl_renamed.l1 k (ops.length : Int) 1 to a3 a4 a5 a6 a7 a8 a9 o w A B C m args ops) r := by
  refine Ev.sk1 ?_
  show Ev (fun k => impl_renamed.l1_ k (impl_renamed.l0 k) (impl_renamed.l1 k) _ _ _ _ _ _ _ _ _ _ _ _ _ _ _ _ _ _) _
  unfold impl_renamed.l1_
  exact Ev.dp (by omega) (Ev.dd (by omega) (by omega) (Ev.dd (by omega) (by decide) (Ev.dn (by decide) (Ev.dp (by decide) (Ev.bind (Ev.all fun k => closI k ho) e)))))
theorem ren_2 (h0 : 2 < ops.length) (ho : okI to (ops.getD 2 0)) (e : Ev (fun k => impl_renamed.l1 k (ops.length : Int) 3 to a3 a4 a5 a6 a7 a8 a9 o w A B (subI to (ops.getD 2 0)) m args ops) r) : Ev (fun k => impl_renamed.l1 k (ops.length : Int) 2 to a3 a4 a5 a6 a7 a8 a9 o w A B C m args ops) r := by
  refine Ev.sk1 ?_
  show Ev (fun k => impl_renamed.l1_ k (impl_renamed.l0 k) (impl_renamed.l1 k) _ _ _ _ _ _ _ _ _ _ _ _ _ _ _ _ _ _) _
  unfold impl_renamed.l1_
  exact Ev.dp (by omega) (Ev.dd (by omega) (by omega) (Ev.dd (by omega) (by decide) (Ev.dn (by decide) (Ev.dn (by decide) (Ev.dp (by decide) (Ev.bind (Ev.all fun k => closI k ho) e))))))
end
theorem implRen {to : List Int} {i : tInstD} (hs : i.2.2.2.2.2.2.1.length ≤ 1048576) (ho : ∀ id ∈ opsB i, okI to id) : Ev (fun k => impl_renamed.f k i to) (instR (subInst to i)) := by
  unfold impl_renamed.f
  refine Ev.bind (Ev.all fun k => implOwnInst k hs) ?_
  by_cases h26 : i.1 = 26
  · refine Ev.dp h26 ?_
    have ho' : ∀ id ∈ i.2.2.2.2.2.2.1, okI to id := by
      have : opsB i = i.2.2.2.2.2.2.1 := by unfold opsB inB; rw [h26]; rfl
      rw [← this]; exact ho
    have e : instR (subInst to i) = (((i.1, i.2.1, i.2.2.1, i.2.2.2.1, i.2.2.2.2.1, i.2.2.2.2.2.1, (), ()), ()), (i.2.2.2.2.2.2.1.map (subI to), ())) := by unfold subInst; rw [dpos h26]; rfl
    rw [e]
    refine st_loop (n0 := i.2.2.2.2.2.2.1.length) (L := fun k a s => impl_renamed.l0 k i.2.2.2.2.2.2.1 (i.2.2.2.2.2.2.1.length : Int) a to 0 0 0 0 0 0 [] i.1 i.2.1 i.2.2.1 i.2.2.2.1 i.2.2.2.2.1 i.2.2.2.2.2.1 s) (T := fun k s => some (((i.1, i.2.1, i.2.2.1, i.2.2.2.1, i.2.2.2.2.1, i.2.2.2.2.2.1, (), ()), ()), (s, ()))) (updS (subI to) i.2.2.2.2.2.2.1) (fun r e => Ev.sk1 ?_) (fun j r hlt e => Ev.sk1 ?_) ?_
    · show Ev (fun k => impl_renamed.l0_ k (impl_renamed.l0 k) (impl_renamed.l1 k) _ _ _ _ _ _ _ _ _ _ _ _ _ _ _ _ _ _) _
      simp only [impl_renamed.l0_, head_end, cond_false]
      exact e
    · show Ev (fun k => impl_renamed.l0_ k (impl_renamed.l0 k) (impl_renamed.l1 k) _ _ _ _ _ _ _ _ _ _ _ _ _ _ _ _ _ _) _
      simp only [impl_renamed.l0_, updS_len, head_in hlt, head_0, Bool.and_self, cond_true, Int.toNat_natCast, getD_at _ _ _ hlt, wrap_nat (show j < 9223372036854775807 by omega), fun k => closI k (ho' _ (List.getElem_mem hlt)), Option.bind_some]
      simp only [← updS_set (subI to) hlt] at e
      exact e
    · rw [updS_end]; exact Ev.cst rfl
  · refine Ev.dn h26 (Ev.bind (Ev.all fun k => implOps k hs) ?_)
    have e : subInst to i = (i.1, i.2.1, bif decide (0 < (opsB i).length) then subI to i.2.2.1 else i.2.2.1, bif decide (1 < (opsB i).length) then subI to i.2.2.2.1 else i.2.2.2.1, bif decide (2 < (opsB i).length) then subI to i.2.2.2.2.1 else i.2.2.2.2.1, i.2.2.2.2.2.1, i.2.2.2.2.2.2.1, ()) := by unfold subInst; rw [dneg h26]; rfl
    rw [e]
    rcases ops_forms h26 with h | h | h | h <;> rw [h] at ho ⊢
    · exact ren_end (ops := []) rfl
    · exact ren_0 (ops := [i.2.2.1]) (by simp) (ho _ (by simp)) (ren_end (ops := [i.2.2.1]) rfl)
    · exact ren_0 (ops := [i.2.2.1, i.2.2.2.1]) (by simp) (ho _ (by simp)) (ren_1 (ops := [i.2.2.1, i.2.2.2.1]) (by simp) (ho _ (by simp)) (ren_end (ops := [i.2.2.1, i.2.2.2.1]) rfl))
    · exact ren_0 (ops := [i.2.2.1, i.2.2.2.1, i.2.2.2.2.1]) (by simp) (ho _ (by simp)) (ren_1 (ops := [i.2.2.1, i.2.2.2.1, i.2.2.2.2.1]) (by simp) (ho _ (by simp)) (ren_2 (ops := [i.2.2.1, i.2.2.2.1, i.2.2.2.2.1]) (by simp) (ho _ (by simp)) (ren_end (ops := [i.2.2.1, i.2.2.2.1, i.2.2.2.2.1]) rfl)))
/-! ### substituted -/
def subB1 (to : List Int) (x : tBlockD) : tBlockD := (x.1.map (subPhi to), x.2.1.map (subInst to), x.2.2)
def subB2 (to : List Int) (x : tBlockD) : tBlockD := (x.1, x.2.1, subTerm to x.2.2)
section
variable {to : List Int} {r : impl_substituted.R} {a0 b n : Int} {a5 : Int} {a6 : List Int} {a7 : List tBlockD} {a8 : Int} {a9 : List Int} {a10 : List tBlockD} {a11 : Nat} {a12 a13 a14 a15 : Int}
theorem implPhiLoop {p : Nat} {phis : List tPhiD} {w w' : Int} {ins : List Int} {insts : List tInstD} {t1 t2 t3 t4 : Int} (hp : p ≤ 1048576) (hl : ins.length ≤ 1048576) (ho : ∀ id ∈ ins, okI to id)
    (e : Ev (fun k => impl_substituted.l1 k a0 b n ((p + 1 : Nat) : Int) to a5 a6 a7 a8 a9 a10 a11 a12 a13 a14 a15 (phis.set p (w, ins.map (subI to), ())) insts t1 t2 t3 t4) r) :
    Ev (fun k => impl_substituted.l2 k a0 b n (p : Int) (ins.length : Int) 0 to a5 a6 a7 a8 a9 a10 a11 a12 a13 a14 a15 phis p w ins insts t1 t2 t3 t4 w') r := by
  refine st_loop (n0 := ins.length) (L := fun k a s => impl_substituted.l2 k a0 b n (p : Int) (ins.length : Int) a to a5 a6 a7 a8 a9 a10 a11 a12 a13 a14 a15 phis p w s insts t1 t2 t3 t4 w') (T := fun k s => impl_substituted.l1 k a0 b n ((p + 1 : Nat) : Int) to a5 a6 a7 a8 a9 a10 a11 a12 a13 a14 a15 (phis.set p (w, s, ())) insts t1 t2 t3 t4) (updS (subI to) ins) (fun r e => Ev.sk1 ?_) (fun j r hlt e => Ev.sk1 ?_) ?_
  · show Ev (fun k => impl_substituted.l2_ k (impl_substituted.l0 k) (impl_substituted.l1 k) (impl_substituted.l2 k) (impl_substituted.l3 k) (impl_substituted.l4 k) _ _ _ _ _ _ _ _ _ _ _ _ _ _ _ _ _ _ _ _ _ _ _ _ _ _ _ _) _
    simp only [impl_substituted.l2_, head_end, cond_false, wrap_nat (show p < 9223372036854775807 by omega)]
    exact e
  · show Ev (fun k => impl_substituted.l2_ k (impl_substituted.l0 k) (impl_substituted.l1 k) (impl_substituted.l2 k) (impl_substituted.l3 k) (impl_substituted.l4 k) _ _ _ _ _ _ _ _ _ _ _ _ _ _ _ _ _ _ _ _ _ _ _ _ _ _ _ _) _
    simp only [impl_substituted.l2_, updS_len, head_in hlt, head_0, Bool.and_self, cond_true, Int.toNat_natCast, decide_true, updS_get (subI to) 0 hlt, wrap_nat (show j < 9223372036854775807 by omega), fun k => closI k (ho _ (List.getElem_mem hlt)), Option.bind_some]
    simp only [← updS_set (subI to) hlt] at e
    exact e
  · rw [updS_end]; exact e
theorem implPhisS {phis : List tPhiD} {insts : List tInstD} {t1 t2 t3 t4 : Int} (hl : Small (.list tPhi) phis) (ho : ∀ p ∈ phis, ∀ id ∈ p.2.1, okI to id)
    (e : Ev (fun k => impl_substituted.l3 k a0 b (insts.length : Int) 0 to a5 a6 a7 a8 a9 a10 a11 a12 a13 a14 a15 (phis.map (subPhi to)) insts t1 t2 t3 t4) r) :
    Ev (fun k => impl_substituted.l1 k a0 b (phis.length : Int) 0 to a5 a6 a7 a8 a9 a10 a11 a12 a13 a14 a15 phis insts t1 t2 t3 t4) r := by
  have hl1 : phis.length ≤ 1048576 := hl.1
  refine st_loop (n0 := phis.length) (L := fun k a s => impl_substituted.l1 k a0 b (phis.length : Int) a to a5 a6 a7 a8 a9 a10 a11 a12 a13 a14 a15 s insts t1 t2 t3 t4) (T := fun k s => impl_substituted.l3 k a0 b (insts.length : Int) 0 to a5 a6 a7 a8 a9 a10 a11 a12 a13 a14 a15 s insts t1 t2 t3 t4) (updS (subPhi to) phis) (fun r e => Ev.sk1 ?_) (fun j r hlt e => Ev.sk1 ?_) ?_
  · show Ev (fun k => impl_substituted.l1_ k (impl_substituted.l0 k) (impl_substituted.l1 k) (impl_substituted.l2 k) (impl_substituted.l3 k) (impl_substituted.l4 k) _ _ _ _ _ _ _ _ _ _ _ _ _ _ _ _ _ _ _ _ _ _) _
    simp only [impl_substituted.l1_, head_end, cond_false]
    exact e
  · show Ev (fun k => impl_substituted.l1_ k (impl_substituted.l0 k) (impl_substituted.l1 k) (impl_substituted.l2 k) (impl_substituted.l3 k) (impl_substituted.l4 k) _ _ _ _ _ _ _ _ _ _ _ _ _ _ _ _ _ _ _ _ _ _) _
    simp only [impl_substituted.l1_, updS_len, head_in hlt, head_0, Bool.and_self, cond_true, Int.toNat_natCast, decide_true, updS_get (subPhi to) _ hlt]
    refine implPhiLoop (by omega) (hl.2 _ (List.getElem_mem hlt)).2.1.1 (ho _ (List.getElem_mem hlt)) ?_
    simp only [← updS_set (subPhi to) hlt] at e
    exact e
  · rw [updS_end]; exact e
theorem implInstsS {i : Nat} {phis : List tPhiD} {insts : List tInstD} {t1 t2 t3 t4 : Int} (hi : i ≤ 1048576) (hl : Small (.list tInst) insts) (ho : ∀ x ∈ insts, ∀ id ∈ opsB x, okI to id)
    (e : Ev (fun k => impl_substituted.l0 k a0 ((i + 1 : Nat) : Int) to a5 a6 a7 a8 a9 (a10.set i (phis, insts.map (subInst to), a12, a13, a14, a15, ()))) r) :
    Ev (fun k => impl_substituted.l3 k a0 (i : Int) (insts.length : Int) 0 to a5 a6 a7 a8 a9 a10 i a12 a13 a14 a15 phis insts t1 t2 t3 t4) r := by
  have hl1 : insts.length ≤ 1048576 := hl.1
  refine st_loop (n0 := insts.length) (L := fun k a s => impl_substituted.l3 k a0 (i : Int) (insts.length : Int) a to a5 a6 a7 a8 a9 a10 i a12 a13 a14 a15 phis s t1 t2 t3 t4) (T := fun k s => impl_substituted.l0 k a0 ((i + 1 : Nat) : Int) to a5 a6 a7 a8 a9 (a10.set i (phis, s, a12, a13, a14, a15, ()))) (updS (subInst to) insts) (fun r e => Ev.sk1 ?_) (fun j r hlt e => Ev.sk1 ?_) ?_
  · show Ev (fun k => impl_substituted.l3_ k (impl_substituted.l0 k) (impl_substituted.l1 k) (impl_substituted.l2 k) (impl_substituted.l3 k) (impl_substituted.l4 k) _ _ _ _ _ _ _ _ _ _ _ _ _ _ _ _ _ _ _ _ _ _) _
    simp only [impl_substituted.l3_, head_end, cond_false, wrap_nat (show i < 9223372036854775807 by omega)]
    exact e
  · show Ev (fun k => impl_substituted.l3_ k (impl_substituted.l0 k) (impl_substituted.l1 k) (impl_substituted.l2 k) (impl_substituted.l3 k) (impl_substituted.l4 k) _ _ _ _ _ _ _ _ _ _ _ _ _ _ _ _ _ _ _ _ _ _) _
    simp only [impl_substituted.l3_, updS_len, head_in hlt, head_0, Bool.and_self, cond_true, Int.toNat_natCast, decide_true, updS_get (subInst to) _ hlt, wrap_nat (show j < 9223372036854775807 by omega)]
    refine Ev.bind (implRen (hl.2 _ (List.getElem_mem hlt)).2.2.2.2.2.2.1.1 (ho _ (List.getElem_mem hlt))) ?_
    simp only [← updS_set (subInst to) hlt] at e
    exact e
  · rw [updS_end]; exact e
end
theorem implSubst {to : List Int} {f : tFuncD} (h : SubOK to f) : Ev (fun k => impl_substituted.f k f to) ((((), f.2.1, (), ()), ()), (f.1, f.2.2.1.map (subB to), ())) := by
  have hb : f.2.2.1.length ≤ 1048576 := h.sm.2.2.1.1
  unfold impl_substituted.f
  refine Ev.bind (implOwnFunc h.sm) ?_
  refine st_loop (n0 := f.2.2.1.length) (L := fun k a s => impl_substituted.l0 k (f.2.2.1.length : Int) a to 0 [] [] f.2.1 f.1 s) (T := fun k s => impl_substituted.l4 k (s.length : Int) 0 to 0 [] [] f.2.1 f.1 s) (updS (subB1 to) f.2.2.1) (fun r e => Ev.sk1 ?_) (fun j r hlt e => Ev.sk1 ?_) ?_
  · show Ev (fun k => impl_substituted.l0_ k (impl_substituted.l0 k) (impl_substituted.l1 k) (impl_substituted.l2 k) (impl_substituted.l3 k) (impl_substituted.l4 k) _ _ _ _ _ _ _ _ _) _
    simp only [impl_substituted.l0_, head_end, cond_false]
    exact e
  · show Ev (fun k => impl_substituted.l0_ k (impl_substituted.l0 k) (impl_substituted.l1 k) (impl_substituted.l2 k) (impl_substituted.l3 k) (impl_substituted.l4 k) _ _ _ _ _ _ _ _ _) _
    simp only [impl_substituted.l0_, updS_len, head_in hlt, head_0, Bool.and_self, cond_true, Int.toNat_natCast, decide_true, updS_get (subB1 to) _ hlt]
    obtain ⟨q1, q2, q3, q4⟩ := h.bl _ (List.getElem_mem hlt)
    refine implPhisS q1.1 q2 (implInstsS (by omega) q1.2.1 q3 ?_)
    simp only [← updS_set (subB1 to) hlt] at e
    exact e
  · rw [updS_end]
    have e0 : f.2.2.1.map (subB to) = (f.2.2.1.map (subB1 to)).map (subB2 to) := by rw [List.map_map]; rfl
    have hl : (f.2.2.1.map (subB1 to)).length = f.2.2.1.length := List.length_map _
    have ht : ∀ x ∈ f.2.2.1.map (subB1 to), x.2.2.1 = 1 ∨ x.2.2.1 = 3 → okI to x.2.2.2.1 := fun x hx => by
      obtain ⟨y, hy, rfl⟩ := List.mem_map.1 hx
      exact (h.bl y hy).2.2.2
    rw [e0]
    generalize f.2.2.1.map (subB1 to) = bs at hl ht ⊢
    refine st_loop (n0 := bs.length) (L := fun k a s => impl_substituted.l4 k (bs.length : Int) a to 0 [] [] f.2.1 f.1 s) (T := fun k s => some ((((), f.2.1, (), ()), ()), (f.1, s, ()))) (updS (subB2 to) bs) (fun r e => Ev.sk1 ?_) (fun j r hlt e => Ev.sk1 ?_) ?_
    · show Ev (fun k => impl_substituted.l4_ k (impl_substituted.l0 k) (impl_substituted.l1 k) (impl_substituted.l2 k) (impl_substituted.l3 k) (impl_substituted.l4 k) _ _ _ _ _ _ _ _ _) _
      simp only [impl_substituted.l4_, head_end, cond_false]
      exact e
    · show Ev (fun k => impl_substituted.l4_ k (impl_substituted.l0 k) (impl_substituted.l1 k) (impl_substituted.l2 k) (impl_substituted.l3 k) (impl_substituted.l4 k) _ _ _ _ _ _ _ _ _) _
      simp only [impl_substituted.l4_, updS_len, head_in hlt, head_0, Bool.and_self, cond_true, Int.toNat_natCast, decide_true, updS_get (subB2 to) _ hlt, wrap_nat (show j < 9223372036854775807 by omega)]
      refine Ev.bind (implEnd (ht _ (List.getElem_mem hlt))) ?_
      simp only [← updS_set (subB2 to) hlt] at e
      exact e
    · rw [updS_end]; exact Ev.cst rfl
end Go.Proofs.YtkfehogikjcgkaaGreat.V
namespace Go.Proofs.YtkfehogikjcgkaaGreat.V
open Go
set_option linter.unusedVariables false
set_option linter.unusedSimpArgs false
theorem Fm.subOK {funcs : Int} {f : tFuncD} (h : Fm funcs f) (hs : Small tFunc f) {to : List Int} (ht : (to.length : Int) = cntB f) : SubOK to f where
  sm := hs
  bl := fun x hx => ⟨hs.2.2.1.2 x hx, fun p hp id hi => by
      have := h.vp hx hp hi
      exact ⟨this.1, by rw [ht]; exact this.2⟩, fun i hi id ho => by
      have := (h.vo hx hi).2 id ho
      exact ⟨this.1, by rw [ht]; exact this.2⟩, fun ht1 => by
      have := h.vt hx ht1
      exact ⟨this.1, by rw [ht]; exact this.2⟩⟩
theorem subInst_args (to : List Int) (i : tInstD) : (subInst to i).2.2.2.2.2.2.1.length = i.2.2.2.2.2.2.1.length := by
  unfold subInst
  cases decide (i.1 = 26)
  · rfl
  · exact List.length_map _
theorem subB_small {to : List Int} {x : tBlockD} (h : Small tBlock x) : Small tBlock (subB to x) := by
  refine ⟨⟨by show (x.1.map (subPhi to)).length ≤ _; rw [List.length_map]; exact h.1.1, fun p hp => ?_⟩, ⟨by show (x.2.1.map (subInst to)).length ≤ _; rw [List.length_map]; exact h.2.1.1, fun i hi => ?_⟩, h.2.2⟩
  · obtain ⟨q, hq, rfl⟩ := List.mem_map.1 (show p ∈ x.1.map (subPhi to) from hp)
    exact ⟨trivial, ⟨by show (q.2.1.map (subI to)).length ≤ _; rw [List.length_map]; exact (h.1.2 q hq).2.1.1, fun _ _ => trivial⟩, trivial⟩
  · obtain ⟨q, hq, rfl⟩ := List.mem_map.1 (show i ∈ x.2.1.map (subInst to) from hi)
    exact ⟨trivial, trivial, trivial, trivial, trivial, trivial, ⟨by show (subInst to q).2.2.2.2.2.2.1.length ≤ _; rw [subInst_args]; exact (h.2.1.2 q hq).2.2.2.2.2.2.1.1, fun _ _ => trivial⟩, trivial⟩
theorem subF_small {to : List Int} {f : tFuncD} (h : Small tFunc f) : Small tFunc (subF to f) := by
  refine ⟨h.1, trivial, ⟨by show (f.2.2.1.map (subB to)).length ≤ _; rw [List.length_map]; exact h.2.2.1.1, fun x hx => ?_⟩, trivial⟩
  obtain ⟨y, hy, rfl⟩ := List.mem_map.1 (show x ∈ f.2.2.1.map (subB to) from hx)
  exact subB_small (h.2.2.1.2 y hy)
/-- A function and whether there is one, as it is returned. -/
abbrev fR (c : Bool) (g : tFuncD) : (((Unit × Int × Unit × Unit) × (Bool × Unit) × Unit) × ((List Int) × (List tBlockD) × Unit)) := ((((), g.2.1, (), ()), (c, ()), ()), (g.1, g.2.2.1, ()))
def noF : tFuncD := ([], 0, [], ())
theorem noF_small : Small tFunc noF := ⟨⟨by show (0:Nat) ≤ _; omega, fun _ h => by cases h⟩, trivial, ⟨by show (0:Nat) ≤ _; omega, fun _ h => by cases h⟩, trivial⟩
end Go.Proofs.YtkfehogikjcgkaaGreat.V
namespace Go.Proofs.YtkfehogikjcgkaaGreat.V
open Go
set_option linter.unusedVariables false
set_option linter.unusedSimpArgs false
section
variable {α : Type}
/-- Each element with its number. -/
def tagL : Nat → List α → List (Int × α)
  | _, [] => []
  | n, x :: l => ((n : Int), x) :: tagL (n + 1) l
theorem tagL_len : ∀ (n : Nat) (l : List α), (tagL n l).length = l.length
  | _, [] => rfl
  | n, x :: l => by simp only [tagL, List.length_cons, tagL_len (n + 1) l]
theorem tagL_app : ∀ (n : Nat) (a b : List α), tagL n (a ++ b) = tagL n a ++ tagL (n + a.length) b
  | n, [], b => rfl
  | n, x :: a, b => by
    simp only [List.cons_append, tagL, tagL_app (n + 1) a b, List.length_cons]
    rw [show n + 1 + a.length = n + (a.length + 1) by omega]
theorem tagL_push (n : Nat) {l : List α} {i : Nat} (h : i < l.length) : tagL n (l.take i) ++ [(((n + i : Nat) : Int), l[i])] = tagL n (l.take (i + 1)) := by
  rw [← take_push h, tagL_app]
  have : (l.take i).length = i := by rw [List.length_take]; omega
  rw [this]; rfl
theorem tagL_mem {q : Int × α} : ∀ {n : Nat} {l : List α}, q ∈ tagL n l → q.2 ∈ l ∧ (n : Int) ≤ q.1 ∧ q.1 < ((n + l.length : Nat) : Int)
  | n, [], h => by cases h
  | n, x :: l, h => by
    simp only [tagL] at h
    rcases List.mem_cons.1 h with rfl | h
    · simp only [List.length_cons]
      exact ⟨List.mem_cons_self, Int.le_refl _, by omega⟩
    · obtain ⟨a, b, c⟩ := tagL_mem h
      simp only [List.length_cons]
      exact ⟨List.mem_cons_of_mem _ a, by omega, by omega⟩
def keepP (ids : List Int) (q : Int × α) : Bool := !decide (q.1 ∈ ids)
def keepT (ids : List Int) (n : Nat) (l : List α) : List (Int × α) := (tagL n l).filter (keepP ids)
def keepL (ids : List Int) (n : Nat) (l : List α) : List α := (keepT ids n l).map fun q => q.2
theorem keepT_len (ids : List Int) (n : Nat) (l : List α) : (keepT ids n l).length ≤ l.length := Nat.le_trans (List.length_filter_le _ _) (Nat.le_of_eq (tagL_len n l))
theorem keepL_len (ids : List Int) (n : Nat) (l : List α) : (keepL ids n l).length ≤ l.length := by unfold keepL; rw [List.length_map]; exact keepT_len ids n l
theorem keepL_mem {ids : List Int} {n : Nat} {l : List α} {x : α} (h : x ∈ keepL ids n l) : x ∈ l := by
  obtain ⟨q, hq, rfl⟩ := List.mem_map.1 h
  exact (tagL_mem (List.mem_filter.1 hq).1).1
theorem keepL_skip {ids : List Int} {n : Nat} {l : List α} {i : Nat} (h : i < l.length) (hm : ((n + i : Nat) : Int) ∈ ids) : keepL ids n (l.take i) = keepL ids n (l.take (i + 1)) := by
  unfold keepL keepT
  rw [← tagL_push n h, List.filter_append]
  have : List.filter (keepP ids) [(((n + i : Nat) : Int), l[i])] = [] := by
    rw [List.filter_cons, if_neg (by show ¬ (!decide (((n + i : Nat) : Int) ∈ ids)) = true; rw [dpos hm]; decide)]; rfl
  rw [this, List.append_nil]
theorem keepL_push {ids : List Int} {n : Nat} {l : List α} {i : Nat} (h : i < l.length) (hm : ((n + i : Nat) : Int) ∉ ids) : keepL ids n (l.take i) ++ [l[i]] = keepL ids n (l.take (i + 1)) := by
  unfold keepL keepT
  rw [← tagL_push n h, List.filter_append]
  have : List.filter (keepP ids) [(((n + i : Nat) : Int), l[i])] = [(((n + i : Nat) : Int), l[i])] := by
    rw [List.filter_cons, if_pos (by show (!decide (((n + i : Nat) : Int) ∈ ids)) = true; rw [dneg hm]; rfl)]; rfl
  rw [this, List.map_append]; rfl
theorem filt_skip {p : α → Bool} {l : List α} {i : Nat} (h : i < l.length) (hp : p l[i] = false) : (l.take i).filter p = (l.take (i + 1)).filter p := by
  rw [← take_push h, List.filter_append, List.filter_cons, if_neg (by rw [hp]; decide)]
  exact (List.append_nil _).symm
theorem filt_push {p : α → Bool} {l : List α} {i : Nat} (h : i < l.length) (hp : p l[i] = true) : (l.take i).filter p ++ [l[i]] = (l.take (i + 1)).filter p := by
  rw [← take_push h, List.filter_append, List.filter_cons, if_pos hp]; rfl
end
/-! ### blocks -/
def wN (x : tBlockD) : Nat := x.1.length + x.2.1.length
def sumN : List tBlockD → Nat
  | [] => 0
  | x :: l => wN x + sumN l
theorem sumB_N : ∀ l : List tBlockD, sumB wB l = (sumN l : Int)
  | [] => rfl
  | x :: l => by
    simp only [sumB, sumN, sumB_N l, wB, wN]
    omega
theorem sumN_app : ∀ a b : List tBlockD, sumN (a ++ b) = sumN a + sumN b
  | [], b => by simp [sumN]
  | x :: a, b => by simp only [List.cons_append, sumN, sumN_app a b]; omega
theorem sumN_take {l : List tBlockD} {i : Nat} (h : i < l.length) : sumN (l.take (i + 1)) = sumN (l.take i) + wN l[i] := by
  rw [← take_push h, sumN_app]; simp [sumN]
theorem sumN_take_le (l : List tBlockD) (i : Nat) : sumN (l.take i) ≤ sumN l := by
  have := sumN_app (l.take i) (l.drop i)
  rw [List.take_append_drop] at this
  omega
def cntN (f : tFuncD) : Nat := f.1.length + sumN f.2.2.1
theorem cntN_eq (f : tFuncD) : cntB f = (cntN f : Int) := by
  rw [cntB_eq, sumB_N]; unfold cntN; omega
def fstN (f : tFuncD) (i : Nat) : Nat := f.1.length + sumN (f.2.2.1.take i)
theorem fstN_succ {f : tFuncD} {i : Nat} (h : i < f.2.2.1.length) : fstN f (i + 1) = fstN f i + wN f.2.2.1[i] := by
  unfold fstN; rw [sumN_take h]; omega
theorem fstN_le (f : tFuncD) (i : Nat) : fstN f i ≤ cntN f := by
  have := sumN_take_le f.2.2.1 i
  unfold fstN cntN; omega
theorem fstN_end (f : tFuncD) : fstN f f.2.2.1.length = cntN f := by unfold fstN cntN; rw [List.take_length]
section
variable {β γ : Type}
/-- Each block with the number of its first id. -/
def mapB (g : Nat → tBlockD → β) : Nat → List tBlockD → List β
  | _, [] => []
  | n, x :: l => g n x :: mapB g (n + wN x) l
theorem mapB_app (g : Nat → tBlockD → β) : ∀ (n : Nat) (a b : List tBlockD), mapB g n (a ++ b) = mapB g n a ++ mapB g (n + sumN a) b
  | n, [], b => by simp [mapB, sumN]
  | n, x :: a, b => by
    simp only [List.cons_append, mapB, mapB_app g (n + wN x) a b, sumN]
    rw [show n + wN x + sumN a = n + (wN x + sumN a) by omega]
theorem mapB_push (g : Nat → tBlockD → β) {n : Nat} {l : List tBlockD} {i : Nat} (h : i < l.length) : mapB g n (l.take i) ++ [g (n + sumN (l.take i)) l[i]] = mapB g n (l.take (i + 1)) := by
  rw [← take_push h, mapB_app]; rfl
theorem mapB_len (g : Nat → tBlockD → β) : ∀ (n : Nat) (l : List tBlockD), (mapB g n l).length = l.length
  | _, [] => rfl
  | n, x :: l => by simp only [mapB, List.length_cons, mapB_len g _ l]
theorem mapB_get (g : Nat → tBlockD → β) : ∀ (n : Nat) (l : List tBlockD) (i : Nat) (h : i < l.length) (h' : i < (mapB g n l).length), (mapB g n l)[i] = g (n + sumN (l.take i)) l[i]
  | n, x :: l, 0, h, h' => by simp [mapB, sumN]
  | n, x :: l, i + 1, h, h' => by
    have ih := mapB_get g (n + wN x) l i (by simpa using h) (by rw [mapB_len]; simpa using h)
    simp only [mapB, List.getElem_cons_succ, ih, List.take_succ_cons, sumN]
    rw [show n + wN x + sumN (l.take i) = n + (wN x + sumN (l.take i)) by omega]
theorem mapB_map (g : Nat → tBlockD → β) (h : β → γ) : ∀ (n : Nat) (l : List tBlockD), (mapB g n l).map h = mapB (fun n x => h (g n x)) n l
  | _, [] => rfl
  | n, x :: l => by simp only [mapB, List.map_cons, mapB_map g h _ l]
theorem mapB_mem {g : Nat → tBlockD → β} {y : β} : ∀ {n : Nat} {l : List tBlockD}, y ∈ mapB g n l → ∃ m x, x ∈ l ∧ y = g m x
  | n, [], h => by cases h
  | n, x :: l, h => by
    simp only [mapB] at h
    rcases List.mem_cons.1 h with rfl | h
    · exact ⟨n, x, List.mem_cons_self, rfl⟩
    · obtain ⟨m, y', a, b⟩ := mapB_mem h
      exact ⟨m, y', List.mem_cons_of_mem _ a, b⟩
end
def keepB (ids : List Int) (n : Nat) (x : tBlockD) : tBlockD := (keepL ids n x.1, keepL ids (n + x.1.length) x.2.1, x.2.2)
def keepBs (ids : List Int) (f : tFuncD) : List tBlockD := mapB (keepB ids) f.1.length f.2.2.1
def keepF (ids : List Int) (f : tFuncD) : tFuncD := (f.1, f.2.1, keepBs ids f, ())
theorem keepB_small {ids : List Int} {n : Nat} {x : tBlockD} (h : Small tBlock x) : Small tBlock (keepB ids n x) :=
  ⟨⟨Nat.le_trans (keepL_len ids n x.1) h.1.1, fun p hp => h.1.2 p (keepL_mem (show p ∈ keepL ids n x.1 from hp))⟩, ⟨Nat.le_trans (keepL_len ids _ x.2.1) h.2.1.1, fun i hi => h.2.1.2 i (keepL_mem (show i ∈ keepL ids (n + x.1.length) x.2.1 from hi))⟩, h.2.2⟩
theorem keepF_small {ids : List Int} {f : tFuncD} (h : Small tFunc f) : Small tFunc (keepF ids f) := by
  refine ⟨h.1, trivial, ⟨by show (keepBs ids f).length ≤ _; unfold keepBs; rw [mapB_len]; exact h.2.2.1.1, fun y hy => ?_⟩, trivial⟩
  obtain ⟨m, x, hx, rfl⟩ := mapB_mem (show y ∈ mapB (keepB ids) f.1.length f.2.2.1 from hy)
  exact keepB_small (h.2.2.1.2 x hx)
theorem keepF_ok {ids : List Int} {funcs : Int} {f : tFuncD} (h : Fm funcs f) (hs : Small tFunc f) {to : List Int} (ht : (to.length : Int) = cntB f) : SubOK to (keepF ids f) where
  sm := keepF_small hs
  bl := fun y hy => by
    obtain ⟨m, x, hx, rfl⟩ := mapB_mem (show y ∈ mapB (keepB ids) f.1.length f.2.2.1 from hy)
    have o := (h.subOK hs ht).bl x hx
    exact ⟨keepB_small o.1, fun p hp => o.2.1 p (keepL_mem hp), fun i hi => o.2.2.1 i (keepL_mem hi), o.2.2.2⟩
/-! ### the ids that a block names -/
def endA (t : tTermD) : List Int := bif decide (t.1 = 1) then [t.2.1] else bif decide (t.1 = 3) then [t.2.1] else []
def namesB (y : tBlockD) : List Int := y.1.flatMap (fun p => p.2.1) ++ (y.2.1.flatMap opsB ++ endA y.2.2)
theorem subI_map {t u : List Int} {l : List Int} (h : ∀ id ∈ l, subI t id = subI u id) : l.map (subI t) = l.map (subI u) := List.map_congr_left h
theorem subInst_congr {t u : List Int} {i : tInstD} (h : ∀ id ∈ opsB i, subI t id = subI u id) : subInst t i = subInst u i := by
  by_cases h26 : i.1 = 26
  · have ho : opsB i = i.2.2.2.2.2.2.1 := by unfold opsB inB; rw [h26]; rfl
    unfold subInst
    rw [dpos h26, cond_true, cond_true, ← ho, subI_map h]
  · unfold subInst
    rw [dneg h26, cond_false, cond_false]
    rcases ops_forms h26 with e | e | e | e <;> rw [e] at h ⊢
    · rfl
    · have a := h i.2.2.1 (by simp)
      simp [a]
    · have a := h i.2.2.1 (by simp)
      have b := h i.2.2.2.1 (by simp)
      simp [a, b]
    · have a := h i.2.2.1 (by simp)
      have b := h i.2.2.2.1 (by simp)
      have c := h i.2.2.2.2.1 (by simp)
      simp [a, b, c]
theorem subB_congr {t u : List Int} {y : tBlockD} (h : ∀ id ∈ namesB y, subI t id = subI u id) : subB t y = subB u y := by
  unfold subB
  have h1 : y.1.map (subPhi t) = y.1.map (subPhi u) := List.map_congr_left fun p hp => by
    unfold subPhi
    rw [subI_map fun id hi => h id (List.mem_append_left _ (List.mem_flatMap.2 ⟨p, hp, hi⟩))]
  have h2 : y.2.1.map (subInst t) = y.2.1.map (subInst u) := List.map_congr_left fun i hi => subInst_congr fun id ho => h id (List.mem_append_right _ (List.mem_append_left _ (List.mem_flatMap.2 ⟨i, hi, ho⟩)))
  have h3 : subTerm t y.2.2 = subTerm u y.2.2 := by
    unfold subTerm
    have he : ∀ id ∈ endA y.2.2, subI t id = subI u id := fun id hi => h id (List.mem_append_right _ (List.mem_append_right _ hi))
    unfold endA at he
    by_cases c1 : y.2.2.1 = 1
    · rw [dpos c1] at he ⊢
      have := he _ (List.mem_singleton.2 rfl)
      simp [this]
    · rw [dneg c1] at he ⊢
      by_cases c3 : y.2.2.1 = 3
      · rw [dpos c3] at he ⊢
        have := he _ (List.mem_singleton.2 rfl)
        simp [this]
      · rw [dneg c3]; rfl
  rw [h1, h2, h3]
/-! ### the new numbers -/
def goneN (p : Nat) (ids : List Int) (n : Nat) : Bool := decide (p ≤ n) && decide ((n : Int) ∈ ids)
/-- How many are kept before a place. -/
def cntK (p : Nat) (ids : List Int) : Nat → Nat
  | 0 => 0
  | n + 1 => cntK p ids n + (bif goneN p ids n then 0 else 1)
theorem cntK_le (p : Nat) (ids : List Int) : ∀ n, cntK p ids n ≤ n
  | 0 => Nat.le_refl _
  | n + 1 => by
    have := cntK_le p ids n
    simp only [cntK]
    cases goneN p ids n <;> simp only [cond_true, cond_false] <;> omega
theorem cntK_params (p : Nat) (ids : List Int) : ∀ n, n ≤ p → cntK p ids n = n
  | 0, _ => rfl
  | n + 1, h => by
    have := cntK_params p ids n (by omega)
    simp only [cntK, this, goneN, dneg (show ¬ p ≤ n by omega), Bool.false_and, cond_false]
/-- The new numbers up to a place; 0 for what is gone, and behind the place. -/
def toS (p : Nat) (ids : List Int) (c m : Nat) : List Int := (List.range c).map fun j => if j < m ∧ goneN p ids j = false then (cntK p ids j : Int) else 0
def toN (p : Nat) (ids : List Int) (c : Nat) : List Int := (List.range c).map fun j => (cntK p ids j : Int)
theorem toS_len (p : Nat) (ids : List Int) (c m : Nat) : (toS p ids c m).length = c := by unfold toS; rw [List.length_map, List.length_range]
theorem toN_len (p : Nat) (ids : List Int) (c : Nat) : (toN p ids c).length = c := by unfold toN; rw [List.length_map, List.length_range]
theorem toS_at {p : Nat} {ids : List Int} {c m i : Nat} (h : i < (toS p ids c m).length) : (toS p ids c m)[i] = if i < m ∧ goneN p ids i = false then (cntK p ids i : Int) else 0 := by simp [toS]
theorem toN_at {p : Nat} {ids : List Int} {c i : Nat} (h : i < (toN p ids c).length) : (toN p ids c)[i] = (cntK p ids i : Int) := by simp [toN]
theorem toS_0 (p : Nat) (ids : List Int) (c : Nat) : toS p ids c 0 = List.replicate c 0 := by
  unfold toS
  refine List.ext_getElem (by simp) fun i h1 h2 => ?_
  simp
theorem toS_set {p : Nat} {ids : List Int} {c m : Nat} (hm : m < c) (hg : goneN p ids m = false) : (toS p ids c m).set m (cntK p ids m : Int) = toS p ids c (m + 1) := by
  refine List.ext_getElem (by rw [List.length_set, toS_len, toS_len]) fun i h1 h2 => ?_
  rw [List.getElem_set, toS_at, toS_at]
  by_cases e : m = i
  · subst e
    rw [if_pos rfl, if_pos ⟨by omega, hg⟩]
  · rw [if_neg e]
    by_cases c1 : i < m
    · have : i < m + 1 := by omega
      simp [c1, this]
    · have : ¬ i < m + 1 := by omega
      simp [c1, this]
theorem toS_skip {p : Nat} {ids : List Int} {c m : Nat} (hg : goneN p ids m = true) : toS p ids c m = toS p ids c (m + 1) := by
  refine List.map_congr_left fun i _ => ?_
  by_cases e : m = i
  · subst e
    simp [hg]
  · by_cases c1 : i < m
    · have : i < m + 1 := by omega
      simp [c1, this]
    · have : ¬ i < m + 1 := by omega
      simp [c1, this]
theorem sub_same {p : Nat} {ids : List Int} {c : Nat} {id : Int} (h0 : 0 ≤ id) (h1 : id < (c : Int)) (hn : id ∉ ids) : subI (toS p ids c c) id = subI (toN p ids c) id := by
  unfold subI
  have hlt : id.toNat < c := by omega
  rw [getD_at _ _ _ (by rw [toS_len]; exact hlt), getD_at _ _ _ (by rw [toN_len]; exact hlt)]
  have hg : goneN p ids id.toNat = false := by
    unfold goneN
    rw [show ((id.toNat : Nat) : Int) = id by omega, dneg hn, Bool.and_false]
  rw [toS_at, toN_at, if_pos ⟨hlt, hg⟩]
end Go.Proofs.YtkfehogikjcgkaaGreat.V
namespace Go.Proofs.YtkfehogikjcgkaaGreat.V
open Go
set_option linter.unusedVariables false
set_option linter.unusedSimpArgs false
theorem implHasW (l : List Int) (n : Int) (h : l.length ≤ 1048576) : Ev (fun k => slices_Contains_int64_int64.f k l n) (one (decide (n ∈ l))) := by
  have := index_ev (z := 0) (l := l) (p := fun x => decide (n = x)) (L := fun k b a => slices_Index_int64_int64.l0 k l n b a) (q := fun k x => some (one (decide (n = x)))) (by omega) (fun k b a => rfl) (fun x _ => Ev.cst rfl)
  refine this.rw ?_
  congr 1
  rw [Bool.eq_iff_iff, List.any_eq_true, decide_eq_true_eq]
  constructor
  · rintro ⟨x, hx, e⟩
    simp only [decide_eq_true_eq] at e
    rw [e]; exact hx
  · intro hm
    exact ⟨n, hm, by simp⟩
theorem implGone (ids : List Int) (n : Int) (h : ids.length ≤ 1048576) : Ev (fun k => impl_Without_1.f k n ids) (one (decide (n ∈ ids))) := Ev.bind (implHasW ids n h) (Ev.cst rfl)
theorem implFirstN {funcs : Int} {f : tFuncD} (hf : Fm funcs f) {b : Nat} (hb : b < f.2.2.1.length) : Ev (fun k => impl_firstOf.f k f (b : Int)) (one (fstN f b : Int)) := by
  have h4 := hf.p4
  have h10 := hf.b10
  have e : (fstN f b : Int) = (f.1.length : Int) + sumB wB (f.2.2.1.take b) := by rw [sumB_N]; unfold fstN; omega
  rw [e]
  unfold impl_firstOf.f
  refine Ev.pos (by rw [dpos (show (0 : Nat) ≤ 0 by omega), dpos (show 0 ≤ (b : Int) by omega), dpos (show (b : Int) ≤ (f.2.2.1.length : Int) by omega)]; rfl) ?_
  rw [Int.toNat_natCast]
  exact acc_ev (L := fun k a i => impl_firstOf.l0 k a (f.2.2.1.take b) ((List.length (f.2.2.1.take b) : Nat) : Int) i) (l := f.2.2.1.take b) (w := wB) (fun x hx => ⟨wB_nonneg x, by have := hf.w60 (List.mem_of_mem_take hx); omega⟩) (by rw [List.length_take]; omega) (fun k a i hi => by
      show impl_firstOf.l0_ k (impl_firstOf.l0 k) a _ _ i = _
      unfold impl_firstOf.l0_
      have hlen : (f.2.2.1.take b).length ≤ 10 := by rw [List.length_take]; omega
      simp only [head_in hi, head_0, Bool.and_self, cond_true, get_in hi, wrap_nat (show i < 9223372036854775807 by omega)]
      rfl) (fun k a => by
      show impl_firstOf.l0_ k (impl_firstOf.l0 k) a _ _ _ = _
      unfold impl_firstOf.l0_
      simp only [head_end, cond_false]) (by omega) (by omega)
theorem len_cap {α : Type} {l : List α} {x : α} {b : Nat} (hb : b ≤ 100) (h : l.length ≤ 1048576) : (List.length l + List.length [x]) * b ≤ 140737488355328 := by
  have h1 : List.length l + List.length [x] ≤ 1048577 := by simp only [List.length_cons, List.length_nil]; omega
  exact Nat.le_trans (Nat.mul_le_mul h1 hb) (by decide)
section
variable {funcs : Int} {f : tFuncD} {ids : List Int} {r : impl_without.R}
theorem implWo3 (hi : ids.length ≤ 1048576) {bl : List tBlockD} {a2 : Int} {b n : Nat} (hb : b ≤ 1048576) (hn : n ≤ 1048576) {a9 : Int} {a10 : List Int} {a11 : List tBlockD} {a12 a13 : List Int} {a14 : Int} {a15 : List tBlockD} (h15 : a15.length ≤ 1048576) {t1 t2 t3 t4 : Int} {ps : List tPhiD} {l : List tInstD} (hl : l.length ≤ 1048576)
    (e : Ev (fun k => impl_without.l1 k bl a2 ((b + 1 : Nat) : Int) ids f a9 a10 a11 a12 a13 a14 (a15 ++ [(ps, keepL ids n l, t1, t2, t3, t4, ())])) r) :
    Ev (fun k => impl_without.l3 k (n : Int) bl a2 (b : Int) l (l.length : Int) 0 ids f a9 a10 a11 a12 a13 a14 a15 t1 t2 t3 t4 ps []) r := by
  refine st_loop (σ := Int × List tInstD) (n0 := l.length) (L := fun k a s => impl_without.l3 k s.1 bl a2 (b : Int) l (l.length : Int) a ids f a9 a10 a11 a12 a13 a14 a15 t1 t2 t3 t4 ps s.2) (T := fun k s => impl_without.l1 k bl a2 ((b + 1 : Nat) : Int) ids f a9 a10 a11 a12 a13 a14 (a15 ++ [(ps, s.2, t1, t2, t3, t4, ())])) (fun i => (((n + i : Nat) : Int), keepL ids n (l.take i))) (fun r e => Ev.sk1 ?_) (fun i r hlt e => Ev.sk1 ?_) ?_
  · show Ev (fun k => impl_without.l3_ k (impl_without.l0 k) (impl_without.l1 k) (impl_without.l2 k) (impl_without.l3 k) _ _ _ _ _ _ _ _ _ _ _ _ _ _ _ _ _ _ _ _ _ _) _
    simp only [impl_without.l3_, head_end, cond_false, wrap_nat (show b < 9223372036854775807 by omega)]
    exact Ev.dp (len_cap (by decide) h15) e
  · show Ev (fun k => impl_without.l3_ k (impl_without.l0 k) (impl_without.l1 k) (impl_without.l2 k) (impl_without.l3 k) _ _ _ _ _ _ _ _ _ _ _ _ _ _ _ _ _ _ _ _ _ _) _
    simp only [impl_without.l3_, head_in hlt, head_0, Bool.and_self, cond_true, Int.toNat_natCast, getD_at _ _ _ hlt, wrap_nat (show i < 9223372036854775807 by omega), wrap_nat (show n + i < 9223372036854775807 by omega)]
    refine Ev.bind (implGone ids _ hi) ?_
    have hk : (keepL ids n (l.take i)).length ≤ 1048576 := Nat.le_trans (keepL_len _ _ _) (by rw [List.length_take]; omega)
    by_cases hm : ((n + i : Nat) : Int) ∈ ids
    · refine Ev.neg (by rw [dpos hm]; rfl) ?_
      simp only [← keepL_skip hlt hm] at e
      exact e
    · refine Ev.pos (by rw [dneg hm]; rfl) (Ev.dp (len_cap (by decide) hk) ?_)
      simp only [← keepL_push hlt hm] at e
      exact e
  · simp only [List.take_length]; exact e
theorem implWo2 (hi : ids.length ≤ 1048576) {bl : List tBlockD} {a2 : Int} {b n : Nat} (hb : b ≤ 1048576) (hn : n ≤ 524288) {a9 : Int} {a10 : List Int} {a11 : List tBlockD} {a12 a13 : List Int} {a14 : Int} {a15 : List tBlockD} (h15 : a15.length ≤ 1048576) {x : tBlockD} {t1 t2 t3 t4 : Int} (hl : x.1.length ≤ 524288) (hl2 : x.2.1.length ≤ 524288)
    (e : Ev (fun k => impl_without.l1 k bl a2 ((b + 1 : Nat) : Int) ids f a9 a10 a11 a12 a13 a14 (a15 ++ [(keepL ids n x.1, keepL ids (n + x.1.length) x.2.1, t1, t2, t3, t4, ())])) r) :
    Ev (fun k => impl_without.l2 k (n : Int) bl a2 (b : Int) x.1 (x.1.length : Int) 0 ids f a9 a10 a11 a12 a13 a14 a15 x t1 t2 t3 t4 [] []) r := by
  refine st_loop (σ := Int × List tPhiD) (n0 := x.1.length) (L := fun k a s => impl_without.l2 k s.1 bl a2 (b : Int) x.1 (x.1.length : Int) a ids f a9 a10 a11 a12 a13 a14 a15 x t1 t2 t3 t4 s.2 []) (T := fun k s => impl_without.l3 k s.1 bl a2 (b : Int) x.2.1 (x.2.1.length : Int) 0 ids f a9 a10 a11 a12 a13 a14 a15 t1 t2 t3 t4 s.2 []) (fun i => (((n + i : Nat) : Int), keepL ids n (x.1.take i))) (fun r e => Ev.sk1 ?_) (fun i r hlt e => Ev.sk1 ?_) ?_
  · show Ev (fun k => impl_without.l2_ k (impl_without.l0 k) (impl_without.l1 k) (impl_without.l2 k) (impl_without.l3 k) _ _ _ _ _ _ _ _ _ _ _ _ _ _ _ _ _ _ _ _ _ _ _) _
    simp only [impl_without.l2_, head_end, cond_false]
    exact e
  · show Ev (fun k => impl_without.l2_ k (impl_without.l0 k) (impl_without.l1 k) (impl_without.l2 k) (impl_without.l3 k) _ _ _ _ _ _ _ _ _ _ _ _ _ _ _ _ _ _ _ _ _ _ _) _
    simp only [impl_without.l2_, head_in hlt, head_0, Bool.and_self, cond_true, Int.toNat_natCast, getD_at _ _ _ hlt, wrap_nat (show i < 9223372036854775807 by omega), wrap_nat (show n + i < 9223372036854775807 by omega)]
    refine Ev.bind (implGone ids _ hi) ?_
    have hk : (keepL ids n (x.1.take i)).length ≤ 1048576 := Nat.le_trans (keepL_len _ _ _) (by rw [List.length_take]; omega)
    by_cases hm : ((n + i : Nat) : Int) ∈ ids
    · refine Ev.neg (by rw [dpos hm]; rfl) ?_
      simp only [← keepL_skip hlt hm] at e
      exact e
    · refine Ev.pos (by rw [dneg hm]; rfl) (Ev.dp (len_cap (by decide) hk) ?_)
      simp only [← keepL_push hlt hm] at e
      exact e
  · simp only [List.take_length]
    exact implWo3 hi hb (n := n + x.1.length) (by omega) h15 (by omega) e
theorem range_push {β : Type} (g : Nat → β) (n : Nat) : (List.range n).map g ++ [g n] = (List.range (n + 1)).map g := by rw [List.range_succ, List.map_append]; rfl
theorem implWithout (hf : Fm funcs f) (hs : Small tFunc f) (hi : ids.length ≤ 1048576) (hge : ∀ id ∈ ids, (f.1.length : Int) ≤ id) : Ev (fun k => impl_without.f k f ids) ((((), f.2.1, (), ()), ()), (f.1, (keepBs ids f).map (subB (toN f.1.length ids (cntN f))), ())) := by
  have hcnt : cntN f ≤ 60 := by have := hf.cnt; rw [cntN_eq] at this; omega
  have h10 := hf.b10
  unfold impl_without.f
  refine Ev.bind (implCount hs) ?_
  show Ev (fun k => impl_without.l0 k 0 (cntB f) 0 ids f 0 [] [] []) _
  rw [cntN_eq]
  refine st_loop (σ := Int × List Int) (n0 := cntN f) (L := fun k a s => impl_without.l0 k s.1 (cntN f : Int) a ids f 0 [] [] s.2) (T := fun k s => impl_without.l1 k f.2.2.1 (f.2.2.1.length : Int) 0 ids f 0 [] [] s.2 f.1 f.2.1 []) (fun i => ((cntK f.1.length ids i : Int), (List.range i).map fun j => (cntK f.1.length ids j : Int))) (fun r e => Ev.sk1 ?_) (fun i r hlt e => Ev.sk1 ?_) ?_
  · show Ev (fun k => impl_without.l0_ k (impl_without.l0 k) (impl_without.l1 k) (impl_without.l2 k) (impl_without.l3 k) _ _ _ _ _ _ _ _ _) _
    simp only [impl_without.l0_, dneg (Int.lt_irrefl _), cond_false]
    exact e
  · show Ev (fun k => impl_without.l0_ k (impl_without.l0 k) (impl_without.l1 k) (impl_without.l2 k) (impl_without.l3 k) _ _ _ _ _ _ _ _ _) _
    have hk := cntK_le f.1.length ids i
    simp only [impl_without.l0_, dpos (show (i : Int) < (cntN f : Int) by omega), cond_true, wrap_nat (show i < 9223372036854775807 by omega), wrap_nat (show cntK f.1.length ids i < 9223372036854775807 by omega)]
    refine Ev.dp (len_cap (by decide) (by rw [List.length_map, List.length_range]; omega)) (Ev.bind (implGone ids _ hi) ?_)
    simp only [← range_push] at e
    have hg : goneN f.1.length ids i = decide ((i : Int) ∈ ids) := by
      unfold goneN
      by_cases hm : (i : Int) ∈ ids
      · rw [dpos hm, dpos (by have := hge _ hm; omega)]; rfl
      · rw [dneg hm, Bool.and_false]
    by_cases hm : (i : Int) ∈ ids
    · refine Ev.neg (by rw [dpos hm]; rfl) ?_
      simp only [cntK, hg, dpos hm, cond_true, Nat.add_zero] at e
      exact e
    · refine Ev.pos (by rw [dneg hm]; rfl) ?_
      simp only [cntK, hg, dneg hm, cond_false] at e
      exact e
  · show Ev (fun k => impl_without.l1 k f.2.2.1 (f.2.2.1.length : Int) 0 ids f 0 [] [] (toN f.1.length ids (cntN f)) f.1 f.2.1 []) _
    refine st_loop (n0 := f.2.2.1.length) (L := fun k a s => impl_without.l1 k f.2.2.1 (f.2.2.1.length : Int) a ids f 0 [] [] (toN f.1.length ids (cntN f)) f.1 f.2.1 s) (T := fun k s => Option.bind (impl_substituted.f k (f.1, f.2.1, s, ()) (toN f.1.length ids (cntN f))) fun r2 => some ((((), r2.1.1.2.1, (), ()), ()), (r2.2.1, r2.2.2.1, ()))) (fun i => mapB (keepB ids) f.1.length (f.2.2.1.take i)) (fun r e => Ev.sk1 ?_) (fun i r hlt e => Ev.sk1 ?_) ?_
    · show Ev (fun k => impl_without.l1_ k (impl_without.l0 k) (impl_without.l1 k) (impl_without.l2 k) (impl_without.l3 k) _ _ _ _ _ _ _ _ _ _ _ _) _
      simp only [impl_without.l1_, head_end, cond_false]
      exact e
    · show Ev (fun k => impl_without.l1_ k (impl_without.l0 k) (impl_without.l1 k) (impl_without.l2 k) (impl_without.l3 k) _ _ _ _ _ _ _ _ _ _ _ _) _
      have hmem := List.getElem_mem hlt
      obtain ⟨w1, w2⟩ := hf.phis hmem
      have hfst := fstN_le f i
      simp only [impl_without.l1_, head_in hlt, head_0, Bool.and_self, cond_true, Int.toNat_natCast, getD_at _ _ _ hlt]
      refine Ev.bind (implFirstN hf hlt) (implWo2 hi (by omega) (by omega) (by rw [mapB_len, List.length_take]; omega) (by omega) (by omega) ?_)
      simp only [← mapB_push (keepB ids) hlt] at e
      exact e
    · simp only [List.take_length]
      exact Ev.bind (implSubst (keepF_ok (ids := ids) hf hs (by rw [toN_len, cntN_eq]))) (Ev.cst rfl)
end
end Go.Proofs.YtkfehogikjcgkaaGreat.V
namespace Go.Proofs.YtkfehogikjcgkaaGreat.V
open Go
set_option linter.unusedVariables false
set_option linter.unusedSimpArgs false
theorem len_capS {α : Type} {l : List α} {x : α} {b : Nat} (hb : b ≤ 100) (h : l.length ≤ 1048576) : (List.length l + List.length [x]) * b ≤ 140737488355328 := by
  have h1 : List.length l + List.length [x] ≤ 1048577 := by simp only [List.length_cons, List.length_nil]; omega
  exact Nat.le_trans (Nat.mul_le_mul h1 hb) (by decide)
theorem specHas (l : List Int) (n : Int) (h : l.length ≤ 1048576) : Ev (fun k => spec_l1Has.f k l n) (one (decide (n ∈ l))) := by
  refine each_ev (z := 0) (L := fun k a => spec_l1Has.l0 k l n a) (V := fun m => one (decide (n ∈ m))) (q := fun k x g => bif decide (x = n) then some (((true, ()), ()), ()) else g k) (by omega) (fun k a => rfl) (Ev.cst (by simp)) fun x m g hx hg => ?_
  by_cases c : x = n
  · exact Ev.dp c (Ev.cst (by simp [c]))
  · refine Ev.dn c (hg.rw ?_)
    congr 1
    simp [Ne.symm c]
/-! ### l8Open -/
def openB (n : Nat) (x : tBlockD) : tl8BD := (tagL n x.1, tagL (n + x.1.length) x.2.1, x.2.2)
def openBs (f : tFuncD) : List tl8BD := mapB openB f.1.length f.2.2.1
section
variable {f : tFuncD} {r : spec_l8Open.R}
theorem specOpen2 {n b : Nat} (hn : n ≤ 1048576) (hb : b ≤ 1048576) {a4 : List tl8BD} (h4 : a4.length ≤ 1048576) {x : tBlockD} {t1 t2 t3 t4 : Int} {ps : List tl8PD} (hl : x.2.1.length ≤ 1048576)
    (e : Ev (fun k => spec_l8Open.l0 k ((n + x.2.1.length : Nat) : Int) ((b + 1 : Nat) : Int) f (a4 ++ [(ps, tagL n x.2.1, t1, t2, t3, t4, ())])) r) :
    Ev (fun k => spec_l8Open.l2 k (n : Int) (b : Int) 0 f a4 x t1 t2 t3 t4 ps []) r := by
  refine st_loop (σ := Int × List tl8ID) (n0 := x.2.1.length) (L := fun k a s => spec_l8Open.l2 k s.1 (b : Int) a f a4 x t1 t2 t3 t4 ps s.2) (T := fun k s => spec_l8Open.l0 k s.1 ((b + 1 : Nat) : Int) f (a4 ++ [(ps, s.2, t1, t2, t3, t4, ())])) (fun i => (((n + i : Nat) : Int), tagL n (x.2.1.take i))) (fun r e => Ev.sk1 ?_) (fun i r hlt e => Ev.sk1 ?_) ?_
  · show Ev (fun k => spec_l8Open.l2_ k (spec_l8Open.l0 k) (spec_l8Open.l1 k) (spec_l8Open.l2 k) _ _ _ _ _ _ _ _ _ _ _ _) _
    simp only [spec_l8Open.l2_, head_end, cond_false, wrap_nat (show b < 9223372036854775807 by omega)]
    exact Ev.dp (len_capS (by decide) h4) e
  · show Ev (fun k => spec_l8Open.l2_ k (spec_l8Open.l0 k) (spec_l8Open.l1 k) (spec_l8Open.l2 k) _ _ _ _ _ _ _ _ _ _ _ _) _
    simp only [spec_l8Open.l2_, head_in hlt, head_0, Bool.and_self, cond_true, Int.toNat_natCast, getD_at _ _ _ hlt, wrap_nat (show i < 9223372036854775807 by omega), wrap_nat (show n + i < 9223372036854775807 by omega)]
    refine Ev.dp (len_capS (by decide) (by rw [tagL_len, List.length_take]; omega)) ?_
    simp only [← tagL_push n hlt] at e
    exact e
  · simp only [List.take_length]; exact e
theorem specOpen1 {n b : Nat} (hn : n ≤ 524288) (hb : b ≤ 1048576) {a4 : List tl8BD} (h4 : a4.length ≤ 1048576) {phis : List tPhiD} {insts : List tInstD} {t1 t2 t3 t4 : Int} (hl : phis.length ≤ 524288) (hl2 : insts.length ≤ 1048576)
    (e : Ev (fun k => spec_l8Open.l0 k ((n + phis.length + insts.length : Nat) : Int) ((b + 1 : Nat) : Int) f (a4 ++ [(tagL n phis, tagL (n + phis.length) insts, t1, t2, t3, t4, ())])) r) :
    Ev (fun k => spec_l8Open.l1 k (n : Int) (b : Int) 0 f a4 phis t1 t2 t3 t4 insts t1 t2 t3 t4 [] []) r := by
  refine st_loop (σ := Int × List tl8PD) (n0 := phis.length) (L := fun k a s => spec_l8Open.l1 k s.1 (b : Int) a f a4 phis t1 t2 t3 t4 insts t1 t2 t3 t4 s.2 []) (T := fun k s => spec_l8Open.l2 k s.1 (b : Int) 0 f a4 (phis, insts, t1, t2, t3, t4, ()) t1 t2 t3 t4 s.2 []) (fun i => (((n + i : Nat) : Int), tagL n (phis.take i))) (fun r e => Ev.sk1 ?_) (fun i r hlt e => Ev.sk1 ?_) ?_
  · show Ev (fun k => spec_l8Open.l1_ k (spec_l8Open.l0 k) (spec_l8Open.l1 k) (spec_l8Open.l2 k) _ _ _ _ _ _ _ _ _ _ _ _ _ _ _ _ _) _
    simp only [spec_l8Open.l1_, head_end, cond_false]
    exact e
  · show Ev (fun k => spec_l8Open.l1_ k (spec_l8Open.l0 k) (spec_l8Open.l1 k) (spec_l8Open.l2 k) _ _ _ _ _ _ _ _ _ _ _ _ _ _ _ _ _) _
    simp only [spec_l8Open.l1_, head_in hlt, head_0, Bool.and_self, cond_true, Int.toNat_natCast, getD_at _ _ _ hlt, wrap_nat (show i < 9223372036854775807 by omega), wrap_nat (show n + i < 9223372036854775807 by omega)]
    refine Ev.dp (len_capS (by decide) (by rw [tagL_len, List.length_take]; omega)) ?_
    simp only [← tagL_push n hlt] at e
    exact e
  · simp only [List.take_length]
    exact specOpen2 (n := n + phis.length) (x := (phis, insts, t1, t2, t3, t4, ())) (by omega) hb h4 hl2 e
end
theorem specOpen {funcs : Int} {f : tFuncD} (hf : Fm funcs f) (hs : Small tFunc f) : Ev (fun k => spec_l8Open.f k f) (rowR (openBs f)) := by
  have hcnt : cntN f ≤ 60 := by have := hf.cnt; rw [cntN_eq] at this; omega
  have h10 := hf.b10
  unfold spec_l8Open.f
  refine st_loop (σ := Int × List tl8BD) (n0 := f.2.2.1.length) (L := fun k a s => spec_l8Open.l0 k s.1 a f s.2) (T := fun k s => some ((((), ()), ()), (s.2, ()))) (fun i => ((fstN f i : Int), mapB openB f.1.length (f.2.2.1.take i))) (fun r e => Ev.sk1 ?_) (fun i r hlt e => Ev.sk1 ?_) ?_
  · show Ev (fun k => spec_l8Open.l0_ k (spec_l8Open.l0 k) (spec_l8Open.l1 k) (spec_l8Open.l2 k) _ _ _ _) _
    simp only [spec_l8Open.l0_, head_end, cond_false]
    exact e
  · show Ev (fun k => spec_l8Open.l0_ k (spec_l8Open.l0 k) (spec_l8Open.l1 k) (spec_l8Open.l2 k) _ _ _ _) _
    have hmem := List.getElem_mem hlt
    obtain ⟨w1, w2⟩ := hf.phis hmem
    have hfst := fstN_le f i
    simp only [spec_l8Open.l0_, head_in hlt, head_0, Bool.and_self, cond_true, Int.toNat_natCast, getD_at _ _ _ hlt]
    refine Ev.bind (specCopyBlock (hs.2.2.1.2 _ hmem)) (specOpen1 (phis := (f.2.2.1[i]).1) (insts := (f.2.2.1[i]).2.1) (by omega) (by omega) (by rw [mapB_len, List.length_take]; omega) (by omega) (by omega) ?_)
    simp only [← mapB_push openB hlt, fstN_succ hlt, wN, ← Nat.add_assoc] at e
    exact e
  · simp only [List.take_length]
    exact Ev.cst rfl
/-! ### l8Left -/
theorem dr_loop {α R : Type} (l : List α) {L : Nat → Int → Option R} (V : List α → R) (hend : Ev (fun k => L k (l.length : Int)) (V [])) (hstep : ∀ i (h : i < l.length), Ev (fun k => L k ((i + 1 : Nat) : Int)) (V (l.drop (i + 1))) → Ev (fun k => L k (i : Int)) (V (l[i] :: l.drop (i + 1)))) : Ev (fun k => L k 0) (V l) := by
  have := Ev.down (G := fun i k => L k (i : Int)) (V := fun i => V (l.drop i)) l.length (by rw [List.drop_length]; exact hend) (fun i hi ih => by
    rw [List.drop_eq_getElem_cons hi]
    exact hstep i hi ih) 0 (Nat.zero_le _)
  exact this
def leftP (ids : List Int) (id : Int) (q : Int × tPhiD) : Bool := !decide (q.1 ∈ ids) && decide (id ∈ q.2.2.1)
def leftI (ids : List Int) (id : Int) (q : Int × tInstD) : Bool := !decide (q.1 ∈ ids) && decide (id ∈ opsB q.2)
def leftO (ids : List Int) (id : Int) (y : tl8BD) : Bool := y.1.any (leftP ids id) || (y.2.1.any (leftI ids id) || decide (id ∈ endA y.2.2))
structure OkO (y : tl8BD) : Prop where
  p : y.1.length ≤ 1048576
  i : y.2.1.length ≤ 1048576
  pl : ∀ q ∈ y.1, q.2.2.1.length ≤ 1048576
  il : ∀ q ∈ y.2.1, q.2.2.2.2.2.2.2.1.length ≤ 1048576 ∧ (opsB q.2).length ≤ 1048576
section
variable {ids : List Int} {id : Int} {bs : List tl8BD} {y : tl8BD} {b : Nat} {rest : Bool}
theorem specLeft2 (hi : ids.length ≤ 1048576) (hb : b ≤ 1048576) (hy : OkO y) (h : Ev (fun k => spec_l8Left.l0 k id ids ((b + 1 : Nat) : Int) bs) (one rest)) :
    Ev (fun k => spec_l8Left.l2 k id ids (b : Int) 0 bs y) (one (y.2.1.any (leftI ids id) || (decide (id ∈ endA y.2.2) || rest))) := by
  have hlen := hy.i
  refine dr_loop (R := BR) y.2.1 (L := fun k a => spec_l8Left.l2 k id ids (b : Int) a bs y) (fun m => one (m.any (leftI ids id) || (decide (id ∈ endA y.2.2) || rest))) (Ev.sk1 ?_) (fun i hlt e => Ev.sk1 ?_)
  · show Ev (fun k => spec_l8Left.l2_ k (spec_l8Left.l0 k) (spec_l8Left.l1 k) (spec_l8Left.l2 k) _ _ _ _ _ _) _
    simp only [spec_l8Left.l2_, head_end, cond_false, wrap_nat (show b < 9223372036854775807 by omega), List.any_nil, Bool.false_or]
    have hu : endA y.2.2 = bif decide (y.2.2.1 = 1) then [y.2.2.2.1] else bif decide (y.2.2.1 = 3) then [y.2.2.2.1] else [] := rfl
    by_cases c1 : y.2.2.1 = 1
    · rw [hu, dpos c1]
      refine Ev.pos rfl ?_
      by_cases c : y.2.2.2.1 = id
      · exact Ev.dp c (Ev.cst (by simp [c]))
      · refine Ev.dn c (h.rw ?_)
        have : id ∉ [y.2.2.2.1] := by simpa using fun e => c e.symm
        simp [Ne.symm c]
    · rw [hu, dneg c1]
      refine Ev.neg rfl ?_
      by_cases c3 : y.2.2.1 = 3
      · rw [dpos c3]
        refine Ev.pos rfl ?_
        by_cases c : y.2.2.2.1 = id
        · exact Ev.dp c (Ev.cst (by simp [c]))
        · refine Ev.dn c (h.rw ?_)
          simp [Ne.symm c]
      · rw [dneg c3]
        exact Ev.neg rfl (h.rw (by simp))
  · show Ev (fun k => spec_l8Left.l2_ k (spec_l8Left.l0 k) (spec_l8Left.l1 k) (spec_l8Left.l2 k) _ _ _ _ _ _) _
    have hmem := List.getElem_mem hlt
    simp only [spec_l8Left.l2_, head_in hlt, head_0, Bool.and_self, cond_true, Int.toNat_natCast, getD_at _ _ _ hlt, wrap_nat (show i < 9223372036854775807 by omega)]
    refine Ev.bind (specHas ids _ hi) ?_
    rw [List.any_cons]
    by_cases hm : (y.2.1[i]).1 ∈ ids
    · refine Ev.neg (by rw [dpos hm]; rfl) (e.rw ?_)
      have : leftI ids id y.2.1[i] = false := by unfold leftI; rw [dpos hm]; rfl
      rw [this, Bool.false_or]
    · refine Ev.pos (by rw [dneg hm]; rfl) (Ev.bind (Ev.all fun k => specOps k (hy.il _ hmem).1) (Ev.bind (specHas _ id (hy.il _ hmem).2) ?_))
      by_cases hx : id ∈ opsB (y.2.1[i]).2
      · have : leftI ids id y.2.1[i] = true := by unfold leftI; rw [dneg hm, dpos hx]; rfl
        exact Ev.pos (by rw [dpos hx]) (Ev.cst (by rw [this, Bool.true_or, Bool.true_or]))
      · have : leftI ids id y.2.1[i] = false := by unfold leftI; rw [dneg hx, Bool.and_false]
        exact Ev.neg (by rw [dneg hx]) (e.rw (by rw [this, Bool.false_or]))
theorem specLeft1 (hi : ids.length ≤ 1048576) (hb : b ≤ 1048576) (hy : OkO y) (h : Ev (fun k => spec_l8Left.l0 k id ids ((b + 1 : Nat) : Int) bs) (one rest)) :
    Ev (fun k => spec_l8Left.l1 k id ids (b : Int) 0 bs y) (one (leftO ids id y || rest)) := by
  have hlen := hy.p
  have e0 : (leftO ids id y || rest) = (y.1.any (leftP ids id) || (y.2.1.any (leftI ids id) || (decide (id ∈ endA y.2.2) || rest))) := by unfold leftO; rw [Bool.or_assoc, Bool.or_assoc]
  rw [e0]
  refine dr_loop (R := BR) y.1 (L := fun k a => spec_l8Left.l1 k id ids (b : Int) a bs y) (fun m => one (m.any (leftP ids id) || (y.2.1.any (leftI ids id) || (decide (id ∈ endA y.2.2) || rest)))) (Ev.sk1 ?_) (fun i hlt e => Ev.sk1 ?_)
  · show Ev (fun k => spec_l8Left.l1_ k (spec_l8Left.l0 k) (spec_l8Left.l1 k) (spec_l8Left.l2 k) _ _ _ _ _ _) _
    simp only [spec_l8Left.l1_, head_end, cond_false, List.any_nil, Bool.false_or]
    exact specLeft2 hi hb hy h
  · show Ev (fun k => spec_l8Left.l1_ k (spec_l8Left.l0 k) (spec_l8Left.l1 k) (spec_l8Left.l2 k) _ _ _ _ _ _) _
    have hmem := List.getElem_mem hlt
    simp only [spec_l8Left.l1_, head_in hlt, head_0, Bool.and_self, cond_true, Int.toNat_natCast, getD_at _ _ _ hlt, wrap_nat (show i < 9223372036854775807 by omega)]
    refine Ev.bind (specHas ids _ hi) ?_
    rw [List.any_cons]
    by_cases hm : (y.1[i]).1 ∈ ids
    · refine Ev.neg (by rw [dpos hm]; rfl) (e.rw ?_)
      have : leftP ids id y.1[i] = false := by unfold leftP; rw [dpos hm]; rfl
      rw [this, Bool.false_or]
    · refine Ev.pos (by rw [dneg hm]; rfl) (Ev.bind (specHas _ id (hy.pl _ hmem)) ?_)
      by_cases hx : id ∈ (y.1[i]).2.2.1
      · have : leftP ids id y.1[i] = true := by unfold leftP; rw [dneg hm, dpos hx]; rfl
        exact Ev.pos (by rw [dpos hx]) (Ev.cst (by rw [this, Bool.true_or, Bool.true_or]))
      · have : leftP ids id y.1[i] = false := by unfold leftP; rw [dneg hx, Bool.and_false]
        exact Ev.neg (by rw [dneg hx]) (e.rw (by rw [this, Bool.false_or]))
theorem specLeft0 (hi : ids.length ≤ 1048576) (hl : bs.length ≤ 1048576) (hy : ∀ y ∈ bs, OkO y) : Ev (fun k => spec_l8Left.l0 k id ids 0 bs) (one (bs.any (leftO ids id))) := by
  refine dr_loop (R := BR) bs (L := fun k a => spec_l8Left.l0 k id ids a bs) (fun m => one (m.any (leftO ids id))) (Ev.sk1 ?_) (fun i hlt e => Ev.sk1 ?_)
  · show Ev (fun k => spec_l8Left.l0_ k (spec_l8Left.l0 k) (spec_l8Left.l1 k) (spec_l8Left.l2 k) _ _ _ _) _
    simp only [spec_l8Left.l0_, head_end, cond_false]
    exact Ev.cst rfl
  · show Ev (fun k => spec_l8Left.l0_ k (spec_l8Left.l0 k) (spec_l8Left.l1 k) (spec_l8Left.l2 k) _ _ _ _) _
    simp only [spec_l8Left.l0_, head_in hlt, head_0, Bool.and_self, cond_true, Int.toNat_natCast, getD_at _ _ _ hlt]
    exact specLeft1 hi (by omega) (hy _ (List.getElem_mem hlt)) e
end
theorem openBs_ok {funcs : Int} {f : tFuncD} (hf : Fm funcs f) (hs : Small tFunc f) {y : tl8BD} (h : y ∈ openBs f) : OkO y := by
  obtain ⟨m, x, hx, rfl⟩ := mapB_mem (show y ∈ mapB openB f.1.length f.2.2.1 from h)
  have hsx := hs.2.2.1.2 x hx
  refine ⟨by show (tagL m x.1).length ≤ _; rw [tagL_len]; exact hsx.1.1, by show (tagL (m + x.1.length) x.2.1).length ≤ _; rw [tagL_len]; exact hsx.2.1.1, fun q hq => (hsx.1.2 _ (tagL_mem (show q ∈ tagL m x.1 from hq)).1).2.1.1, fun q hq => ?_⟩
  have hq2 := (tagL_mem (show q ∈ tagL (m + x.1.length) x.2.1 from hq)).1
  have hl := (hf.vo hx hq2).1
  refine ⟨(hsx.2.1.2 _ hq2).2.2.2.2.2.2.1.1, ?_⟩
  by_cases h26 : q.2.1 = 26
  · have ho : opsB q.2 = q.2.2.2.2.2.2.2.1 := by unfold opsB inB; rw [h26]; rfl
    rw [ho]; omega
  · rcases ops_forms h26 with e | e | e | e <;> rw [e] <;> simp
theorem specLeft {funcs : Int} {f : tFuncD} (hf : Fm funcs f) (hs : Small tFunc f) {ids : List Int} (hi : ids.length ≤ 1048576) (id : Int) : Ev (fun k => spec_l8Left.f k f id ids) (one ((openBs f).any (leftO ids id))) := by
  have h10 := hf.b10
  exact Ev.bind (specOpen hf hs) (specLeft0 hi (by show (openBs f).length ≤ _; unfold openBs; rw [mapB_len]; omega) fun y hy => openBs_ok hf hs hy)
end Go.Proofs.YtkfehogikjcgkaaGreat.V
namespace Go.Proofs.YtkfehogikjcgkaaGreat.V
open Go
set_option linter.unusedVariables false
set_option linter.unusedSimpArgs false
/-! ### the loop of l8Without -/
def keepO (ids : List Int) (y : tl8BD) : tl8BD := (y.1.filter (keepP ids), y.2.1.filter (keepP ids), y.2.2)
section
variable {ids : List Int} {bs a8 : List tl8BD} {b : Nat} {f : tFuncD} {a4 : Int} {a5 : List Int} {a6 : List tBlockD} {t1 t2 t3 t4 : Int} {r : spec_l8Without.R}
theorem specWo2 (hi : ids.length ≤ 1048576) (hbl : bs.length ≤ 1048576) (hb : b < bs.length) (h8 : a8.length ≤ 1048576) {ps : List tl8PD} (hl : (bs[b]).2.1.length ≤ 1048576)
    (e : Ev (fun k => spec_l8Without.l0 k ids ((b + 1 : Nat) : Int) f a4 a5 a6 bs (a8 ++ [(ps, (bs[b]).2.1.filter (keepP ids), t1, t2, t3, t4, ())])) r) :
    Ev (fun k => spec_l8Without.l2 k ids (b : Int) 0 f a4 a5 a6 bs a8 t1 t2 t3 t4 ps []) r := by
  refine st_loop (n0 := (bs[b]).2.1.length) (L := fun k a s => spec_l8Without.l2 k ids (b : Int) a f a4 a5 a6 bs a8 t1 t2 t3 t4 ps s) (T := fun k s => spec_l8Without.l0 k ids ((b + 1 : Nat) : Int) f a4 a5 a6 bs (a8 ++ [(ps, s, t1, t2, t3, t4, ())])) (fun i => ((bs[b]).2.1.take i).filter (keepP ids)) (fun r e => Ev.sk1 ?_) (fun i r hlt e => Ev.sk1 ?_) ?_
  · show Ev (fun k => spec_l8Without.l2_ k (spec_l8Without.l0 k) (spec_l8Without.l1 k) (spec_l8Without.l2 k) _ _ _ _ _ _ _ _ _ _ _ _ _ _ _) _
    simp only [spec_l8Without.l2_, head_in hb, head_0, head_end, Bool.and_self, cond_true, cond_false, Int.toNat_natCast, getD_at _ _ _ hb, wrap_nat (show b < 9223372036854775807 by omega)]
    exact Ev.dp (len_capS (by decide) h8) e
  · show Ev (fun k => spec_l8Without.l2_ k (spec_l8Without.l0 k) (spec_l8Without.l1 k) (spec_l8Without.l2 k) _ _ _ _ _ _ _ _ _ _ _ _ _ _ _) _
    simp only [spec_l8Without.l2_, head_in hb, head_in hlt, head_0, Bool.and_self, cond_true, Int.toNat_natCast, getD_at _ _ _ hb, getD_at _ _ _ hlt, wrap_nat (show i < 9223372036854775807 by omega)]
    refine Ev.bind (specHas ids _ hi) ?_
    have hk : (((bs[b]).2.1.take i).filter (keepP ids)).length ≤ 1048576 := Nat.le_trans (List.length_filter_le _ _) (by rw [List.length_take]; omega)
    by_cases hm : ((bs[b]).2.1[i]).1 ∈ ids
    · refine Ev.neg (by rw [dpos hm]; rfl) ?_
      simp only [← filt_skip (p := keepP ids) hlt (by unfold keepP; rw [dpos hm]; rfl)] at e
      exact e
    · refine Ev.pos (by rw [dneg hm]; rfl) (Ev.dp (len_capS (by decide) hk) ?_)
      simp only [← filt_push (p := keepP ids) hlt (by unfold keepP; rw [dneg hm]; rfl)] at e
      exact e
  · simp only [List.take_length]; exact e
theorem specWo1 (hi : ids.length ≤ 1048576) (hbl : bs.length ≤ 1048576) (hb : b < bs.length) (h8 : a8.length ≤ 1048576) (hl : (bs[b]).1.length ≤ 1048576) (hl2 : (bs[b]).2.1.length ≤ 1048576)
    (e : Ev (fun k => spec_l8Without.l0 k ids ((b + 1 : Nat) : Int) f a4 a5 a6 bs (a8 ++ [((bs[b]).1.filter (keepP ids), (bs[b]).2.1.filter (keepP ids), t1, t2, t3, t4, ())])) r) :
    Ev (fun k => spec_l8Without.l1 k ids (b : Int) 0 f a4 a5 a6 bs a8 t1 t2 t3 t4 [] []) r := by
  refine st_loop (n0 := (bs[b]).1.length) (L := fun k a s => spec_l8Without.l1 k ids (b : Int) a f a4 a5 a6 bs a8 t1 t2 t3 t4 s []) (T := fun k s => spec_l8Without.l2 k ids (b : Int) 0 f a4 a5 a6 bs a8 t1 t2 t3 t4 s []) (fun i => ((bs[b]).1.take i).filter (keepP ids)) (fun r e => Ev.sk1 ?_) (fun i r hlt e => Ev.sk1 ?_) ?_
  · show Ev (fun k => spec_l8Without.l1_ k (spec_l8Without.l0 k) (spec_l8Without.l1 k) (spec_l8Without.l2 k) _ _ _ _ _ _ _ _ _ _ _ _ _ _ _) _
    simp only [spec_l8Without.l1_, head_in hb, head_0, head_end, Bool.and_self, cond_true, cond_false, Int.toNat_natCast, getD_at _ _ _ hb]
    exact e
  · show Ev (fun k => spec_l8Without.l1_ k (spec_l8Without.l0 k) (spec_l8Without.l1 k) (spec_l8Without.l2 k) _ _ _ _ _ _ _ _ _ _ _ _ _ _ _) _
    simp only [spec_l8Without.l1_, head_in hb, head_in hlt, head_0, Bool.and_self, cond_true, Int.toNat_natCast, getD_at _ _ _ hb, getD_at _ _ _ hlt, wrap_nat (show i < 9223372036854775807 by omega)]
    refine Ev.bind (specHas ids _ hi) ?_
    have hk : (((bs[b]).1.take i).filter (keepP ids)).length ≤ 1048576 := Nat.le_trans (List.length_filter_le _ _) (by rw [List.length_take]; omega)
    by_cases hm : ((bs[b]).1[i]).1 ∈ ids
    · refine Ev.neg (by rw [dpos hm]; rfl) ?_
      simp only [← filt_skip (p := keepP ids) hlt (by unfold keepP; rw [dpos hm]; rfl)] at e
      exact e
    · refine Ev.pos (by rw [dneg hm]; rfl) (Ev.dp (len_capS (by decide) hk) ?_)
      simp only [← filt_push (p := keepP ids) hlt (by unfold keepP; rw [dneg hm]; rfl)] at e
      exact e
  · simp only [List.take_length]
    exact specWo2 hi hbl hb h8 hl2 e
end
/-! ### l8Close -/
section
variable {α : Type}
def stp (s : Int × List Int) (q : Int × α) : Int × List Int := (s.1 + 1, s.2.set q.1.toNat s.1)
theorem stp_len : ∀ (l : List (Int × α)) (s : Int × List Int), (l.foldl stp s).2.length = s.2.length
  | [], s => rfl
  | q :: l, s => by rw [List.foldl_cons, stp_len l]; simp [stp]
theorem stp_fst : ∀ (l : List (Int × α)) (s : Int × List Int), (l.foldl stp s).1 = s.1 + (l.length : Int)
  | [], s => by simp
  | q :: l, s => by rw [List.foldl_cons, stp_fst l]; simp [stp]; omega
/-- What is kept takes the next numbers. -/
theorem stp_keep {p c : Nat} {ids : List Int} : ∀ (l : List α) (n : Nat), p ≤ n → n + l.length ≤ c → (keepT ids n l).foldl stp ((cntK p ids n : Int), toS p ids c n) = ((cntK p ids (n + l.length) : Int), toS p ids c (n + l.length))
  | [], n, _, _ => rfl
  | x :: l, n, hp, hc => by
    simp only [List.length_cons] at hc
    have ih := stp_keep (p := p) (c := c) (ids := ids) l (n + 1) (by omega) (by omega)
    have hk : keepT ids n (x :: l) = (bif decide ((n : Int) ∈ ids) then [] else [((n : Int), x)]) ++ keepT ids (n + 1) l := by
      unfold keepT
      simp only [tagL, List.filter_cons]
      by_cases hm : (n : Int) ∈ ids
      · have : keepP ids ((n : Int), x) = false := by unfold keepP; rw [dpos hm]; rfl
        rw [this, dpos hm]; rfl
      · have : keepP ids ((n : Int), x) = true := by unfold keepP; rw [dneg hm]; rfl
        rw [this, dneg hm]; rfl
    rw [hk, List.foldl_append, List.length_cons, show n + (l.length + 1) = n + 1 + l.length by omega, ← ih]
    congr 1
    by_cases hm : (n : Int) ∈ ids
    · have hg : goneN p ids n = true := by unfold goneN; rw [dpos hm, dpos hp]; rfl
      rw [dpos hm, ← toS_skip hg]
      simp [cntK, hg]
    · have hg : goneN p ids n = false := by unfold goneN; rw [dneg hm, Bool.and_false]
      rw [dneg hm, ← toS_set (by omega) hg]
      simp [cntK, hg, stp]
end
section
variable {bs : List tl8BD} {b : Nat} {a4 : Int} {a5 : List Int} {a6 : List tBlockD} {a8 : Int} {a9 : List Int} {a10 : List tBlockD} {t1 t2 t3 t4 : Int} {r : spec_l8Close.R}
theorem specCl3 (hbl : bs.length ≤ 1048576) (hb : b < bs.length) (h10 : a10.length ≤ 1048576) {ps : List tPhiD} (hl : (bs[b]).2.1.length ≤ 1048576) {s0 : Int × List Int} (h0 : 0 ≤ s0.1) (h1 : s0.1 ≤ 10485760) (hq : ∀ q ∈ (bs[b]).2.1, 0 ≤ q.1 ∧ q.1 < (s0.2.length : Int))
    (e : Ev (fun k => spec_l8Close.l1 k bs ((bs[b]).2.1.foldl stp s0).1 ((b + 1 : Nat) : Int) a4 a5 a6 ((bs[b]).2.1.foldl stp s0).2 a8 a9 (a10 ++ [(ps, (bs[b]).2.1.map (fun q => q.2), t1, t2, t3, t4, ())])) r) :
    Ev (fun k => spec_l8Close.l3 k bs s0.1 (b : Int) 0 a4 a5 a6 s0.2 a8 a9 a10 t1 t2 t3 t4 ps []) r := by
  refine st_loop (σ := (Int × List Int) × List tInstD) (n0 := (bs[b]).2.1.length) (L := fun k a s => spec_l8Close.l3 k bs s.1.1 (b : Int) a a4 a5 a6 s.1.2 a8 a9 a10 t1 t2 t3 t4 ps s.2) (T := fun k s => spec_l8Close.l1 k bs s.1.1 ((b + 1 : Nat) : Int) a4 a5 a6 s.1.2 a8 a9 (a10 ++ [(ps, s.2, t1, t2, t3, t4, ())])) (fun i => (((bs[b]).2.1.take i).foldl stp s0, ((bs[b]).2.1.take i).map fun q => q.2)) (fun r e => Ev.sk1 ?_) (fun i r hlt e => Ev.sk1 ?_) ?_
  · show Ev (fun k => spec_l8Close.l3_ k (spec_l8Close.l0 k) (spec_l8Close.l1 k) (spec_l8Close.l2 k) (spec_l8Close.l3 k) _ _ _ _ _ _ _ _ _ _ _ _ _ _ _ _ _) _
    simp only [spec_l8Close.l3_, head_in hb, head_0, head_end, Bool.and_self, cond_true, cond_false, Int.toNat_natCast, getD_at _ _ _ hb, wrap_nat (show b < 9223372036854775807 by omega)]
    exact Ev.dp (len_capS (by decide) h10) e
  · show Ev (fun k => spec_l8Close.l3_ k (spec_l8Close.l0 k) (spec_l8Close.l1 k) (spec_l8Close.l2 k) (spec_l8Close.l3 k) _ _ _ _ _ _ _ _ _ _ _ _ _ _ _ _ _) _
    have hmem := hq _ (List.getElem_mem hlt)
    have hw : IntKind.wrap .i64 ((((bs[b]).2.1.take i).foldl stp s0).1 + 1) = (((bs[b]).2.1.take i).foldl stp s0).1 + 1 := by
      have := stp_fst ((bs[b]).2.1.take i) s0
      rw [List.length_take] at this
      exact wrap_id (by omega) (by omega)
    have hr : (decide (0 ≤ ((bs[b]).2.1[i]).1) && decide (((bs[b]).2.1[i]).1 < (((((bs[b]).2.1.take i).foldl stp s0).2.length : Nat) : Int))) = true := by
      rw [stp_len, dpos hmem.1, dpos hmem.2]; rfl
    simp only [spec_l8Close.l3_, head_in hb, head_in hlt, head_0, Bool.and_self, cond_true, Int.toNat_natCast, getD_at _ _ _ hb, getD_at _ _ _ hlt, wrap_nat (show i < 9223372036854775807 by omega), hw, hr]
    refine Ev.dp (len_capS (by decide) (by rw [List.length_map, List.length_take]; omega)) ?_
    simp only [← take_push hlt, List.map_append, List.foldl_append] at e
    exact e
  · simp only [List.take_length]; exact e
theorem specCl2 (hbl : bs.length ≤ 1048576) (hb : b < bs.length) (h10 : a10.length ≤ 1048576) (hl : (bs[b]).1.length ≤ 1048576) (hl2 : (bs[b]).2.1.length ≤ 1048576) {s0 : Int × List Int} (h0 : 0 ≤ s0.1) (h1 : s0.1 ≤ 1048576) (hq : ∀ q ∈ (bs[b]).1, 0 ≤ q.1 ∧ q.1 < (s0.2.length : Int)) (hq2 : ∀ q ∈ (bs[b]).2.1, 0 ≤ q.1 ∧ q.1 < (s0.2.length : Int))
    (e : Ev (fun k => spec_l8Close.l1 k bs ((bs[b]).2.1.foldl stp ((bs[b]).1.foldl stp s0)).1 ((b + 1 : Nat) : Int) a4 a5 a6 ((bs[b]).2.1.foldl stp ((bs[b]).1.foldl stp s0)).2 a8 a9 (a10 ++ [((bs[b]).1.map (fun q => q.2), (bs[b]).2.1.map (fun q => q.2), t1, t2, t3, t4, ())])) r) :
    Ev (fun k => spec_l8Close.l2 k bs s0.1 (b : Int) 0 a4 a5 a6 s0.2 a8 a9 a10 t1 t2 t3 t4 [] []) r := by
  refine st_loop (σ := (Int × List Int) × List tPhiD) (n0 := (bs[b]).1.length) (L := fun k a s => spec_l8Close.l2 k bs s.1.1 (b : Int) a a4 a5 a6 s.1.2 a8 a9 a10 t1 t2 t3 t4 s.2 []) (T := fun k s => spec_l8Close.l3 k bs s.1.1 (b : Int) 0 a4 a5 a6 s.1.2 a8 a9 a10 t1 t2 t3 t4 s.2 []) (fun i => (((bs[b]).1.take i).foldl stp s0, ((bs[b]).1.take i).map fun q => q.2)) (fun r e => Ev.sk1 ?_) (fun i r hlt e => Ev.sk1 ?_) ?_
  · show Ev (fun k => spec_l8Close.l2_ k (spec_l8Close.l0 k) (spec_l8Close.l1 k) (spec_l8Close.l2 k) (spec_l8Close.l3 k) _ _ _ _ _ _ _ _ _ _ _ _ _ _ _ _ _) _
    simp only [spec_l8Close.l2_, head_in hb, head_0, head_end, Bool.and_self, cond_true, cond_false, Int.toNat_natCast, getD_at _ _ _ hb]
    exact e
  · show Ev (fun k => spec_l8Close.l2_ k (spec_l8Close.l0 k) (spec_l8Close.l1 k) (spec_l8Close.l2 k) (spec_l8Close.l3 k) _ _ _ _ _ _ _ _ _ _ _ _ _ _ _ _ _) _
    have hmem := hq _ (List.getElem_mem hlt)
    have hw : IntKind.wrap .i64 ((((bs[b]).1.take i).foldl stp s0).1 + 1) = (((bs[b]).1.take i).foldl stp s0).1 + 1 := by
      have := stp_fst ((bs[b]).1.take i) s0
      rw [List.length_take] at this
      exact wrap_id (by omega) (by omega)
    have hr : (decide (0 ≤ ((bs[b]).1[i]).1) && decide (((bs[b]).1[i]).1 < (((((bs[b]).1.take i).foldl stp s0).2.length : Nat) : Int))) = true := by
      rw [stp_len, dpos hmem.1, dpos hmem.2]; rfl
    simp only [spec_l8Close.l2_, head_in hb, head_in hlt, head_0, Bool.and_self, cond_true, Int.toNat_natCast, getD_at _ _ _ hb, getD_at _ _ _ hlt, wrap_nat (show i < 9223372036854775807 by omega), hw, hr]
    refine Ev.dp (len_capS (by decide) (by rw [List.length_map, List.length_take]; omega)) ?_
    simp only [← take_push hlt, List.map_append, List.foldl_append] at e
    exact e
  · simp only [List.take_length]
    refine specCl3 hbl hb h10 hl2 (s0 := (bs[b]).1.foldl stp s0) ?_ ?_ (fun q h => by rw [stp_len]; exact hq2 q h) e
    · rw [stp_fst]; omega
    · rw [stp_fst]; omega
end
def keepOB (ids : List Int) (n : Nat) (x : tBlockD) : tl8BD := (keepT ids n x.1, keepT ids (n + x.1.length) x.2.1, x.2.2)
def keepOs (ids : List Int) (f : tFuncD) : List tl8BD := mapB (keepOB ids) f.1.length f.2.2.1
theorem keepOs_eq (ids : List Int) (f : tFuncD) : (openBs f).map (keepO ids) = keepOs ids f := by unfold openBs keepOs; rw [mapB_map]; rfl
theorem keepT_mem {α : Type} {ids : List Int} {n : Nat} {l : List α} {q : Int × α} (h : q ∈ keepT ids n l) : (n : Int) ≤ q.1 ∧ q.1 < ((n + l.length : Nat) : Int) := (tagL_mem (List.mem_filter.1 h).1).2
theorem specClose {funcs : Int} {f : tFuncD} (hf : Fm funcs f) (hs : Small tFunc f) (ids : List Int) : Ev (fun k => spec_l8Close.f k f (keepOs ids f)) ((((), f.2.1, (), ()), ()), (f.1, (keepBs ids f).map (subB (toS f.1.length ids (cntN f) (cntN f))), ())) := by
  have hcnt : cntN f ≤ 60 := by have := hf.cnt; rw [cntN_eq] at this; omega
  have h10 := hf.b10
  have h4 := hf.p4
  have hkl : (keepOs ids f).length = f.2.2.1.length := mapB_len _ _ _
  unfold spec_l8Close.f
  refine Ev.bind (specCount hs) ?_
  show Ev (fun k => bif decide (cntB f = cntB f) && decide (0 ≤ cntB f) && decide (cntB f * 8 ≤ 281474976710656) then spec_l8Close.l0 k (keepOs ids f) 0 f 0 [] [] (List.replicate (Int.toNat (cntB f)) 0) else none) _
  rw [cntN_eq, Int.toNat_natCast]
  refine Ev.pos (by rw [dpos rfl, dpos (show 0 ≤ (cntN f : Int) by omega), dpos (show (cntN f : Int) * 8 ≤ 281474976710656 by omega)]; rfl) ?_
  rw [← toS_0 f.1.length ids]
  have hp : f.1.length ≤ cntN f := by unfold cntN; omega
  refine st_loop (n0 := f.1.length) (L := fun k a s => spec_l8Close.l0 k (keepOs ids f) a f 0 [] [] s) (T := fun k s => spec_l8Close.l1 k (keepOs ids f) (f.1.length : Int) 0 0 [] [] s f.2.1 f.1 []) (toS f.1.length ids (cntN f)) (fun r e => Ev.sk1 ?_) (fun i r hlt e => Ev.sk1 ?_) ?_
  · show Ev (fun k => spec_l8Close.l0_ k (spec_l8Close.l0 k) (spec_l8Close.l1 k) (spec_l8Close.l2 k) (spec_l8Close.l3 k) _ _ _ _ _ _ _) _
    simp only [spec_l8Close.l0_, head_end, cond_false]
    exact Ev.bind (Ev.all fun k => specCopy k hs.1.1) e
  · show Ev (fun k => spec_l8Close.l0_ k (spec_l8Close.l0 k) (spec_l8Close.l1 k) (spec_l8Close.l2 k) (spec_l8Close.l3 k) _ _ _ _ _ _ _) _
    simp only [spec_l8Close.l0_, head_in hlt, head_0, cond_true, Int.toNat_natCast, wrap_nat (show i < 9223372036854775807 by omega), toS_len, dpos (show (i : Int) < (cntN f : Int) by omega), Bool.and_self]
    have hg : goneN f.1.length ids i = false := by unfold goneN; rw [dneg (by omega)]; rfl
    have hk := cntK_params f.1.length ids i (by omega)
    simp only [← toS_set (show i < cntN f by omega) hg, hk] at e
    exact e
  · have hk0 : (f.1.length : Int) = (cntK f.1.length ids f.1.length : Int) := by rw [cntK_params _ _ _ (Nat.le_refl _)]
    rw [hk0]
    refine st_loop (σ := (Int × List Int) × List tBlockD) (n0 := f.2.2.1.length) (L := fun k a s => spec_l8Close.l1 k (keepOs ids f) s.1.1 a 0 [] [] s.1.2 f.2.1 f.1 s.2) (T := fun k s => Option.bind (spec_l8Subst.f k (f.1, f.2.1, s.2, ()) s.1.2) fun r1 => some ((((), r1.1.1.2.1, (), ()), ()), (r1.2.1, r1.2.2.1, ()))) (fun i => (((cntK f.1.length ids (fstN f i) : Int), toS f.1.length ids (cntN f) (fstN f i)), mapB (keepB ids) f.1.length (f.2.2.1.take i))) (fun r e => Ev.sk1 ?_) (fun i r hlt e => Ev.sk1 ?_) ?_
    · show Ev (fun k => spec_l8Close.l1_ k (spec_l8Close.l0 k) (spec_l8Close.l1 k) (spec_l8Close.l2 k) (spec_l8Close.l3 k) _ _ _ _ _ _ _ _ _ _) _
      simp only [spec_l8Close.l1_, hkl, dneg (Int.lt_irrefl _), cond_false]
      exact e
    · show Ev (fun k => spec_l8Close.l1_ k (spec_l8Close.l0 k) (spec_l8Close.l1 k) (spec_l8Close.l2 k) (spec_l8Close.l3 k) _ _ _ _ _ _ _ _ _ _) _
      have hlt' : i < (keepOs ids f).length := by omega
      have hget : (keepOs ids f)[i] = keepOB ids (fstN f i) f.2.2.1[i] := mapB_get _ _ _ _ hlt hlt'
      have hmem := List.getElem_mem hlt
      obtain ⟨w1, w2⟩ := hf.phis hmem
      have hfst := fstN_le f i
      have hfst1 := fstN_le f (i + 1)
      have hck := cntK_le f.1.length ids (fstN f i)
      have hpf : f.1.length ≤ fstN f i := by unfold fstN; omega
      rw [fstN_succ hlt] at hfst1
      unfold wN at hfst1
      have hk1 := keepT_len ids (fstN f i) (f.2.2.1[i]).1
      have hk2 := keepT_len ids (fstN f i + (f.2.2.1[i]).1.length) (f.2.2.1[i]).2.1
      simp only [spec_l8Close.l1_, head_in hlt', head_0, Bool.and_self, cond_true, Int.toNat_natCast, getD_at _ _ _ hlt']
      refine specCl2 (s0 := ((cntK f.1.length ids (fstN f i) : Int), toS f.1.length ids (cntN f) (fstN f i))) (by omega) hlt' (by rw [mapB_len, List.length_take]; omega) (by rw [hget]; show (keepT ids (fstN f i) (f.2.2.1[i]).1).length ≤ _; omega) (by rw [hget]; show (keepT ids (fstN f i + (f.2.2.1[i]).1.length) (f.2.2.1[i]).2.1).length ≤ _; omega) (by show (0:Int) ≤ (cntK f.1.length ids (fstN f i) : Int); omega) (by show (cntK f.1.length ids (fstN f i) : Int) ≤ 1048576; omega) (fun q hq => ?_) (fun q hq => ?_) ?_
      · rw [hget] at hq
        have := keepT_mem (show q ∈ keepT ids (fstN f i) (f.2.2.1[i]).1 from hq)
        rw [toS_len]; omega
      · rw [hget] at hq
        have := keepT_mem (show q ∈ keepT ids (fstN f i + (f.2.2.1[i]).1.length) (f.2.2.1[i]).2.1 from hq)
        rw [toS_len]; omega
      · rw [hget]
        show Ev (fun k => spec_l8Close.l1 k (keepOs ids f) ((keepT ids (fstN f i + (f.2.2.1[i]).1.length) (f.2.2.1[i]).2.1).foldl stp ((keepT ids (fstN f i) (f.2.2.1[i]).1).foldl stp ((cntK f.1.length ids (fstN f i) : Int), toS f.1.length ids (cntN f) (fstN f i)))).1 ((i + 1 : Nat) : Int) 0 [] [] ((keepT ids (fstN f i + (f.2.2.1[i]).1.length) (f.2.2.1[i]).2.1).foldl stp ((keepT ids (fstN f i) (f.2.2.1[i]).1).foldl stp ((cntK f.1.length ids (fstN f i) : Int), toS f.1.length ids (cntN f) (fstN f i)))).2 f.2.1 f.1 (mapB (keepB ids) f.1.length (f.2.2.1.take i) ++ [keepB ids (fstN f i) f.2.2.1[i]])) r
        rw [stp_keep (f.2.2.1[i]).1 (fstN f i) hpf (by omega), stp_keep (f.2.2.1[i]).2.1 (fstN f i + (f.2.2.1[i]).1.length) (by omega) (by omega)]
        simp only [← mapB_push (keepB ids) hlt, fstN_succ hlt, wN, ← Nat.add_assoc] at e
        exact e
    · simp only [List.take_length, fstN_end]
      exact Ev.bind (specSubst (keepF_ok (ids := ids) hf hs (by rw [toS_len, cntN_eq]))) (Ev.cst rfl)
theorem specWithout {funcs : Int} {f : tFuncD} (hf : Fm funcs f) (hs : Small tFunc f) {ids : List Int} (hi : ids.length ≤ 1048576) : Ev (fun k => spec_l8Without.f k f ids) ((((), f.2.1, (), ()), ()), (f.1, (keepBs ids f).map (subB (toS f.1.length ids (cntN f) (cntN f))), ())) := by
  have h10 := hf.b10
  have hbl : (openBs f).length ≤ 1048576 := by unfold openBs; rw [mapB_len]; omega
  unfold spec_l8Without.f
  refine Ev.bind (specOpen hf hs) ?_
  refine st_loop (n0 := (openBs f).length) (L := fun k a s => spec_l8Without.l0 k ids a f 0 [] [] (openBs f) s) (T := fun k s => Option.bind (spec_l8Close.f k f s) fun r1 => some ((((), r1.1.1.2.1, (), ()), ()), (r1.2.1, r1.2.2.1, ()))) (fun i => ((openBs f).take i).map (keepO ids)) (fun r e => Ev.sk1 ?_) (fun i r hlt e => Ev.sk1 ?_) ?_
  · show Ev (fun k => spec_l8Without.l0_ k (spec_l8Without.l0 k) (spec_l8Without.l1 k) (spec_l8Without.l2 k) _ _ _ _ _ _ _ _) _
    simp only [spec_l8Without.l0_, head_end, cond_false]
    exact e
  · show Ev (fun k => spec_l8Without.l0_ k (spec_l8Without.l0 k) (spec_l8Without.l1 k) (spec_l8Without.l2 k) _ _ _ _ _ _ _ _) _
    have ho := openBs_ok hf hs (List.getElem_mem hlt)
    simp only [spec_l8Without.l0_, head_in hlt, head_0, Bool.and_self, cond_true, Int.toNat_natCast, getD_at _ _ _ hlt]
    refine specWo1 hi hbl hlt (by rw [List.length_map, List.length_take]; omega) ho.p ho.i ?_
    simp only [← take_push hlt, List.map_append] at e
    exact e
  · simp only [List.take_length]
    rw [keepOs_eq]
    exact Ev.bind (specClose hf hs ids) (Ev.cst rfl)
end Go.Proofs.YtkfehogikjcgkaaGreat.V
namespace Go.Proofs.YtkfehogikjcgkaaGreat.V
open Go
set_option linter.unusedVariables false
set_option linter.unusedSimpArgs false
/-- A loop that ends early where a check fails. -/
theorem chk_loop {R : Type} {n0 : Nat} {L : Nat → Int → Option R} (p : Nat → Bool) {yes no : R}
    (hend : (∀ i, i < n0 → p i = true) → Ev (fun k => L k (n0 : Int)) yes) (hgood : ∀ i, i < n0 → p i = true → ∀ r, Ev (fun k => L k ((i + 1 : Nat) : Int)) r → Ev (fun k => L k (i : Int)) r) (hbad : ∀ i, i < n0 → p i = false → Ev (fun k => L k (i : Int)) no) :
    Ev (fun k => L k 0) (bif (List.range n0).all p then yes else no) := by
  cases h : (List.range n0).all p with
  | true =>
    have h' : ∀ i, i < n0 → p i = true := fun i hi => List.all_eq_true.1 h i (List.mem_range.2 hi)
    exact Ev.down (G := fun i k => L k (i : Int)) (V := fun _ => yes) n0 (hend h') (fun i hi e => hgood i hi (h' i hi) _ e) 0 (Nat.zero_le _)
  | false =>
    obtain ⟨j, hj, hp⟩ : ∃ j, j < n0 ∧ p j = false := by
      obtain ⟨j, a, b⟩ := List.all_eq_false.1 h
      exact ⟨j, List.mem_range.1 a, by simpa using b⟩
    refine Ev.down (G := fun i k => L k (i : Int)) (V := fun _ => no) j (hbad j hj hp) (fun i hi e => ?_) 0 (Nat.zero_le _)
    cases hi' : p i with
    | true => exact hgood i (by omega) hi' _ e
    | false => exact hbad i (by omega) hi'
section
variable {ids : List Int} {f : tFuncD}
theorem implAnyGone (hi : ids.length ≤ 1048576) {l : List Int} (hl : l.length ≤ 1048576) : Ev (fun k => slices_ContainsFunc_int64_int64_5.f k l ids) (one (l.any fun x => decide (x ∈ ids))) :=
  index_ev (z := 0) (L := fun k b a => slices_IndexFunc_int64_int64_5.l0 k l b a ids) (q := fun k x => impl_Without_1.f k x ids) (by omega) (fun k b a => rfl) fun x _ => implGone ids x hi
def badL (ids : List Int) (l : List Int) : Bool := l.any fun x => decide (x ∈ ids)
def goodP (ids : List Int) (n : Nat) (x : tBlockD) (j : Nat) : Bool := decide ((n : Int) + (j : Int) ∈ ids) || !badL ids (x.1.getD j tPhiZ).2.1
def goodI (ids : List Int) (n : Nat) (x : tBlockD) (j : Nat) : Bool := decide ((n : Int) + (j : Int) ∈ ids) || !badL ids (opsB (x.2.1.getD j tInstZ))
def goodB (ids : List Int) (n : Nat) (x : tBlockD) : Bool := (List.range x.1.length).all (goodP ids n x) && ((List.range x.2.1.length).all (goodI ids (n + x.1.length) x) && !badL ids (endA x.2.2))
theorem implEndA (k : Nat) (t : tTermD) : impl_endNames.f k t = some (rowR (endA t)) := by
  unfold impl_endNames.f endA
  cases decide (t.1 = 1) <;> cases decide (t.1 = 3) <;> rfl
theorem endA_len (t : tTermD) : (endA t).length ≤ 1 := by
  unfold endA
  cases decide (t.1 = 1) <;> cases decide (t.1 = 3) <;> simp
theorem implLeft3 (hi : ids.length ≤ 1048576) {n b : Nat} (hn : n ≤ 1048576) (hb : b ≤ 1048576) {bl : List tBlockD} {a2 : Int} {x : tBlockD} (hl : x.2.1.length ≤ 1048576) (ho : ∀ i ∈ x.2.1, i.2.2.2.2.2.2.1.length ≤ 1048576 ∧ (opsB i).length ≤ 1048576) {r : impl_Without.R}
    (e : (List.range x.2.1.length).all (goodI ids n x) = true → badL ids (endA x.2.2) = false → Ev (fun k => impl_Without.l1 k bl a2 ((b + 1 : Nat) : Int) f 0 [] [] ids) r) :
    Ev (fun k => impl_Without.l3 k (n : Int) bl a2 (b : Int) x.2.1 (x.2.1.length : Int) 0 f 0 [] [] ids x) (bif (List.range x.2.1.length).all (goodI ids n x) then (bif badL ids (endA x.2.2) then fR false noF else r) else fR false noF) := by
  have h := chk_loop (n0 := x.2.1.length) (L := fun k a => impl_Without.l3 k ((n : Int) + a) bl a2 (b : Int) x.2.1 (x.2.1.length : Int) a f 0 [] [] ids x) (goodI ids n x) (yes := bif badL ids (endA x.2.2) then fR false noF else r) (no := fR false noF) (fun hall => Ev.sk1 ?_) (fun i hlt hp r e => Ev.sk1 ?_) (fun i hlt hp => Ev.sk1 ?_)
  · simpa using h
  · show Ev (fun k => impl_Without.l3_ k (impl_Without.l0 k) (impl_Without.l1 k) (impl_Without.l2 k) (impl_Without.l3 k) _ _ _ _ _ _ _ _ _ _ _ _ _) _
    simp only [impl_Without.l3_, head_end, cond_false, wrap_nat (show b < 9223372036854775807 by omega)]
    refine Ev.bind (Ev.all fun k => implEndA k _) (Ev.bind (implAnyGone hi (l := endA x.2.2) (by have := endA_len x.2.2; omega)) ?_)
    show Ev (fun k => bif badL ids (endA x.2.2) then _ else _) _
    cases hbad : badL ids (endA x.2.2) with
    | true => exact Ev.cst rfl
    | false => exact e (List.all_eq_true.2 fun i hi => hall i (List.mem_range.1 hi)) hbad
  · show Ev (fun k => impl_Without.l3_ k (impl_Without.l0 k) (impl_Without.l1 k) (impl_Without.l2 k) (impl_Without.l3 k) _ _ _ _ _ _ _ _ _ _ _ _ _) _
    have hw : IntKind.wrap .i64 ((n : Int) + (i : Int) + 1) = (n : Int) + ((i + 1 : Nat) : Int) := by rw [wrap_id (by omega) (by omega)]; omega
    have hmem := ho _ (List.getElem_mem hlt)
    unfold goodI at hp
    rw [getD_at _ _ _ hlt] at hp
    simp only [impl_Without.l3_, head_in hlt, head_0, Bool.and_self, cond_true, Int.toNat_natCast, getD_at _ _ _ hlt, wrap_nat (show i < 9223372036854775807 by omega), hw]
    refine Ev.bind (implGone ids _ hi) ?_
    by_cases hm : (n : Int) + (i : Int) ∈ ids
    · exact Ev.neg (by rw [dpos hm]; rfl) e
    · refine Ev.pos (by rw [dneg hm]; rfl) (Ev.bind (Ev.all fun k => implOps k hmem.1) (Ev.bind (implAnyGone hi hmem.2) ?_))
      rw [dneg hm, Bool.false_or] at hp
      exact Ev.neg (show badL ids (opsB x.2.1[i]) = false by simpa using hp) e
  · show Ev (fun k => impl_Without.l3_ k (impl_Without.l0 k) (impl_Without.l1 k) (impl_Without.l2 k) (impl_Without.l3 k) _ _ _ _ _ _ _ _ _ _ _ _ _) _
    have hmem := ho _ (List.getElem_mem hlt)
    unfold goodI at hp
    rw [getD_at _ _ _ hlt] at hp
    simp only [impl_Without.l3_, head_in hlt, head_0, Bool.and_self, cond_true, Int.toNat_natCast, getD_at _ _ _ hlt]
    refine Ev.bind (implGone ids _ hi) ?_
    by_cases hm : (n : Int) + (i : Int) ∈ ids
    · rw [dpos hm] at hp; cases hp
    · refine Ev.pos (by rw [dneg hm]; rfl) (Ev.bind (Ev.all fun k => implOps k hmem.1) (Ev.bind (implAnyGone hi hmem.2) ?_))
      rw [dneg hm, Bool.false_or] at hp
      exact Ev.pos (show badL ids (opsB x.2.1[i]) = true by simpa using hp) (Ev.cst rfl)
theorem implLeft2 (hi : ids.length ≤ 1048576) {n b : Nat} (hn : n ≤ 524288) (hb : b ≤ 1048576) {bl : List tBlockD} {a2 : Int} {x : tBlockD} (hl0 : x.1.length ≤ 524288) (hp0 : ∀ p ∈ x.1, p.2.1.length ≤ 1048576) (hl : x.2.1.length ≤ 1048576) (ho : ∀ i ∈ x.2.1, i.2.2.2.2.2.2.1.length ≤ 1048576 ∧ (opsB i).length ≤ 1048576) {r : impl_Without.R}
    (e : goodB ids n x = true → Ev (fun k => impl_Without.l1 k bl a2 ((b + 1 : Nat) : Int) f 0 [] [] ids) r) :
    Ev (fun k => impl_Without.l2 k (n : Int) bl a2 (b : Int) x.1 (x.1.length : Int) 0 f 0 [] [] ids x) (bif goodB ids n x then r else fR false noF) := by
  have h := chk_loop (n0 := x.1.length) (L := fun k a => impl_Without.l2 k ((n : Int) + a) bl a2 (b : Int) x.1 (x.1.length : Int) a f 0 [] [] ids x) (goodP ids n x) (yes := (bif (List.range x.2.1.length).all (goodI ids (n + x.1.length) x) then (bif badL ids (endA x.2.2) then fR false noF else r) else fR false noF)) (no := fR false noF) (fun hall => Ev.sk1 ?_) (fun i hlt hp r e => Ev.sk1 ?_) (fun i hlt hp => Ev.sk1 ?_)
  · simp only [Int.add_zero] at h
    refine h.rw ?_
    unfold goodB
    cases (List.range x.1.length).all (goodP ids n x) <;> cases (List.range x.2.1.length).all (goodI ids (n + x.1.length) x) <;> cases badL ids (endA x.2.2) <;> rfl
  · show Ev (fun k => impl_Without.l2_ k (impl_Without.l0 k) (impl_Without.l1 k) (impl_Without.l2 k) (impl_Without.l3 k) _ _ _ _ _ _ _ _ _ _ _ _ _) _
    simp only [impl_Without.l2_, head_end, cond_false]
    have := implLeft3 hi (n := n + x.1.length) (by omega) hb (a2 := a2) (bl := bl) (f := f) (r := r) hl ho (fun h3 h4 => e (by
      have h1 : (List.range x.1.length).all (goodP ids n x) = true := List.all_eq_true.2 fun i hi => hall i (List.mem_range.1 hi)
      unfold goodB
      rw [h1, h3, h4]; rfl))
    rw [Int.natCast_add] at this
    exact this
  · show Ev (fun k => impl_Without.l2_ k (impl_Without.l0 k) (impl_Without.l1 k) (impl_Without.l2 k) (impl_Without.l3 k) _ _ _ _ _ _ _ _ _ _ _ _ _) _
    have hw : IntKind.wrap .i64 ((n : Int) + (i : Int) + 1) = (n : Int) + ((i + 1 : Nat) : Int) := by rw [wrap_id (by omega) (by omega)]; omega
    have hmem := hp0 _ (List.getElem_mem hlt)
    unfold goodP at hp
    rw [getD_at _ _ _ hlt] at hp
    simp only [impl_Without.l2_, head_in hlt, head_0, Bool.and_self, cond_true, Int.toNat_natCast, getD_at _ _ _ hlt, wrap_nat (show i < 9223372036854775807 by omega), hw]
    refine Ev.bind (implGone ids _ hi) ?_
    by_cases hm : (n : Int) + (i : Int) ∈ ids
    · exact Ev.neg (by rw [dpos hm]; rfl) e
    · refine Ev.pos (by rw [dneg hm]; rfl) (Ev.bind (implAnyGone hi hmem) ?_)
      rw [dneg hm, Bool.false_or] at hp
      exact Ev.neg (show badL ids (x.1[i]).2.1 = false by simpa using hp) e
  · show Ev (fun k => impl_Without.l2_ k (impl_Without.l0 k) (impl_Without.l1 k) (impl_Without.l2 k) (impl_Without.l3 k) _ _ _ _ _ _ _ _ _ _ _ _ _) _
    have hmem := hp0 _ (List.getElem_mem hlt)
    unfold goodP at hp
    rw [getD_at _ _ _ hlt] at hp
    simp only [impl_Without.l2_, head_in hlt, head_0, Bool.and_self, cond_true, Int.toNat_natCast, getD_at _ _ _ hlt]
    refine Ev.bind (implGone ids _ hi) ?_
    by_cases hm : (n : Int) + (i : Int) ∈ ids
    · rw [dpos hm] at hp; cases hp
    · refine Ev.pos (by rw [dneg hm]; rfl) (Ev.bind (implAnyGone hi hmem) ?_)
      rw [dneg hm, Bool.false_or] at hp
      exact Ev.pos (show badL ids (x.1[i]).2.1 = true by simpa using hp) (Ev.cst rfl)
def goodF (ids : List Int) (f : tFuncD) (i : Nat) : Bool := goodB ids (fstN f i) (f.2.2.1.getD i tBlockZ)
def woG (f : tFuncD) (ids : List Int) : tFuncD := subF (toN f.1.length ids (cntN f)) (keepF ids f)
theorem implLeft1 (hf : Fm 3 f) (hs : Small tFunc f) (hi : ids.length ≤ 1048576) (hge : ∀ id ∈ ids, (f.1.length : Int) ≤ id) : Ev (fun k => impl_Without.l1 k f.2.2.1 (f.2.2.1.length : Int) 0 f 0 [] [] ids) (bif (List.range f.2.2.1.length).all (goodF ids f) then fR true (woG f ids) else fR false noF) := by
  have h10 := hf.b10
  have hcnt : cntN f ≤ 60 := by have := hf.cnt; rw [cntN_eq] at this; omega
  have step : ∀ i (hlt : i < f.2.2.1.length) r, (goodF ids f i = true → Ev (fun k => impl_Without.l1 k f.2.2.1 (f.2.2.1.length : Int) ((i + 1 : Nat) : Int) f 0 [] [] ids) r) → Ev (fun k => impl_Without.l1 k f.2.2.1 (f.2.2.1.length : Int) (i : Int) f 0 [] [] ids) (bif goodF ids f i then r else fR false noF) := fun i hlt r e => by
    refine Ev.sk1 ?_
    show Ev (fun k => impl_Without.l1_ k (impl_Without.l0 k) (impl_Without.l1 k) (impl_Without.l2 k) (impl_Without.l3 k) _ _ _ _ _ _ _ _) _
    have hmem := List.getElem_mem hlt
    obtain ⟨w1, w2⟩ := hf.phis hmem
    have hfst := fstN_le f i
    have hsx := hs.2.2.1.2 _ hmem
    unfold goodF at e ⊢
    rw [getD_at _ _ _ hlt] at e ⊢
    simp only [impl_Without.l1_, head_in hlt, head_0, Bool.and_self, cond_true, Int.toNat_natCast, getD_at _ _ _ hlt]
    refine Ev.bind (implFirstN hf hlt) (implLeft2 hi (by omega) (by omega) (by omega) (fun p hp => (hsx.1.2 p hp).2.1.1) (by omega) (fun j hj => ⟨(hsx.2.1.2 j hj).2.2.2.2.2.2.1.1, ?_⟩) e)
    have hl := (hf.vo hmem hj).1
    by_cases h26 : j.1 = 26
    · have ho : opsB j = j.2.2.2.2.2.2.1 := by unfold opsB inB; rw [h26]; rfl
      rw [ho]; omega
    · rcases ops_forms h26 with e | e | e | e <;> rw [e] <;> simp
  refine chk_loop (n0 := f.2.2.1.length) (L := fun k a => impl_Without.l1 k f.2.2.1 (f.2.2.1.length : Int) a f 0 [] [] ids) (goodF ids f) (fun _ => Ev.sk1 ?_) (fun i hlt hp r e => ?_) (fun i hlt hp => ?_)
  · show Ev (fun k => impl_Without.l1_ k (impl_Without.l0 k) (impl_Without.l1 k) (impl_Without.l2 k) (impl_Without.l3 k) _ _ _ _ _ _ _ _) _
    simp only [impl_Without.l1_, head_end, cond_false]
    exact Ev.bind (implWithout hf hs hi hge) (Ev.cst rfl)
  · have := step i hlt r (fun _ => e)
    rw [hp] at this
    exact this
  · have := step i hlt (fR false noF) (fun h => by rw [hp] at h; cases h)
    rw [hp] at this
    exact this
/-! ### the ids -/
def inI (f : tFuncD) (ids : List Int) (i : Nat) : Bool := !(decide (0 < i) && decide (ids.getD i 0 ≤ ids.getD (i - 1) 0)) && inB (f.1.length : Int) (cntB f - 1) (ids.getD i 0)
def woC (f : tFuncD) (ids : List Int) : Bool := funcB 3 f && ((List.range ids.length).all (inI f ids) && (List.range f.2.2.1.length).all (goodF ids f))
theorem inB_params {lo hi x : Int} (h : 0 ≤ lo) : inB lo hi x = (inB 0 hi x && !decide (x < lo)) := by
  rw [Bool.eq_iff_iff]
  simp only [inB, Bool.and_eq_true, Bool.not_eq_true', decide_eq_true_eq, decide_eq_false_iff_not]
  omega
theorem implInId (hs : Small tFunc f) (x : Int) : Ev (fun k => impl_isId.f k f x) (one (inB 0 (cntB f - 1) x)) := by
  obtain ⟨c0, c1⟩ := cntB_le hs
  unfold impl_isId.f
  refine Ev.bind (implCount hs) (Ev.bind (Ev.all fun k => implIn k x 0 _) (Ev.cst ?_))
  rw [wrap_id (x := cntB f - 1) (by omega) (by omega)]
/-- What is asked of one id. -/
theorem implAsk (hs : Small tFunc f) (x : Int) {g : Nat → Option impl_Without.R} {r : impl_Without.R} (h : inB (f.1.length : Int) (cntB f - 1) x = true → Ev g r) :
    Ev (fun k => Option.bind (impl_isId.f k f x) fun r1 => bif !r1.1.1.1 then (some (fR false noF) : Option impl_Without.R) else (bif decide (x < ((List.length f.1 : Nat) : Int)) then (some (fR false noF)) else g k)) (bif inB (f.1.length : Int) (cntB f - 1) x then r else fR false noF) := by
  rw [inB_params (by omega)] at h ⊢
  refine Ev.bind (implInId hs x) ?_
  cases h1 : inB 0 (cntB f - 1) x with
  | false => exact Ev.pos rfl (Ev.cst rfl)
  | true =>
    rw [h1] at h
    refine Ev.neg rfl ?_
    cases h2 : decide (x < (f.1.length : Int)) with
    | true => exact Ev.pos rfl (Ev.cst rfl)
    | false => rw [h2] at h; exact Ev.neg rfl (h rfl)
theorem implWoAll (hs : Small tFunc f) (hi : ids.length ≤ 1048576) : Ev (fun k => impl_Without.f k f ids) (fR (woC f ids) (bif woC f ids then woG f ids else noF)) := by
  unfold impl_Without.f
  refine Ev.bind (a := one (funcB 3 f)) (Ev.bind (implFunc hs (by omega) (by omega)) (Ev.cst rfl)) ?_
  cases hfb : funcB 3 f with
  | false =>
    have : woC f ids = false := by unfold woC; rw [hfb]; rfl
    rw [this]
    exact Ev.pos rfl (Ev.cst rfl)
  | true =>
    have hf : Fm 3 f := Fm.of hfb
    refine Ev.neg rfl ?_
    have step : ∀ i (hlt : i < ids.length) (r : impl_Without.R), (inI f ids i = true → Ev (fun k => impl_Without.l0 k ids (ids.length : Int) ((i + 1 : Nat) : Int) f ids 0 [] []) r) → Ev (fun k => impl_Without.l0 k ids (ids.length : Int) (i : Int) f ids 0 [] []) (bif inI f ids i then r else fR false noF) := fun i hlt r e => by
      refine Ev.sk1 ?_
      show Ev (fun k => impl_Without.l0_ k (impl_Without.l0 k) (impl_Without.l1 k) (impl_Without.l2 k) (impl_Without.l3 k) _ _ _ _ _ _ _ _) _
      simp only [impl_Without.l0_, head_in hlt, head_0, Bool.and_self, cond_true, wrap_nat (show i < 9223372036854775807 by omega)]
      by_cases h0 : i = 0
      · subst h0
        have e1 : inI f ids 0 = inB (f.1.length : Int) (cntB f - 1) (ids.getD 0 0) := by unfold inI; rfl
        rw [e1] at e ⊢
        exact Ev.dn (by omega) (implAsk hs (ids.getD 0 0) e)
      · have hw : IntKind.wrap .i64 ((i : Int) - 1) = ((i - 1 : Nat) : Int) := by rw [wrap_id (by omega) (by omega)]; omega
        rw [hw]
        refine Ev.dp (by omega) (Ev.dd (by omega) (by omega) ?_)
        simp only [Int.toNat_natCast]
        unfold inI at e ⊢
        rw [dpos (show 0 < i by omega), Bool.true_and] at e ⊢
        by_cases hle : ids.getD i 0 ≤ ids.getD (i - 1) 0
        · rw [dpos hle] at e ⊢
          exact Ev.pos rfl (Ev.cst rfl)
        · rw [dneg hle] at e ⊢
          exact Ev.neg rfl (implAsk hs (ids.getD i 0) e)
    have h := chk_loop (n0 := ids.length) (L := fun k a => impl_Without.l0 k ids (ids.length : Int) a f ids 0 [] []) (inI f ids) (yes := bif (List.range f.2.2.1.length).all (goodF ids f) then fR true (woG f ids) else fR false noF) (no := fR false noF) (fun hall => Ev.sk1 ?_) (fun i hlt hp r e => ?_) (fun i hlt hp => ?_)
    · refine h.rw ?_
      unfold woC
      rw [hfb]
      cases (List.range ids.length).all (inI f ids) <;> cases (List.range f.2.2.1.length).all (goodF ids f) <;> rfl
    · show Ev (fun k => impl_Without.l0_ k (impl_Without.l0 k) (impl_Without.l1 k) (impl_Without.l2 k) (impl_Without.l3 k) _ _ _ _ _ _ _ _) _
      simp only [impl_Without.l0_, head_end, cond_false]
      refine implLeft1 hf hs hi fun id hid => ?_
      obtain ⟨j, hj, rfl⟩ := List.mem_iff_getElem.1 hid
      have := hall j hj
      unfold inI at this
      rw [getD_at _ _ _ hj, Bool.and_eq_true] at this
      exact (inB_iff.1 this.2).1
    · have := step i hlt r (fun _ => e)
      rw [hp] at this
      exact this
    · have := step i hlt (fR false noF) (fun h => by rw [hp] at h; cases h)
      rw [hp] at this
      exact this
end
end Go.Proofs.YtkfehogikjcgkaaGreat.V
namespace Go.Proofs.YtkfehogikjcgkaaGreat.V
open Go
set_option linter.unusedVariables false
set_option linter.unusedSimpArgs false
section
variable {ids : List Int} {f : tFuncD}
def leftX (f : tFuncD) (ids : List Int) (x : Int) : Bool := (openBs f).any (leftO ids x)
def inS (f : tFuncD) (ids : List Int) (i : Nat) : Bool := inB (f.1.length : Int) (cntB f - 1) (ids.getD i 0) && (!(decide (0 < i) && decide (ids.getD i 0 ≤ ids.getD (i - 1) 0)) && !leftX f ids (ids.getD i 0))
def woD (f : tFuncD) (ids : List Int) : Bool := funcB 3 f && (List.range ids.length).all (inS f ids)
def woS (f : tFuncD) (ids : List Int) : tFuncD := subF (toS f.1.length ids (cntN f) (cntN f)) (keepF ids f)
theorem specWoAll (hs : Small tFunc f) (hi : ids.length ≤ 1048576) : Ev (fun k => spec_Without.f k f ids) (fR (woD f ids) (bif woD f ids then woS f ids else noF)) := by
  obtain ⟨c0, c1⟩ := cntB_le hs
  unfold spec_Without.f
  refine Ev.bind (specFunc hs (by omega) (by omega)) ?_
  cases hfb : funcB 3 f with
  | false =>
    have : woD f ids = false := by unfold woD; rw [hfb]; rfl
    rw [this]
    exact Ev.pos rfl (Ev.cst rfl)
  | true =>
    have hf : Fm 3 f := Fm.of hfb
    refine Ev.neg rfl ?_
    have step : ∀ i (hlt : i < ids.length) (r : spec_Without.R), (inS f ids i = true → Ev (fun k => spec_Without.l0 k ids ((i + 1 : Nat) : Int) f 0 [] []) r) → Ev (fun k => spec_Without.l0 k ids (i : Int) f 0 [] []) (bif inS f ids i then r else fR false noF) := fun i hlt r e => by
      refine Ev.sk1 ?_
      show Ev (fun k => spec_Without.l0_ k (spec_Without.l0 k) _ _ _ _ _ _) _
      simp only [spec_Without.l0_, head_in hlt, head_0, Bool.and_self, cond_true, wrap_nat (show i < 9223372036854775807 by omega), Int.toNat_natCast]
      refine Ev.bind (specCount hs) (Ev.bind (Ev.all fun k => specIn k _ _ _) ?_)
      rw [wrap_id (x := cntB f - 1) (by omega) (by omega)]
      unfold inS at e ⊢
      cases h1 : inB (f.1.length : Int) (cntB f - 1) (ids.getD i 0) with
      | false => exact Ev.pos rfl (Ev.cst rfl)
      | true =>
        rw [h1, Bool.true_and] at e
        rw [Bool.true_and]
        refine Ev.neg rfl ?_
        have hl := specLeft hf hs hi (ids.getD i 0)
        have fin : ∀ (c : Bool), (c = true → leftX f ids (ids.getD i 0) = false → Ev (fun k => spec_Without.l0 k ids ((i + 1 : Nat) : Int) f 0 [] []) r) → c = true → Ev (fun k => Option.bind (spec_l8Left.f k f (ids.getD i 0) ids) fun r3 => bif r3.1.1.1 then (some ((((), 0, (), ()), (false, ()), ()), (([] : List Int), ([] : List tBlockD), ()))) else (spec_Without.l0 k ids ((i + 1 : Nat) : Int) f 0 [] [])) (bif c && !leftX f ids (ids.getD i 0) then r else fR false noF) := fun c e hc => by
          refine Ev.bind hl ?_
          show Ev (fun k => bif leftX f ids (ids.getD i 0) then _ else _) _
          rw [hc, Bool.true_and]
          cases hx : leftX f ids (ids.getD i 0) with
          | true => exact Ev.cst rfl
          | false => exact e hc hx
        by_cases h0 : i = 0
        · subst h0
          refine Ev.dn (by omega) (fin _ (fun hc hx => e ?_) rfl)
          rw [hx]; rfl
        · have hw : IntKind.wrap .i64 ((i : Int) - 1) = ((i - 1 : Nat) : Int) := by rw [wrap_id (by omega) (by omega)]; omega
          rw [hw]
          refine Ev.dp (by omega) (Ev.dd (by omega) (by omega) ?_)
          simp only [Int.toNat_natCast]
          rw [dpos (show 0 < i by omega), Bool.true_and] at e ⊢
          by_cases hle : ids.getD i 0 ≤ ids.getD (i - 1) 0
          · rw [dpos hle] at e ⊢
            exact Ev.pos rfl (Ev.cst rfl)
          · rw [dneg hle] at e ⊢
            refine Ev.neg rfl (fin _ (fun hc hx => e ?_) rfl)
            rw [hx]; rfl
    have h := chk_loop (n0 := ids.length) (L := fun k a => spec_Without.l0 k ids a f 0 [] []) (inS f ids) (yes := fR true (woS f ids)) (no := fR false noF) (fun hall => Ev.sk1 ?_) (fun i hlt hp r e => ?_) (fun i hlt hp => ?_)
    · refine h.rw ?_
      unfold woD
      rw [hfb]
      cases (List.range ids.length).all (inS f ids) <;> rfl
    · show Ev (fun k => spec_Without.l0_ k (spec_Without.l0 k) _ _ _ _ _ _) _
      simp only [spec_Without.l0_, head_end, cond_false]
      exact Ev.bind (specWithout hf hs hi) (Ev.cst rfl)
    · have := step i hlt r (fun _ => e)
      rw [hp] at this
      exact this
    · have := step i hlt (fR false noF) (fun h => by rw [hp] at h; cases h)
      rw [hp] at this
      exact this
/-! ### both alike -/
theorem tagL_get {α : Type} : ∀ (n : Nat) (l : List α) (i : Nat) (h : i < l.length) (h' : i < (tagL n l).length), (tagL n l)[i] = (((n + i : Nat) : Int), l[i])
  | n, x :: l, 0, h, h' => rfl
  | n, x :: l, i + 1, h, h' => by
    have ih := tagL_get (n + 1) l i (by simpa using h) (by rw [tagL_len]; simpa using h)
    simp only [tagL, List.getElem_cons_succ, ih]
    rw [show n + 1 + i = n + (i + 1) by omega]
theorem tagL_iff {α : Type} {n : Nat} {l : List α} {q : Int × α} : q ∈ tagL n l ↔ ∃ j, ∃ h : j < l.length, q = (((n + j : Nat) : Int), l[j]) := by
  rw [List.mem_iff_getElem]
  constructor
  · rintro ⟨j, hj, rfl⟩
    rw [tagL_len] at hj
    exact ⟨j, hj, tagL_get n l j hj _⟩
  · rintro ⟨j, hj, rfl⟩
    exact ⟨j, by rw [tagL_len]; exact hj, tagL_get n l j hj _⟩
theorem keepL_iff {α : Type} {n : Nat} {l : List α} {p : α} : p ∈ keepL ids n l ↔ ∃ q, q ∈ tagL n l ∧ q.1 ∉ ids ∧ q.2 = p := by
  unfold keepL keepT
  rw [List.mem_map]
  constructor
  · rintro ⟨q, hq, rfl⟩
    rw [List.mem_filter] at hq
    exact ⟨q, hq.1, by simpa [keepP] using hq.2, rfl⟩
  · rintro ⟨q, a, b, rfl⟩
    exact ⟨q, List.mem_filter.2 ⟨a, by simpa [keepP] using b⟩, rfl⟩
theorem names_iff {n : Nat} {y : tBlockD} {x : Int} : x ∈ namesB (keepB ids n y) ↔ (∃ p ∈ keepL ids n y.1, x ∈ p.2.1) ∨ (∃ i ∈ keepL ids (n + y.1.length) y.2.1, x ∈ opsB i) ∨ x ∈ endA y.2.2 := by
  unfold namesB keepB
  rw [List.mem_append, List.mem_append, List.mem_flatMap, List.mem_flatMap]
theorem leftO_iff {n : Nat} {y : tBlockD} {x : Int} : leftO ids x (openB n y) = true ↔ x ∈ namesB (keepB ids n y) := by
  rw [names_iff]
  unfold leftO openB
  rw [Bool.or_eq_true, Bool.or_eq_true, List.any_eq_true, List.any_eq_true, decide_eq_true_eq]
  refine or_congr ?_ (or_congr ?_ Iff.rfl)
  · constructor
    · rintro ⟨q, hq, h⟩
      simp only [leftP, Bool.and_eq_true, Bool.not_eq_true', decide_eq_true_eq, decide_eq_false_iff_not] at h
      exact ⟨q.2, keepL_iff.2 ⟨q, hq, h.1, rfl⟩, h.2⟩
    · rintro ⟨p, hp, h⟩
      obtain ⟨q, a, b, rfl⟩ := keepL_iff.1 hp
      refine ⟨q, a, ?_⟩
      simp only [leftP, Bool.and_eq_true, Bool.not_eq_true', decide_eq_true_eq, decide_eq_false_iff_not]
      exact ⟨b, h⟩
  · constructor
    · rintro ⟨q, hq, h⟩
      simp only [leftI, Bool.and_eq_true, Bool.not_eq_true', decide_eq_true_eq, decide_eq_false_iff_not] at h
      exact ⟨q.2, keepL_iff.2 ⟨q, hq, h.1, rfl⟩, h.2⟩
    · rintro ⟨p, hp, h⟩
      obtain ⟨q, a, b, rfl⟩ := keepL_iff.1 hp
      refine ⟨q, a, ?_⟩
      simp only [leftI, Bool.and_eq_true, Bool.not_eq_true', decide_eq_true_eq, decide_eq_false_iff_not]
      exact ⟨b, h⟩
theorem badL_iff {l : List Int} : badL ids l = false ↔ ∀ x ∈ l, x ∉ ids := by
  unfold badL
  rw [List.any_eq_false]
  simp only [decide_eq_true_eq]
theorem goodB_iff {n : Nat} {y : tBlockD} : goodB ids n y = true ↔ ∀ x ∈ namesB (keepB ids n y), x ∉ ids := by
  unfold goodB
  rw [Bool.and_eq_true, Bool.and_eq_true, List.all_eq_true, List.all_eq_true, Bool.not_eq_true', badL_iff]
  constructor
  · rintro ⟨h1, h2, h3⟩ x hx
    rcases names_iff.1 hx with ⟨p, hp, h⟩ | ⟨p, hp, h⟩ | h
    · obtain ⟨q, a, b, rfl⟩ := keepL_iff.1 hp
      obtain ⟨j, hj, rfl⟩ := tagL_iff.1 a
      have := h1 j (List.mem_range.2 hj)
      unfold goodP at this
      rw [getD_at _ _ _ hj, show (n : Int) + (j : Int) = ((n + j : Nat) : Int) by omega, dneg b, Bool.false_or, Bool.not_eq_true', badL_iff] at this
      exact this x h
    · obtain ⟨q, a, b, rfl⟩ := keepL_iff.1 hp
      obtain ⟨j, hj, rfl⟩ := tagL_iff.1 a
      have := h2 j (List.mem_range.2 hj)
      unfold goodI at this
      rw [getD_at _ _ _ hj, show ((n + y.1.length : Nat) : Int) + (j : Int) = ((n + y.1.length + j : Nat) : Int) by omega, dneg b, Bool.false_or, Bool.not_eq_true', badL_iff] at this
      exact this x h
    · exact h3 x h
  · intro h
    refine ⟨fun j hj => ?_, fun j hj => ?_, fun x hx => h x (names_iff.2 (Or.inr (Or.inr hx)))⟩
    · have hj' := List.mem_range.1 hj
      unfold goodP
      rw [getD_at _ _ _ hj', show (n : Int) + (j : Int) = ((n + j : Nat) : Int) by omega]
      by_cases b : ((n + j : Nat) : Int) ∈ ids
      · rw [dpos b]; rfl
      · rw [dneg b, Bool.false_or, Bool.not_eq_true', badL_iff]
        exact fun x hx => h x (names_iff.2 (Or.inl ⟨_, keepL_iff.2 ⟨_, tagL_iff.2 ⟨j, hj', rfl⟩, b, rfl⟩, hx⟩))
    · have hj' := List.mem_range.1 hj
      unfold goodI
      rw [getD_at _ _ _ hj', show ((n + y.1.length : Nat) : Int) + (j : Int) = ((n + y.1.length + j : Nat) : Int) by omega]
      by_cases b : ((n + y.1.length + j : Nat) : Int) ∈ ids
      · rw [dpos b]; rfl
      · rw [dneg b, Bool.false_or, Bool.not_eq_true', badL_iff]
        exact fun x hx => h x (names_iff.2 (Or.inr (Or.inl ⟨_, keepL_iff.2 ⟨_, tagL_iff.2 ⟨j, hj', rfl⟩, b, rfl⟩, hx⟩)))
theorem mapB_iff {β : Type} {g : Nat → tBlockD → β} {y : β} {f : tFuncD} : y ∈ mapB g f.1.length f.2.2.1 ↔ ∃ i, ∃ h : i < f.2.2.1.length, y = g (fstN f i) f.2.2.1[i] := by
  rw [List.mem_iff_getElem]
  constructor
  · rintro ⟨j, hj, rfl⟩
    rw [mapB_len] at hj
    exact ⟨j, hj, mapB_get g _ _ j hj _⟩
  · rintro ⟨j, hj, rfl⟩
    exact ⟨j, by rw [mapB_len]; exact hj, mapB_get g _ _ j hj _⟩
theorem leftX_iff {x : Int} : leftX f ids x = true ↔ ∃ y ∈ keepBs ids f, x ∈ namesB y := by
  unfold leftX openBs
  rw [List.any_eq_true]
  constructor
  · rintro ⟨o, ho, h⟩
    obtain ⟨i, hi, rfl⟩ := mapB_iff.1 ho
    exact ⟨_, mapB_iff.2 ⟨i, hi, rfl⟩, leftO_iff.1 h⟩
  · rintro ⟨y, hy, h⟩
    obtain ⟨i, hi, rfl⟩ := mapB_iff.1 (show y ∈ mapB (keepB ids) f.1.length f.2.2.1 from hy)
    exact ⟨_, mapB_iff.2 ⟨i, hi, rfl⟩, leftO_iff.2 h⟩
theorem goodF_iff : (List.range f.2.2.1.length).all (goodF ids f) = true ↔ ∀ y ∈ keepBs ids f, ∀ x ∈ namesB y, x ∉ ids := by
  rw [List.all_eq_true]
  constructor
  · intro h y hy
    obtain ⟨i, hi, rfl⟩ := mapB_iff.1 (show y ∈ mapB (keepB ids) f.1.length f.2.2.1 from hy)
    have := h i (List.mem_range.2 hi)
    unfold goodF at this
    rw [getD_at _ _ _ hi] at this
    exact goodB_iff.1 this
  · intro h i hi
    have hi' := List.mem_range.1 hi
    unfold goodF
    rw [getD_at _ _ _ hi']
    exact goodB_iff.2 (h _ (mapB_iff.2 ⟨i, hi', rfl⟩))
theorem woD_eq (f : tFuncD) (ids : List Int) : woD f ids = woC f ids := by
  unfold woD woC
  congr 1
  rw [Bool.eq_iff_iff, Bool.and_eq_true, goodF_iff, List.all_eq_true, List.all_eq_true]
  constructor
  · intro h
    refine ⟨fun i hi => ?_, fun y hy x hx hm => ?_⟩
    · have := h i hi
      unfold inS at this
      unfold inI
      rw [Bool.and_eq_true, Bool.and_eq_true] at this
      rw [Bool.and_eq_true]
      exact ⟨this.2.1, this.1⟩
    · obtain ⟨j, hj, rfl⟩ := List.mem_iff_getElem.1 hm
      have := h j (List.mem_range.2 hj)
      unfold inS at this
      rw [Bool.and_eq_true, Bool.and_eq_true, getD_at _ _ _ hj, leftX_iff.2 ⟨y, hy, hx⟩] at this
      exact absurd this.2.2 (by decide)
  · rintro ⟨h1, h2⟩ i hi
    have := h1 i hi
    unfold inI at this
    unfold inS
    rw [Bool.and_eq_true] at this
    rw [Bool.and_eq_true, Bool.and_eq_true]
    refine ⟨this.2, this.1, ?_⟩
    have hi' := List.mem_range.1 hi
    rw [getD_at _ _ _ hi', Bool.not_eq_true']
    cases hx : leftX f ids ids[i] with
    | false => rfl
    | true =>
      obtain ⟨y, hy, hn⟩ := leftX_iff.1 hx
      exact absurd (List.getElem_mem hi') (h2 y hy _ hn)
theorem names_vid {funcs : Int} (hf : Fm funcs f) {y : tBlockD} (hy : y ∈ keepBs ids f) {x : Int} (hx : x ∈ namesB y) : vid f x := by
  obtain ⟨m, b, hb, rfl⟩ := mapB_mem (show y ∈ mapB (keepB ids) f.1.length f.2.2.1 from hy)
  rcases names_iff.1 hx with ⟨p, hp, h⟩ | ⟨p, hp, h⟩ | h
  · exact hf.vp hb (keepL_mem hp) h
  · exact (hf.vo hb (keepL_mem hp)).2 x h
  · unfold endA at h
    by_cases c1 : b.2.2.1 = 1
    · rw [dpos c1] at h
      rw [List.mem_singleton.1 h]
      exact hf.vt hb (Or.inl c1)
    · rw [dneg c1] at h
      by_cases c3 : b.2.2.1 = 3
      · rw [dpos c3] at h
        rw [List.mem_singleton.1 (show x ∈ [b.2.2.2.1] from h)]
        exact hf.vt hb (Or.inr c3)
      · rw [dneg c3] at h
        cases h
theorem woS_eq (h : woC f ids = true) : woS f ids = woG f ids := by
  unfold woC at h
  rw [Bool.and_eq_true, Bool.and_eq_true] at h
  have hf : Fm 3 f := Fm.of h.1
  have hg := goodF_iff.1 h.2.2
  unfold woS woG subF
  have e : (keepF ids f).2.2.1.map (subB (toS f.1.length ids (cntN f) (cntN f))) = (keepF ids f).2.2.1.map (subB (toN f.1.length ids (cntN f))) := List.map_congr_left fun y hy => subB_congr fun x hx => by
    have hv := names_vid hf (show y ∈ keepBs ids f from hy) hx
    unfold vid at hv
    rw [cntN_eq] at hv
    exact sub_same hv.1 hv.2 (hg y hy x hx)
  rw [e]
def woR (f : tFuncD) (ids : List Int) : tFuncD := bif woC f ids then woG f ids else noF
theorem woR_small (h : Small tFunc f) : Small tFunc (woR f ids) := by
  unfold woR
  cases woC f ids
  · exact noF_small
  · exact subF_small (keepF_small h)
theorem specWo (hs : Small tFunc f) (hi : ids.length ≤ 1048576) : Ev (fun k => spec_Without.f k f ids) (fR (woC f ids) (woR f ids)) := by
  refine (specWoAll hs hi).rw ?_
  rw [woD_eq]
  unfold woR
  cases h : woC f ids with
  | false => rfl
  | true =>
    show fR true (woS f ids) = fR true (woG f ids)
    rw [woS_eq h]
theorem implWo (hs : Small tFunc f) (hi : ids.length ≤ 1048576) : Ev (fun k => impl_Without.f k f ids) (fR (woC f ids) (woR f ids)) := implWoAll hs hi
end
end Go.Proofs.YtkfehogikjcgkaaGreat.V
