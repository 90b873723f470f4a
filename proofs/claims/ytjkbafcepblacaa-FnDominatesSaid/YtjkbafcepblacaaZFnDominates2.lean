/- PROVED HERE: what the functions that the law FnDominates reaches do in memory, each as a plain Lean function, and what these tell: part 3 of 5 of the proof of that law; no condition beyond those written out at each theorem. -/
import Derived.Test.YtjkbafcepblacaaZFnDominates0
import Derived.Test.YtjkbafcepblacaaZFnDominates1
namespace Go.Proofs.Ytjkbafcepblacaa.X
open Go.RowKit Go.Proofs.YtjkbafcepblacaaW.PrintWords Go.Proofs.YtjkbafcepblacaaW.PrintLast Go.Proofs.YtjkbafcepblacaaW.PrintMore
attribute [local go_sem] max2_int min2_int max_two min_two max_three min_three max_four min_four   -- for this text's walks alone
set_option linter.unusedVariables false
set_option linter.unusedSimpArgs false
/-! ### laws_FnDominates: function 5 -/
mutual
def laws_FnDominates.l0 : Nat → List Int → Int → List Int → Int → List (S88) → Option (Bool)
 | 0, _, _, _, _, _ => none
 | k + 1, x6, x7, x517000, x517001, x517002 => if x7 < (x6.length : Int) then (if 0 ≤ x7 then ((impl_Dominates.f k x517000 x517001 x517002 (rd x6 x7) (rd x6 x7)).bind fun t524 => (if t524 = true then ((impl_Dominates.f k x517000 x517001 x517002 0 (rd x6 x7)).bind fun t526 => (laws_FnDominates.j1 k x6 x7 (!t526) x517000 x517001 x517002)) else (laws_FnDominates.j1 k x6 x7 true x517000 x517001 x517002))) else (none)) else (some true)
def laws_FnDominates.j1 : Nat → List Int → Int → Bool → List Int → Int → List (S88) → Option (Bool)
 | 0, _, _, _, _, _, _ => none
 | k + 1, x6, x7, x55, x517000, x517001, x517002 => if x55 = true then (some false) else (laws_FnDominates.l1 k x6 x7 0 x517000 x517001 x517002)
def laws_FnDominates.l1 : Nat → List Int → Int → Int → List Int → Int → List (S88) → Option (Bool)
 | 0, _, _, _, _, _, _ => none
 | k + 1, x6, x7, x8, x517000, x517001, x517002 => if x8 < (x6.length : Int) then (if 0 ≤ x7 then (if x7 < (x6.length : Int) then (if 0 ≤ x8 then ((impl_Dominates.f k x517000 x517001 x517002 (rd x6 x7) (rd x6 x8)).bind fun t529 => (if t529 = true then (if x7 = x8 then (laws_FnDominates.j3 k x6 x7 x8 t529 false x517000 x517001 x517002) else ((impl_Dominates.f k x517000 x517001 x517002 (rd x6 x8) (rd x6 x7)).bind fun t532 => (laws_FnDominates.j3 k x6 x7 x8 t529 t532 x517000 x517001 x517002))) else (laws_FnDominates.j3 k x6 x7 x8 t529 false x517000 x517001 x517002))) else (none)) else (none)) else (none)) else (laws_FnDominates.l0 k x6 (wrap64 (x7 + 1)) x517000 x517001 x517002)
def laws_FnDominates.j3 : Nat → List Int → Int → Int → Bool → Bool → List Int → Int → List (S88) → Option (Bool)
 | 0, _, _, _, _, _, _, _, _ => none
 | k + 1, x6, x7, x8, x9, x89, x517000, x517001, x517002 => if x89 = true then (some false) else (laws_FnDominates.l2 k x6 x7 x8 x9 0 x517000 x517001 x517002)
def laws_FnDominates.l2 : Nat → List Int → Int → Int → Bool → Int → List Int → Int → List (S88) → Option (Bool)
 | 0, _, _, _, _, _, _, _, _ => none
 | k + 1, x6, x7, x8, x9, x10, x517000, x517001, x517002 => if x10 < (x6.length : Int) then (laws_FnDominates.j5 k x6 x7 x8 x9 x10 x9 x517000 x517001 x517002) else (laws_FnDominates.j5 k x6 x7 x8 x9 x10 false x517000 x517001 x517002)
def laws_FnDominates.j5 : Nat → List Int → Int → Int → Bool → Int → Bool → List Int → Int → List (S88) → Option (Bool)
 | 0, _, _, _, _, _, _, _, _, _ => none
 | k + 1, x6, x7, x8, x9, x10, x96, x517000, x517001, x517002 => if x96 = true then (if 0 ≤ x8 then (if x8 < (x6.length : Int) then (if 0 ≤ x10 then (if x10 < (x6.length : Int) then ((impl_Dominates.f k x517000 x517001 x517002 (rd x6 x8) (rd x6 x10)).bind fun t535 => (if t535 = true then (if 0 ≤ x7 then (if x7 < (x6.length : Int) then ((impl_Dominates.f k x517000 x517001 x517002 (rd x6 x7) (rd x6 x10)).bind fun t538 => (if t538 = true then (laws_FnDominates.l2 k x6 x7 x8 x9 (wrap64 (x10 + 1)) x517000 x517001 x517002) else (some false))) else (none)) else (none)) else (laws_FnDominates.l2 k x6 x7 x8 x9 (wrap64 (x10 + 1)) x517000 x517001 x517002))) else (none)) else (none)) else (none)) else (none)) else (laws_FnDominates.l1 k x6 x7 (wrap64 (x8 + 1)) x517000 x517001 x517002)
end
def laws_FnDominates.f (k : Nat) (l0 : List Int) : Option (Bool) := (laws_big.f l0).bind fun t506 => (if t506 = true then (some true) else ((spec_DrawDominates.f k l0).bind fun bt507 => ((impl_Dominates.f k bt507.1 bt507.2.1 bt507.2.2.1 bt507.2.2.2.1 bt507.2.2.2.2).bind fun t517 => ((spec_Dominates.f k bt507.1 bt507.2.1 bt507.2.2.1 bt507.2.2.2.1 bt507.2.2.2.2).bind fun t518 => (if (t517 != t518) = true then (some false) else ((impl_Reached.f k bt507.1 bt507.2.1 bt507.2.2.1).bind fun t519 => (laws_FnDominates.l0 k t519 0 bt507.1 bt507.2.1 bt507.2.2.1)))))))
theorem laws_FnDominates.mono_l : ∀ k, (∀ y0 y1 y2 y3 y4, LeO (laws_FnDominates.l0 k y0 y1 y2 y3 y4) (laws_FnDominates.l0 (k + 1) y0 y1 y2 y3 y4)) ∧ (∀ y0 y1 y2 y3 y4 y5, LeO (laws_FnDominates.j1 k y0 y1 y2 y3 y4 y5) (laws_FnDominates.j1 (k + 1) y0 y1 y2 y3 y4 y5)) ∧ (∀ y0 y1 y2 y3 y4 y5, LeO (laws_FnDominates.l1 k y0 y1 y2 y3 y4 y5) (laws_FnDominates.l1 (k + 1) y0 y1 y2 y3 y4 y5)) ∧ (∀ y0 y1 y2 y3 y4 y5 y6 y7, LeO (laws_FnDominates.j3 k y0 y1 y2 y3 y4 y5 y6 y7) (laws_FnDominates.j3 (k + 1) y0 y1 y2 y3 y4 y5 y6 y7)) ∧ (∀ y0 y1 y2 y3 y4 y5 y6 y7, LeO (laws_FnDominates.l2 k y0 y1 y2 y3 y4 y5 y6 y7) (laws_FnDominates.l2 (k + 1) y0 y1 y2 y3 y4 y5 y6 y7)) ∧ (∀ y0 y1 y2 y3 y4 y5 y6 y7 y8, LeO (laws_FnDominates.j5 k y0 y1 y2 y3 y4 y5 y6 y7 y8) (laws_FnDominates.j5 (k + 1) y0 y1 y2 y3 y4 y5 y6 y7 y8))
 | 0 => ⟨fun _ _ _ _ _ r h => by simp [laws_FnDominates.l0] at h, fun _ _ _ _ _ _ r h => by simp [laws_FnDominates.j1] at h, fun _ _ _ _ _ _ r h => by simp [laws_FnDominates.l1] at h, fun _ _ _ _ _ _ _ _ r h => by simp [laws_FnDominates.j3] at h, fun _ _ _ _ _ _ _ _ r h => by simp [laws_FnDominates.l2] at h, fun _ _ _ _ _ _ _ _ _ r h => by simp [laws_FnDominates.j5] at h⟩
 | k + 1 => by
  obtain ⟨ih0, ih1, ih2, ih3, ih4, ih5⟩ := laws_FnDominates.mono_l k
  refine ⟨?_, ?_, ?_, ?_, ?_, ?_⟩
  ·intro y0 y1 y2 y3 y4
   unfold laws_FnDominates.l0
   repeat' first
   | (with_reducible exact ih0 _ _ _ _ _)
   | (with_reducible exact ih1 _ _ _ _ _ _)
   | (with_reducible exact ih2 _ _ _ _ _ _)
   | (with_reducible exact ih3 _ _ _ _ _ _ _ _)
   | (with_reducible exact ih4 _ _ _ _ _ _ _ _)
   | (with_reducible exact ih5 _ _ _ _ _ _ _ _ _)
   | (with_reducible exact impl_Dominates.mono _ _ _ _ _ _)
   | (with_reducible exact impl_Reached.mono _ _ _ _)
   | (with_reducible exact spec_Dominates.mono _ _ _ _ _ _)
   | (with_reducible exact spec_DrawDominates.mono _ _)
   | (with_reducible exact LeO.refl _)
   | (with_reducible exact LeO.none _)
   | (with_reducible refine LeO.ite ?_ ?_)
   | (with_reducible refine LeO.bind ?_ (fun _ => ?_))
   | exact ih0 _ _ _ _ _
   | exact ih1 _ _ _ _ _ _
   | exact ih2 _ _ _ _ _ _
   | exact ih3 _ _ _ _ _ _ _ _
   | exact ih4 _ _ _ _ _ _ _ _
   | exact ih5 _ _ _ _ _ _ _ _ _
   | exact impl_Dominates.mono _ _ _ _ _ _
   | exact impl_Reached.mono _ _ _ _
   | exact spec_Dominates.mono _ _ _ _ _ _
   | exact spec_DrawDominates.mono _ _
   | exact LeO.none _
   | refine LeO.ite ?_ ?_
   | refine LeO.bind ?_ (fun _ => ?_)
  ·intro y0 y1 y2 y3 y4 y5
   unfold laws_FnDominates.j1
   repeat' first
   | (with_reducible exact ih0 _ _ _ _ _)
   | (with_reducible exact ih1 _ _ _ _ _ _)
   | (with_reducible exact ih2 _ _ _ _ _ _)
   | (with_reducible exact ih3 _ _ _ _ _ _ _ _)
   | (with_reducible exact ih4 _ _ _ _ _ _ _ _)
   | (with_reducible exact ih5 _ _ _ _ _ _ _ _ _)
   | (with_reducible exact impl_Dominates.mono _ _ _ _ _ _)
   | (with_reducible exact impl_Reached.mono _ _ _ _)
   | (with_reducible exact spec_Dominates.mono _ _ _ _ _ _)
   | (with_reducible exact spec_DrawDominates.mono _ _)
   | (with_reducible exact LeO.refl _)
   | (with_reducible exact LeO.none _)
   | (with_reducible refine LeO.ite ?_ ?_)
   | (with_reducible refine LeO.bind ?_ (fun _ => ?_))
   | exact ih0 _ _ _ _ _
   | exact ih1 _ _ _ _ _ _
   | exact ih2 _ _ _ _ _ _
   | exact ih3 _ _ _ _ _ _ _ _
   | exact ih4 _ _ _ _ _ _ _ _
   | exact ih5 _ _ _ _ _ _ _ _ _
   | exact impl_Dominates.mono _ _ _ _ _ _
   | exact impl_Reached.mono _ _ _ _
   | exact spec_Dominates.mono _ _ _ _ _ _
   | exact spec_DrawDominates.mono _ _
   | exact LeO.none _
   | refine LeO.ite ?_ ?_
   | refine LeO.bind ?_ (fun _ => ?_)
  ·intro y0 y1 y2 y3 y4 y5
   unfold laws_FnDominates.l1
   repeat' first
   | (with_reducible exact ih0 _ _ _ _ _)
   | (with_reducible exact ih1 _ _ _ _ _ _)
   | (with_reducible exact ih2 _ _ _ _ _ _)
   | (with_reducible exact ih3 _ _ _ _ _ _ _ _)
   | (with_reducible exact ih4 _ _ _ _ _ _ _ _)
   | (with_reducible exact ih5 _ _ _ _ _ _ _ _ _)
   | (with_reducible exact impl_Dominates.mono _ _ _ _ _ _)
   | (with_reducible exact impl_Reached.mono _ _ _ _)
   | (with_reducible exact spec_Dominates.mono _ _ _ _ _ _)
   | (with_reducible exact spec_DrawDominates.mono _ _)
   | (with_reducible exact LeO.refl _)
   | (with_reducible exact LeO.none _)
   | (with_reducible refine LeO.ite ?_ ?_)
   | (with_reducible refine LeO.bind ?_ (fun _ => ?_))
   | exact ih0 _ _ _ _ _
   | exact ih1 _ _ _ _ _ _
   | exact ih2 _ _ _ _ _ _
   | exact ih3 _ _ _ _ _ _ _ _
   | exact ih4 _ _ _ _ _ _ _ _
   | exact ih5 _ _ _ _ _ _ _ _ _
   | exact impl_Dominates.mono _ _ _ _ _ _
   | exact impl_Reached.mono _ _ _ _
   | exact spec_Dominates.mono _ _ _ _ _ _
   | exact spec_DrawDominates.mono _ _
   | exact LeO.none _
   | refine LeO.ite ?_ ?_
   | refine LeO.bind ?_ (fun _ => ?_)
  ·intro y0 y1 y2 y3 y4 y5 y6 y7
   unfold laws_FnDominates.j3
   repeat' first
   | (with_reducible exact ih0 _ _ _ _ _)
   | (with_reducible exact ih1 _ _ _ _ _ _)
   | (with_reducible exact ih2 _ _ _ _ _ _)
   | (with_reducible exact ih3 _ _ _ _ _ _ _ _)
   | (with_reducible exact ih4 _ _ _ _ _ _ _ _)
   | (with_reducible exact ih5 _ _ _ _ _ _ _ _ _)
   | (with_reducible exact impl_Dominates.mono _ _ _ _ _ _)
   | (with_reducible exact impl_Reached.mono _ _ _ _)
   | (with_reducible exact spec_Dominates.mono _ _ _ _ _ _)
   | (with_reducible exact spec_DrawDominates.mono _ _)
   | (with_reducible exact LeO.refl _)
   | (with_reducible exact LeO.none _)
   | (with_reducible refine LeO.ite ?_ ?_)
   | (with_reducible refine LeO.bind ?_ (fun _ => ?_))
   | exact ih0 _ _ _ _ _
   | exact ih1 _ _ _ _ _ _
   | exact ih2 _ _ _ _ _ _
   | exact ih3 _ _ _ _ _ _ _ _
   | exact ih4 _ _ _ _ _ _ _ _
   | exact ih5 _ _ _ _ _ _ _ _ _
   | exact impl_Dominates.mono _ _ _ _ _ _
   | exact impl_Reached.mono _ _ _ _
   | exact spec_Dominates.mono _ _ _ _ _ _
   | exact spec_DrawDominates.mono _ _
   | exact LeO.none _
   | refine LeO.ite ?_ ?_
   | refine LeO.bind ?_ (fun _ => ?_)
  ·intro y0 y1 y2 y3 y4 y5 y6 y7
   unfold laws_FnDominates.l2
   repeat' first
   | (with_reducible exact ih0 _ _ _ _ _)
   | (with_reducible exact ih1 _ _ _ _ _ _)
   | (with_reducible exact ih2 _ _ _ _ _ _)
   | (with_reducible exact ih3 _ _ _ _ _ _ _ _)
   | (with_reducible exact ih4 _ _ _ _ _ _ _ _)
   | (with_reducible exact ih5 _ _ _ _ _ _ _ _ _)
   | (with_reducible exact impl_Dominates.mono _ _ _ _ _ _)
   | (with_reducible exact impl_Reached.mono _ _ _ _)
   | (with_reducible exact spec_Dominates.mono _ _ _ _ _ _)
   | (with_reducible exact spec_DrawDominates.mono _ _)
   | (with_reducible exact LeO.refl _)
   | (with_reducible exact LeO.none _)
   | (with_reducible refine LeO.ite ?_ ?_)
   | (with_reducible refine LeO.bind ?_ (fun _ => ?_))
   | exact ih0 _ _ _ _ _
   | exact ih1 _ _ _ _ _ _
   | exact ih2 _ _ _ _ _ _
   | exact ih3 _ _ _ _ _ _ _ _
   | exact ih4 _ _ _ _ _ _ _ _
   | exact ih5 _ _ _ _ _ _ _ _ _
   | exact impl_Dominates.mono _ _ _ _ _ _
   | exact impl_Reached.mono _ _ _ _
   | exact spec_Dominates.mono _ _ _ _ _ _
   | exact spec_DrawDominates.mono _ _
   | exact LeO.none _
   | refine LeO.ite ?_ ?_
   | refine LeO.bind ?_ (fun _ => ?_)
  ·intro y0 y1 y2 y3 y4 y5 y6 y7 y8
   unfold laws_FnDominates.j5
   repeat' first
   | (with_reducible exact ih0 _ _ _ _ _)
   | (with_reducible exact ih1 _ _ _ _ _ _)
   | (with_reducible exact ih2 _ _ _ _ _ _)
   | (with_reducible exact ih3 _ _ _ _ _ _ _ _)
   | (with_reducible exact ih4 _ _ _ _ _ _ _ _)
   | (with_reducible exact ih5 _ _ _ _ _ _ _ _ _)
   | (with_reducible exact impl_Dominates.mono _ _ _ _ _ _)
   | (with_reducible exact impl_Reached.mono _ _ _ _)
   | (with_reducible exact spec_Dominates.mono _ _ _ _ _ _)
   | (with_reducible exact spec_DrawDominates.mono _ _)
   | (with_reducible exact LeO.refl _)
   | (with_reducible exact LeO.none _)
   | (with_reducible refine LeO.ite ?_ ?_)
   | (with_reducible refine LeO.bind ?_ (fun _ => ?_))
   | exact ih0 _ _ _ _ _
   | exact ih1 _ _ _ _ _ _
   | exact ih2 _ _ _ _ _ _
   | exact ih3 _ _ _ _ _ _ _ _
   | exact ih4 _ _ _ _ _ _ _ _
   | exact ih5 _ _ _ _ _ _ _ _ _
   | exact impl_Dominates.mono _ _ _ _ _ _
   | exact impl_Reached.mono _ _ _ _
   | exact spec_Dominates.mono _ _ _ _ _ _
   | exact spec_DrawDominates.mono _ _
   | exact LeO.none _
   | refine LeO.ite ?_ ?_
   | refine LeO.bind ?_ (fun _ => ?_)
theorem laws_FnDominates.mono : ∀ a0 k, LeO (laws_FnDominates.f k a0) (laws_FnDominates.f (k + 1) a0) := by
 intro a0 k
 obtain ⟨ih0, ih1, ih2, ih3, ih4, ih5⟩ := laws_FnDominates.mono_l k
 unfold laws_FnDominates.f
 repeat' first
   | (with_reducible exact ih0 _ _ _ _ _)
   | (with_reducible exact ih1 _ _ _ _ _ _)
   | (with_reducible exact ih2 _ _ _ _ _ _)
   | (with_reducible exact ih3 _ _ _ _ _ _ _ _)
   | (with_reducible exact ih4 _ _ _ _ _ _ _ _)
   | (with_reducible exact ih5 _ _ _ _ _ _ _ _ _)
   | (with_reducible exact impl_Dominates.mono _ _ _ _ _ _)
   | (with_reducible exact impl_Reached.mono _ _ _ _)
   | (with_reducible exact spec_Dominates.mono _ _ _ _ _ _)
   | (with_reducible exact spec_DrawDominates.mono _ _)
   | (with_reducible exact LeO.refl _)
   | (with_reducible exact LeO.none _)
   | (with_reducible refine LeO.ite ?_ ?_)
   | (with_reducible refine LeO.bind ?_ (fun _ => ?_))
   | exact ih0 _ _ _ _ _
   | exact ih1 _ _ _ _ _ _
   | exact ih2 _ _ _ _ _ _
   | exact ih3 _ _ _ _ _ _ _ _
   | exact ih4 _ _ _ _ _ _ _ _
   | exact ih5 _ _ _ _ _ _ _ _ _
   | exact impl_Dominates.mono _ _ _ _ _ _
   | exact impl_Reached.mono _ _ _ _
   | exact spec_Dominates.mono _ _ _ _ _ _
   | exact spec_DrawDominates.mono _ _
   | exact LeO.none _
   | refine LeO.ite ?_ ?_
   | refine LeO.bind ?_ (fun _ => ?_)
def laws_FnDominates.T4 : Bool × List (List Nat × List Nat) := (true, [([], []), ([], []), ([], []), ([0, 1, 2], [0, 1, 2]), ([], []), ([], []), ([], []), ([4, 5, 6, 3], [4, 5, 6]), ([3, 7], [3, 7])])
def laws_FnDominates.B4 : List Nat := [0, 0, 0, 7, 0, 0, 0, 127, 255]
theorem laws_FnDominates.tab4 : rtab .any (opsOf Try.f5 4) = laws_FnDominates.T4 := by kernel_rfl
theorem laws_FnDominates.bits4 : waitsOk laws_FnDominates.T4.2 laws_FnDominates.B4 = true := by kernel_rfl
def laws_FnDominates.T10 : Bool × List (List Nat × List Nat) := (true, [([], []), ([], []), ([], []), ([1, 2], [1, 2]), ([3], [3]), ([], []), ([], []), ([5, 6], [5, 6]), ([7], [7]), ([0, 4, 8], [0, 4, 8]), ([9], [9]), ([10, 9], [10]), ([11], [11]), ([11], [11]), ([11], [11]), ([13, 14, 11], [11, 13, 14]), ([15, 11], [11, 15]), ([12, 16, 11, 11], [11, 12, 16]), ([17, 11], [11, 17]), ([11, 18], [11, 18])])
def laws_FnDominates.B10 : List Nat := [0, 0, 0, 6, 14, 0, 0, 96, 224, 511, 1023, 2047, 4095, 4095, 4095, 28671, 61439, 131071, 262143, 524287]
theorem laws_FnDominates.tab10 : rtab .any (opsOf Try.f5 10) = laws_FnDominates.T10 := by kernel_rfl
theorem laws_FnDominates.bits10 : waitsOk laws_FnDominates.T10.2 laws_FnDominates.B10 = true := by kernel_rfl
def laws_FnDominates.T15 : Bool × List (List Nat × List Nat) := (true, [([], []), ([], []), ([], []), ([1, 2], [1, 2]), ([3], [3]), ([], []), ([], []), ([5, 6], [5, 6]), ([7], [7]), ([0, 4, 8], [0, 4, 8]), ([9, 9, 0, 1, 2, 3, 4, 5, 6, 7, 8, 9], [9])])
def laws_FnDominates.B15 : List Nat := [0, 0, 0, 6, 14, 0, 0, 96, 224, 511, 1023]
theorem laws_FnDominates.tab15 : rtab .any (opsOf Try.f5 15) = laws_FnDominates.T15 := by kernel_rfl
theorem laws_FnDominates.bits15 : waitsOk laws_FnDominates.T15.2 laws_FnDominates.B15 = true := by kernel_rfl
def laws_FnDominates.T16 : Bool × List (List Nat × List Nat) := (true, [([], []), ([0], [0]), ([1], [1]), ([1], [1]), ([2, 3, 1], [1, 2, 3]), ([1, 4], [1, 4]), ([5, 1], [5]), ([6], [6]), ([6], [6]), ([6], [6]), ([8, 9, 6], [6, 8, 9]), ([10, 6], [6, 10]), ([6], [6]), ([6], [6]), ([12, 13, 6], [6, 12, 13]), ([14, 6], [6, 14]), ([7, 11, 15, 6, 6], [6, 7, 11, 15]), ([6, 16], [6, 16])])
def laws_FnDominates.B16 : List Nat := [0, 1, 3, 3, 15, 31, 63, 127, 127, 127, 895, 1919, 127, 127, 12415, 28799, 65535, 131071]
theorem laws_FnDominates.tab16 : rtab .any (opsOf Try.f5 16) = laws_FnDominates.T16 := by kernel_rfl
theorem laws_FnDominates.bits16 : waitsOk laws_FnDominates.T16.2 laws_FnDominates.B16 = true := by kernel_rfl
def laws_FnDominates.T21 : Bool × List (List Nat × List Nat) := (true, [([], []), ([], []), ([], []), ([1, 2], [1, 2]), ([3], [3]), ([], []), ([], []), ([5, 6], [5, 6]), ([7], [7]), ([0, 4, 8], [0, 4, 8]), ([9, 9], [9]), ([10], [10]), ([10], [10]), ([10], [10]), ([12, 13, 10], [10, 12, 13]), ([14, 10], [10, 14]), ([10], [10]), ([10], [10]), ([16, 17, 10], [10, 16, 17]), ([18, 10], [10, 18]), ([11, 15, 19, 10, 10], [10, 11, 15, 19]), ([20, 10], [10, 20]), ([10, 21], [10, 21])])
def laws_FnDominates.B21 : List Nat := [0, 0, 0, 6, 14, 0, 0, 96, 224, 511, 1023, 2047, 2047, 2047, 14335, 30719, 2047, 2047, 198655, 460799, 1048575, 2097151, 4194303]
theorem laws_FnDominates.tab21 : rtab .any (opsOf Try.f5 21) = laws_FnDominates.T21 := by kernel_rfl
theorem laws_FnDominates.bits21 : waitsOk laws_FnDominates.T21.2 laws_FnDominates.B21 = true := by kernel_rfl
set_option maxHeartbeats 8000000 in
set_option maxRecDepth 100000 in
theorem laws_FnDominates.calls (k : Nat) (A0 : Option Addr) (c0 : Nat) (l0 : List Int) (r : Bool) (w : World) (hr0 : Kd.C (Kd.int .u8) w A0 l0.length l0) (hc0 : l0.length ≤ c0) (h : laws_FnDominates.f k l0 = some r) :
  Calls Try.prog 5 #[.slice A0 l0.length c0] w fun e w' => e = .returned (.bool r) ∧ Below w.heap.size w w' := by
 have hu41 := Try.underlying41
 have HR0 := Aside0.mk hr0
 have HC0 := Aside0.mk hc0
 clear hr0 hc0
 have HB := Aside0.mk (Below.refl w.heap.size w)
 have H : ((laws_big.f l0).bind fun t506 => (if t506 = true then (some true) else ((spec_DrawDominates.f k l0).bind fun bt507 => ((impl_Dominates.f k bt507.1 bt507.2.1 bt507.2.2.1 bt507.2.2.2.1 bt507.2.2.2.2).bind fun t517 => ((spec_Dominates.f k bt507.1 bt507.2.1 bt507.2.2.1 bt507.2.2.2.1 bt507.2.2.2.2).bind fun t518 => (if (t517 != t518) = true then (some false) else ((impl_Reached.f k bt507.1 bt507.2.1 bt507.2.2.1).bind fun t519 => (laws_FnDominates.l0 k t519 0 bt507.1 bt507.2.1 bt507.2.2.1)))))))) = some r := h
 clear h
 replace H := Option.bind_eq_some_iff.mp H
 obtain ⟨t506, A20, H⟩ := H
 replace H : (if t506 = true then (some true) else ((spec_DrawDominates.f k l0).bind fun bt507 => ((impl_Dominates.f k bt507.1 bt507.2.1 bt507.2.2.1 bt507.2.2.2.1 bt507.2.2.2.2).bind fun t517 => ((spec_Dominates.f k bt507.1 bt507.2.1 bt507.2.2.1 bt507.2.2.2.1 bt507.2.2.2.2).bind fun t518 => (if (t517 != t518) = true then (some false) else ((impl_Reached.f k bt507.1 bt507.2.1 bt507.2.2.1).bind fun t519 => (laws_FnDominates.l0 k t519 0 bt507.1 bt507.2.1 bt507.2.2.1))))))) = some r := H
 have A2 := Aside0.mk A20
 clear A20
 by_cases c3 : t506 = true
 ·subst c3
  have H1 := (if_pos rfl).symm.trans H
  clear H
  have H := H1
  clear H1
  obtain rfl := Option.some.inj H
  go_enter Try.func5, Try.ntmps5
  go_wp2_with (first | ((with_reducible refine gate_callee (f := 25) rfl ?_); refine gL_ (some 12) Try.func25 #[.slice A0 l0.length c0] ?_; (with_reducible refine (laws_big.calls _ _ l0 true _ ?side1 ?side2 A2.out).mono ?_); (case side1 => repeat (first | exact HR0.out | (with_reducible refine Kd.C_alloc ?_ _) | (with_reducible refine Kd.C_drewN ?_ _) | (with_reducible refine Kd.C_drew ?_))); (case side2 => exact HC0.out); rintro e w' ⟨rfl, ⟨nd, rfl⟩⟩; refine ⟨_, rfl, ?_⟩))
  go_ret
  exact ⟨rG_, hB_⟩
 ·replace c3 := Bool.eq_false_iff.mpr c3
  subst c3
  have H1 := (if_neg (show ¬ (false = true) by decide)).symm.trans H
  clear H
  have H := H1
  clear H1
  replace H := Option.bind_eq_some_iff.mp H
  obtain ⟨⟨t507, t510, t511, t514, t515⟩, A40, H⟩ := H
  replace H : ((impl_Dominates.f k t507 t510 t511 t514 t515).bind fun t517 => ((spec_Dominates.f k t507 t510 t511 t514 t515).bind fun t518 => (if (t517 != t518) = true then (some false) else ((impl_Reached.f k t507 t510 t511).bind fun t519 => (laws_FnDominates.l0 k t519 0 t507 t510 t511))))) = some r := H
  have A4 := Aside0.mk A40
  clear A40
  replace H := Option.bind_eq_some_iff.mp H
  obtain ⟨t517, A50, H⟩ := H
  replace H : ((spec_Dominates.f k t507 t510 t511 t514 t515).bind fun t518 => (if (t517 != t518) = true then (some false) else ((impl_Reached.f k t507 t510 t511).bind fun t519 => (laws_FnDominates.l0 k t519 0 t507 t510 t511)))) = some r := H
  have A5 := Aside0.mk A50
  clear A50
  replace H := Option.bind_eq_some_iff.mp H
  obtain ⟨t518, A60, H⟩ := H
  replace H : (if (t517 != t518) = true then (some false) else ((impl_Reached.f k t507 t510 t511).bind fun t519 => (laws_FnDominates.l0 k t519 0 t507 t510 t511))) = some r := H
  have A6 := Aside0.mk A60
  clear A60
  by_cases c7 : (t517 != t518) = true
  ·rw [if_pos c7] at H
   have c7b0 : (t517 != t518) = true := c7
   (try (have c7b1 : decide (t517 = t518) = false := by simpa using c7))
   (try (have c7b2 : (t517 == t518) = false := by simpa using c7))
   (try (have c7b3 : ¬ (t517 = t518) := by simpa using c7))
   clear c7
   obtain rfl := Option.some.inj H
   go_enter Try.func5, Try.ntmps5
   try go_wp2_with (first | ((with_reducible refine gate_callee (f := 25) rfl ?_); refine gL_ (some 12) Try.func25 #[.slice A0 l0.length c0] ?_; (with_reducible refine (laws_big.calls _ _ l0 false _ ?side1 ?side2 A2.out).mono ?_); (case side1 => repeat (first | exact HR0.out | (with_reducible refine Kd.C_alloc ?_ _) | (with_reducible refine Kd.C_drewN ?_ _) | (with_reducible refine Kd.C_drew ?_))); (case side2 => exact HC0.out); rintro e w' ⟨rfl, ⟨nd, rfl⟩⟩; refine ⟨_, rfl, ?_⟩) | ((with_reducible refine gate_callee (f := 26) rfl ?_); refine gL_ (some 15) Try.func26 #[.slice A0 l0.length c0] ?_; (with_reducible refine (spec_DrawDominates.calls k _ _ l0 t507 t510 t511 t514 t515 _ ?side1 ?side2 A4.out).mono ?_); (case side1 => repeat (first | exact HR0.out | (with_reducible refine Kd.C_alloc ?_ _) | (with_reducible refine Kd.C_drewN ?_ _) | (with_reducible refine Kd.C_drew ?_))); (case side2 => exact HC0.out); rintro e w8 ⟨v508, v512, rfl, ho0, ho1, hb⟩; refine ⟨_, rfl, ?_⟩; have n0_ := Aside0.mk (Kd.R_lower ho0 (below_size hB_)); have n1_ := Aside0.mk (Kd.R_lower ho1 (below_size hB_)); have n2_ := Aside0.mk (below_step hB_ hb); clear HB; have HO509 := n0_; have HO513 := n1_; have HB := n2_; clear n0_ n1_ n2_; (try clear hb); (try clear hb2); (try clear hk); (try clear hi); (try clear ho0); (try clear ho1)) | ((with_reducible refine gate_dst (N := 3) rfl ?_); refine box_event ?hg (N := 3) ?hd (cs := #[.slice none 0 0, .int .i64 0, .slice none 0 0]) (t := 41) ?hr ?_; (case hd => rfl); (case hg => rfl); (case hr => first | (go_simp; done) | (go_simp; rfl)); intro gb516 hg w9 hbox hb; have n0_ := Aside0.mk (Kd.R_below rHO509_ hb); have n1_ := Aside0.mk (Kd.R_below rHO513_ hb); have n2_ := Aside0.mk (below_step hB_ hb); have n3_ := Aside0.mk (hbox); have n4_ := Aside0.mk ((sz_ hg (below_size hB_) : w.heap.size ≤ gb516)); have n5_ := Aside0.mk ((sz_ hg (below_size hB_) : w.heap.size ≤ gb516)); clear HO509; clear HO513; clear HB; have HO509 := n0_; have HO513 := n1_; have HB := n2_; have BK516 := n3_; have GW516 := n4_; have GE516 := n5_; clear n0_ n1_ n2_ n3_ n4_ n5_; clear hb hbox hg; obtain ⟨Ao10, co10, eo10⟩ := Kd.R_slice HO509.out; subst eo10; obtain ⟨hcz11_0, hcz11_1, hcz11_2, hfz11_0, hfz11_1, hfz11_2⟩ := blkc3_ BK516.out; obtain ⟨Ao12, co12, eo12⟩ := Kd.R_slice HO513.out; subst eo12))
   have n0_ : Aside0 (Kd.R (Kd.int .i64) 2 (((w9.setCell ⟨gb516, 0, none⟩ (.slice Ao10 t507.length co10)).setCell ⟨gb516, 1, none⟩ (.int .i64 t510)).setCell ⟨gb516, 2, none⟩ (.slice Ao12 t511.length co12)) w.heap.size (fun _ => True) (.slice Ao10 t507.length co10) t507) := ⟨by (with_reducible repeat (first | apply Kd.R_alloc | apply Kd.R_drewN | apply Kd.R_drew)); exact Kd.R_mono (Kd.R_far (p := ⟨gb516, 2, none⟩) (Kd.R_far (p := ⟨gb516, 1, none⟩) (Kd.R_far (p := ⟨gb516, 0, none⟩) (Kd.R_types HO509.out BK516.out (by decide)) (fun _ hk => hk.2) (.slice Ao10 t507.length co10)) (fun _ hk => hk.2) (.int .i64 t510)) (fun _ hk => hk.2) (.slice Ao12 t511.length co12)) (fun _ hk => trivial)⟩
   have n1_ : Aside0 (Kd.R k88 88 (((w9.setCell ⟨gb516, 0, none⟩ (.slice Ao10 t507.length co10)).setCell ⟨gb516, 1, none⟩ (.int .i64 t510)).setCell ⟨gb516, 2, none⟩ (.slice Ao12 t511.length co12)) w.heap.size (fun k_ => some k_ ≠ (.slice Ao10 t507.length co10 : Value).ownBlock) (.slice Ao12 t511.length co12) t511) := ⟨by (with_reducible repeat (first | apply Kd.R_alloc | apply Kd.R_drewN | apply Kd.R_drew)); exact Kd.R_mono (Kd.R_far (p := ⟨gb516, 2, none⟩) (Kd.R_far (p := ⟨gb516, 1, none⟩) (Kd.R_far (p := ⟨gb516, 0, none⟩) (Kd.R_types HO513.out BK516.out (by decide)) (fun _ hk => hk.2) (.slice Ao10 t507.length co10)) (fun _ hk => hk.2) (.int .i64 t510)) (fun _ hk => hk.2) (.slice Ao12 t511.length co12)) (fun _ hk => hk.1)⟩
   have n2_ : Aside0 ((((w9.setCell ⟨gb516, 0, none⟩ (.slice Ao10 t507.length co10)).setCell ⟨gb516, 1, none⟩ (.int .i64 t510)).setCell ⟨gb516, 2, none⟩ (.slice Ao12 t511.length co12)).heap[gb516]? = some (.cells #[.slice Ao10 t507.length co10, .int .i64 t510, .slice Ao12 t511.length co12] 41 (0, 0))) := ⟨by (with_reducible repeat (first | refine blk_drewN ?_ _ | refine blk_drew ?_ | refine blk_alloc ?_ _)); refine blk_put (cs := #[.slice Ao10 t507.length co10, .int .i64 t510, .slice none 0 0]) ?_ 2 _ rfl; (with_reducible repeat (first | refine blk_drewN ?_ _ | refine blk_drew ?_ | refine blk_alloc ?_ _)); refine blk_put (cs := #[.slice Ao10 t507.length co10, .int .i64 0, .slice none 0 0]) ?_ 1 _ rfl; (with_reducible repeat (first | refine blk_drewN ?_ _ | refine blk_drew ?_ | refine blk_alloc ?_ _)); refine blk_put (cs := #[.slice none 0 0, .int .i64 0, .slice none 0 0]) ?_ 0 _ rfl; (with_reducible repeat (first | refine blk_drewN ?_ _ | refine blk_drew ?_ | refine blk_alloc ?_ _)); exact BK516.out⟩
   have n3_ : Aside0 (Below w.heap.size w (((w9.setCell ⟨gb516, 0, none⟩ (.slice Ao10 t507.length co10)).setCell ⟨gb516, 1, none⟩ (.int .i64 t510)).setCell ⟨gb516, 2, none⟩ (.slice Ao12 t511.length co12))) := ⟨hS_⟩
   (try clear HO509)
   (try clear HO513)
   (try clear BK516)
   (try clear HB)
   generalize (((w9.setCell ⟨gb516, 0, none⟩ (.slice Ao10 t507.length co10)).setCell ⟨gb516, 1, none⟩ (.int .i64 t510)).setCell ⟨gb516, 2, none⟩ (.slice Ao12 t511.length co12)) = w13 at n0_ n1_ n2_ n3_ ⊢
   have HO509 := n0_
   have HO513 := n1_
   have BK516 := n2_
   have HB := n3_
   clear n0_ n1_ n2_ n3_
   have n0_ := Aside0.mk (Kd.R_drew HO509.out)
   have n1_ := Aside0.mk (Kd.R_drew HO513.out)
   have n2_ := Aside0.mk (blk_drew BK516.out)
   have n3_ := Aside0.mk (below_drew1 HB.out)
   clear HO509
   clear HO513
   clear BK516
   clear HB
   have HO509 := n0_
   have HO513 := n1_
   have BK516 := n2_
   have HB := n3_
   clear n0_ n1_ n2_ n3_
   refine start_ (n := 9) (S := fun w' => w'.cell? ⟨gb516, 0, none⟩ = some (.slice Ao10 t507.length co10) ∧ w'.cell? ⟨gb516, 1, none⟩ = some (.int .i64 t510) ∧ w'.cell? ⟨gb516, 2, none⟩ = some (.slice Ao12 t511.length co12)) (ds := []) #[false, false, false, false, false, false, false, false, false] (by kernel_rfl) rfl rfl ⟨(blk_cell BK516.out 0).trans rfl, (blk_cell BK516.out 1).trans rfl, (blk_cell BK516.out 2).trans rfl⟩ (fun hHeld => ?_); refine with_tabW laws_FnDominates.tab4 laws_FnDominates.bits4 (fun HT_ HW_ => ?_)
   generalize w13.drew = w14 at HO509 HO513 BK516 HB hHeld ⊢
   refine pure_ (i := 1) (N := some 20) (v := ?_) (a' := ?_) #[false, true, false, false, false, false, false, false, false] rfl rfl (any_of HT_.out (by kernel_rfl)) (fun _ _ _ h => h) (Or.inl ⟨by rfl, ?_⟩) ?_ ?_
   rotate_left
   ·intro w'
    go_simp
    with_reducible rfl
   rotate_left
   ·simp only [Act.put, List.setIfInBounds_toArray, List.set_cons_zero, List.set_cons_succ, i64_w, i32_w]
    rfl
   refine pure_ (i := 2) (N := some 21) (v := ?_) (a' := ?_) #[false, true, true, false, false, false, false, false, false] rfl rfl (any_of HT_.out (by kernel_rfl)) (fun _ _ _ h => h) (Or.inl ⟨by rfl, ?_⟩) ?_ ?_
   rotate_left
   ·intro w'
    go_simp
    with_reducible rfl
   rotate_left
   ·simp only [Act.put, List.setIfInBounds_toArray, List.set_cons_zero, List.set_cons_succ, i64_w, i32_w]
    rfl
   refine pure_ (i := 5) (N := some 24) (v := ?_) (a' := ?_) #[false, true, true, false, false, true, false, false, false] rfl rfl (any_of HT_.out (by kernel_rfl)) (fun _ _ _ h => h) (Or.inl ⟨by rfl, ?_⟩) ?_ ?_
   rotate_left
   ·intro w'
    go_simp
    with_reducible rfl
   rotate_left
   ·simp only [Act.put, List.setIfInBounds_toArray, List.set_cons_zero, List.set_cons_succ, i64_w, i32_w]
    rfl
   refine pure_ (i := 6) (N := some 25) (v := ?_) (a' := ?_) #[false, true, true, false, false, true, true, false, false] rfl rfl (any_of HT_.out (by kernel_rfl)) (fun _ _ _ h => h) (Or.inl ⟨by rfl, ?_⟩) ?_ ?_
   rotate_left
   ·intro w'
    go_simp
    with_reducible rfl
   rotate_left
   ·simp only [Act.put, List.setIfInBounds_toArray, List.set_cons_zero, List.set_cons_succ, i64_w, i32_w]
    rfl
   refine take_ (i := 0) (N := some 19) (v := ?_) (a' := ?_) #[true, true, true, false, false, true, true, false, false] rfl rfl (take_ofW HT_.out HW_.out (by kernel_rfl)) (fun _ _ _ h => h) (Or.inl ⟨by rfl, ?_⟩) hHeld ?_ ?_
   rotate_left
   ·rintro w' ⟨s0, s1, s2⟩
    go_simp
    with_reducible rfl
   rotate_left
   ·simp only [Act.put, List.setIfInBounds_toArray, List.set_cons_zero, List.set_cons_succ, i64_w, i32_w]
    rfl
   refine take_ (i := 4) (N := some 23) (v := ?_) (a' := ?_) #[true, true, true, false, true, true, true, false, false] rfl rfl (take_ofW HT_.out HW_.out (by kernel_rfl)) (fun _ _ _ h => h) (Or.inl ⟨by rfl, ?_⟩) hHeld ?_ ?_
   rotate_left
   ·rintro w' ⟨s0, s1, s2⟩
    go_simp
    with_reducible rfl
   rotate_left
   ·simp only [Act.put, List.setIfInBounds_toArray, List.set_cons_zero, List.set_cons_succ, i64_w, i32_w]
    rfl
   refine one_ (i := 3) (N := some 22) #[true, true, true, true, true, true, true, false, false] rfl rfl (one_of HT_.out (by kernel_rfl)) (by decide) (fun K hK => ?_)
   refine goes_ Try.func27 (by kernel_rfl) rfl #[.agg #[.slice Ao10 t507.length co10, .int .i64 t510, .slice Ao12 t511.length co12], .int .i64 t514, .int .i64 t515] (by rfl) rfl rfl (by (try simp only [List.map_toArray, List.map_cons, List.map_nil]); first | done | rfl | (simp only [List.length_drop, List.length_take]; rfl)) ?_
   with_reducible refine (impl_Dominates.calls k _ _ t507 t510 _ _ t511 t514 t515 t517 _ ?side1 ?side2 ?side3 ?side4 A5.out).mono ?_
   (case side1 => repeat (first | exact (Kd.R_reads' HO509.out).2.2 | (with_reducible refine Kd.C_alloc ?_ _) | (with_reducible refine Kd.C_drewN ?_ _) | (with_reducible refine Kd.C_drew ?_)))
   (case side2 => exact (Kd.R_reads' HO509.out).2.1)
   (case side3 => repeat (first | exact (Kd.R_reads' HO513.out).2.2 | (with_reducible refine Kd.C_alloc ?_ _) | (with_reducible refine Kd.C_drewN ?_ _) | (with_reducible refine Kd.C_drew ?_)))
   (case side4 => exact (Kd.R_reads' HO513.out).2.1)
   rintro e w15 ⟨rfl, hb⟩
   refine ⟨_, rfl, ?_⟩
   have n0_ := Aside0.mk (Kd.R_below rHO509_ hb)
   have n1_ := Aside0.mk (Kd.R_below rHO513_ hb)
   have n2_ := Aside0.mk (blk_below (g := gb516) (o := .cells #[.slice Ao10 t507.length co10, .int .i64 t510, .slice Ao12 t511.length co12] 41 (0, 0)) bK516_ hb)
   have n3_ := Aside0.mk (below_step hS_ hb)
   clear HO509
   clear HO513
   clear BK516
   clear HB
   have HO509 := n0_
   have HO513 := n1_
   have BK516 := n2_
   have HB := n3_
   clear n0_ n1_ n2_ n3_
   (try clear hb)
   (try clear hb2)
   (try clear hk)
   (try clear hi)
   refine hK.out _ _ ⟨(blk_cell BK516.out 0).trans rfl, (blk_cell BK516.out 1).trans rfl, (blk_cell BK516.out 2).trans rfl⟩ (fun hHeld => ?_)
   clear hK K
   refine norm_ (a' := ?_) ?_ ?_
   rotate_left
   ·show Act.put _ (some 22) _ = _
    simp only [Act.put, List.setIfInBounds_toArray, List.set_cons_zero, List.set_cons_succ, i64_w, i32_w]
    rfl
   refine one_ (i := 7) (N := some 26) #[true, true, true, true, true, true, true, true, false] rfl rfl (one_of HT_.out (by kernel_rfl)) (by decide) (fun K hK => ?_)
   refine goes_ Try.func28 (by kernel_rfl) rfl #[.agg #[.slice Ao10 t507.length co10, .int .i64 t510, .slice Ao12 t511.length co12], .int .i64 t514, .int .i64 t515] (by rfl) rfl rfl (by (try simp only [List.map_toArray, List.map_cons, List.map_nil]); first | done | rfl | (simp only [List.length_drop, List.length_take]; rfl)) ?_
   with_reducible refine (spec_Dominates.calls k _ _ t507 t510 _ _ t511 t514 t515 t518 _ ?side1 ?side2 ?side3 ?side4 A6.out).mono ?_
   (case side1 => repeat (first | exact (Kd.R_reads' HO509.out).2.2 | (with_reducible refine Kd.C_alloc ?_ _) | (with_reducible refine Kd.C_drewN ?_ _) | (with_reducible refine Kd.C_drew ?_)))
   (case side2 => exact (Kd.R_reads' HO509.out).2.1)
   (case side3 => repeat (first | exact (Kd.R_reads' HO513.out).2.2 | (with_reducible refine Kd.C_alloc ?_ _) | (with_reducible refine Kd.C_drewN ?_ _) | (with_reducible refine Kd.C_drew ?_)))
   (case side4 => exact (Kd.R_reads' HO513.out).2.1)
   rintro e w16 ⟨rfl, hb⟩
   refine ⟨_, rfl, ?_⟩
   have n0_ := Aside0.mk (Kd.R_below rHO509_ hb)
   have n1_ := Aside0.mk (Kd.R_below rHO513_ hb)
   have n2_ := Aside0.mk (blk_below (g := gb516) (o := .cells #[.slice Ao10 t507.length co10, .int .i64 t510, .slice Ao12 t511.length co12] 41 (0, 0)) bK516_ hb)
   have n3_ := Aside0.mk (below_step hS_ hb)
   clear HO509
   clear HO513
   clear BK516
   clear HB
   have HO509 := n0_
   have HO513 := n1_
   have BK516 := n2_
   have HB := n3_
   clear n0_ n1_ n2_ n3_
   (try clear hb)
   (try clear hb2)
   (try clear hk)
   (try clear hi)
   refine hK.out _ _ ⟨(blk_cell BK516.out 0).trans rfl, (blk_cell BK516.out 1).trans rfl, (blk_cell BK516.out 2).trans rfl⟩ (fun hHeld => ?_)
   clear hK K
   refine norm_ (a' := ?_) ?_ ?_
   rotate_left
   ·show Act.put _ (some 26) _ = _
    simp only [Act.put, List.setIfInBounds_toArray, List.set_cons_zero, List.set_cons_succ, i64_w, i32_w]
    rfl
   refine pure_ (i := 8) (N := some 27) (v := ?_) (a' := ?_) #[true, true, true, true, true, true, true, true, true] rfl rfl (any_of HT_.out (by kernel_rfl)) (fun _ _ _ h => h) (Or.inl ⟨by rfl, ?_⟩) ?_ ?_
   rotate_left
   ·intro w'
    go_simp
    with_reducible rfl
   rotate_left
   ·simp only [Act.put, List.setIfInBounds_toArray, List.set_cons_zero, List.set_cons_succ, i64_w, i32_w]
    rfl
   refine done_ (done_of HT_.out (by kernel_rfl)) ?_
   try go_wp2
   go_ret
   exact ⟨rG_, hS_⟩
  ·rw [if_neg c7] at H
   have c7b0 : (t517 != t518) = false := by simpa using c7
   (try (have c7b1 : decide (t517 = t518) = true := by simpa using c7))
   (try (have c7b2 : (t517 == t518) = true := by simpa using c7))
   clear c7
   replace H := Option.bind_eq_some_iff.mp H
   obtain ⟨t519, A170, H⟩ := H
   replace H : (laws_FnDominates.l0 k t519 0 t507 t510 t511) = some r := H
   have A17 := Aside0.mk A170
   clear A170
   have H' := Aside0.mk H
   clear H
   go_enter Try.func5, Try.ntmps5
   try go_wp2_with (first | ((with_reducible refine gate_callee (f := 25) rfl ?_); refine gL_ (some 12) Try.func25 #[.slice A0 l0.length c0] ?_; (with_reducible refine (laws_big.calls _ _ l0 false _ ?side1 ?side2 A2.out).mono ?_); (case side1 => repeat (first | exact HR0.out | (with_reducible refine Kd.C_alloc ?_ _) | (with_reducible refine Kd.C_drewN ?_ _) | (with_reducible refine Kd.C_drew ?_))); (case side2 => exact HC0.out); rintro e w' ⟨rfl, ⟨nd, rfl⟩⟩; refine ⟨_, rfl, ?_⟩) | ((with_reducible refine gate_callee (f := 26) rfl ?_); refine gL_ (some 15) Try.func26 #[.slice A0 l0.length c0] ?_; (with_reducible refine (spec_DrawDominates.calls k _ _ l0 t507 t510 t511 t514 t515 _ ?side1 ?side2 A4.out).mono ?_); (case side1 => repeat (first | exact HR0.out | (with_reducible refine Kd.C_alloc ?_ _) | (with_reducible refine Kd.C_drewN ?_ _) | (with_reducible refine Kd.C_drew ?_))); (case side2 => exact HC0.out); rintro e w18 ⟨v508, v512, rfl, ho0, ho1, hb⟩; refine ⟨_, rfl, ?_⟩; have n0_ := Aside0.mk (Kd.R_lower ho0 (below_size hB_)); have n1_ := Aside0.mk (Kd.R_lower ho1 (below_size hB_)); have n2_ := Aside0.mk (below_step hB_ hb); clear HB; have HO509 := n0_; have HO513 := n1_; have HB := n2_; clear n0_ n1_ n2_; (try clear hb); (try clear hb2); (try clear hk); (try clear hi); (try clear ho0); (try clear ho1)) | ((with_reducible refine gate_dst (N := 3) rfl ?_); refine box_event ?hg (N := 3) ?hd (cs := #[.slice none 0 0, .int .i64 0, .slice none 0 0]) (t := 41) ?hr ?_; (case hd => rfl); (case hg => rfl); (case hr => first | (go_simp; done) | (go_simp; rfl)); intro gb516 hg w19 hbox hb; have n0_ := Aside0.mk (Kd.R_below rHO509_ hb); have n1_ := Aside0.mk (Kd.R_below rHO513_ hb); have n2_ := Aside0.mk (below_step hB_ hb); have n3_ := Aside0.mk (hbox); have n4_ := Aside0.mk ((sz_ hg (below_size hB_) : w.heap.size ≤ gb516)); have n5_ := Aside0.mk ((sz_ hg (below_size hB_) : w.heap.size ≤ gb516)); clear HO509; clear HO513; clear HB; have HO509 := n0_; have HO513 := n1_; have HB := n2_; have BK516 := n3_; have GW516 := n4_; have GE516 := n5_; clear n0_ n1_ n2_ n3_ n4_ n5_; clear hb hbox hg; obtain ⟨Ao20, co20, eo20⟩ := Kd.R_slice HO509.out; subst eo20; obtain ⟨hcz21_0, hcz21_1, hcz21_2, hfz21_0, hfz21_1, hfz21_2⟩ := blkc3_ BK516.out; obtain ⟨Ao22, co22, eo22⟩ := Kd.R_slice HO513.out; subst eo22))
   have n0_ : Aside0 (Kd.R (Kd.int .i64) 2 (((w19.setCell ⟨gb516, 0, none⟩ (.slice Ao20 t507.length co20)).setCell ⟨gb516, 1, none⟩ (.int .i64 t510)).setCell ⟨gb516, 2, none⟩ (.slice Ao22 t511.length co22)) w.heap.size (fun _ => True) (.slice Ao20 t507.length co20) t507) := ⟨by (with_reducible repeat (first | apply Kd.R_alloc | apply Kd.R_drewN | apply Kd.R_drew)); exact Kd.R_mono (Kd.R_far (p := ⟨gb516, 2, none⟩) (Kd.R_far (p := ⟨gb516, 1, none⟩) (Kd.R_far (p := ⟨gb516, 0, none⟩) (Kd.R_types HO509.out BK516.out (by decide)) (fun _ hk => hk.2) (.slice Ao20 t507.length co20)) (fun _ hk => hk.2) (.int .i64 t510)) (fun _ hk => hk.2) (.slice Ao22 t511.length co22)) (fun _ hk => trivial)⟩
   have n1_ : Aside0 (Kd.R k88 88 (((w19.setCell ⟨gb516, 0, none⟩ (.slice Ao20 t507.length co20)).setCell ⟨gb516, 1, none⟩ (.int .i64 t510)).setCell ⟨gb516, 2, none⟩ (.slice Ao22 t511.length co22)) w.heap.size (fun k_ => some k_ ≠ (.slice Ao20 t507.length co20 : Value).ownBlock) (.slice Ao22 t511.length co22) t511) := ⟨by (with_reducible repeat (first | apply Kd.R_alloc | apply Kd.R_drewN | apply Kd.R_drew)); exact Kd.R_mono (Kd.R_far (p := ⟨gb516, 2, none⟩) (Kd.R_far (p := ⟨gb516, 1, none⟩) (Kd.R_far (p := ⟨gb516, 0, none⟩) (Kd.R_types HO513.out BK516.out (by decide)) (fun _ hk => hk.2) (.slice Ao20 t507.length co20)) (fun _ hk => hk.2) (.int .i64 t510)) (fun _ hk => hk.2) (.slice Ao22 t511.length co22)) (fun _ hk => hk.1)⟩
   have n2_ : Aside0 ((((w19.setCell ⟨gb516, 0, none⟩ (.slice Ao20 t507.length co20)).setCell ⟨gb516, 1, none⟩ (.int .i64 t510)).setCell ⟨gb516, 2, none⟩ (.slice Ao22 t511.length co22)).heap[gb516]? = some (.cells #[.slice Ao20 t507.length co20, .int .i64 t510, .slice Ao22 t511.length co22] 41 (0, 0))) := ⟨by (with_reducible repeat (first | refine blk_drewN ?_ _ | refine blk_drew ?_ | refine blk_alloc ?_ _)); refine blk_put (cs := #[.slice Ao20 t507.length co20, .int .i64 t510, .slice none 0 0]) ?_ 2 _ rfl; (with_reducible repeat (first | refine blk_drewN ?_ _ | refine blk_drew ?_ | refine blk_alloc ?_ _)); refine blk_put (cs := #[.slice Ao20 t507.length co20, .int .i64 0, .slice none 0 0]) ?_ 1 _ rfl; (with_reducible repeat (first | refine blk_drewN ?_ _ | refine blk_drew ?_ | refine blk_alloc ?_ _)); refine blk_put (cs := #[.slice none 0 0, .int .i64 0, .slice none 0 0]) ?_ 0 _ rfl; (with_reducible repeat (first | refine blk_drewN ?_ _ | refine blk_drew ?_ | refine blk_alloc ?_ _)); exact BK516.out⟩
   have n3_ : Aside0 (Below w.heap.size w (((w19.setCell ⟨gb516, 0, none⟩ (.slice Ao20 t507.length co20)).setCell ⟨gb516, 1, none⟩ (.int .i64 t510)).setCell ⟨gb516, 2, none⟩ (.slice Ao22 t511.length co22))) := ⟨hS_⟩
   (try clear HO509)
   (try clear HO513)
   (try clear BK516)
   (try clear HB)
   generalize (((w19.setCell ⟨gb516, 0, none⟩ (.slice Ao20 t507.length co20)).setCell ⟨gb516, 1, none⟩ (.int .i64 t510)).setCell ⟨gb516, 2, none⟩ (.slice Ao22 t511.length co22)) = w23 at n0_ n1_ n2_ n3_ ⊢
   have HO509 := n0_
   have HO513 := n1_
   have BK516 := n2_
   have HB := n3_
   clear n0_ n1_ n2_ n3_
   have n0_ := Aside0.mk (Kd.R_drew HO509.out)
   have n1_ := Aside0.mk (Kd.R_drew HO513.out)
   have n2_ := Aside0.mk (blk_drew BK516.out)
   have n3_ := Aside0.mk (below_drew1 HB.out)
   clear HO509
   clear HO513
   clear BK516
   clear HB
   have HO509 := n0_
   have HO513 := n1_
   have BK516 := n2_
   have HB := n3_
   clear n0_ n1_ n2_ n3_
   refine start_ (n := 9) (S := fun w' => w'.cell? ⟨gb516, 0, none⟩ = some (.slice Ao20 t507.length co20) ∧ w'.cell? ⟨gb516, 1, none⟩ = some (.int .i64 t510) ∧ w'.cell? ⟨gb516, 2, none⟩ = some (.slice Ao22 t511.length co22)) (ds := []) #[false, false, false, false, false, false, false, false, false] (by kernel_rfl) rfl rfl ⟨(blk_cell BK516.out 0).trans rfl, (blk_cell BK516.out 1).trans rfl, (blk_cell BK516.out 2).trans rfl⟩ (fun hHeld => ?_); refine with_tabW laws_FnDominates.tab4 laws_FnDominates.bits4 (fun HT_ HW_ => ?_)
   generalize w23.drew = w24 at HO509 HO513 BK516 HB hHeld ⊢
   refine pure_ (i := 1) (N := some 20) (v := ?_) (a' := ?_) #[false, true, false, false, false, false, false, false, false] rfl rfl (any_of HT_.out (by kernel_rfl)) (fun _ _ _ h => h) (Or.inl ⟨by rfl, ?_⟩) ?_ ?_
   rotate_left
   ·intro w'
    go_simp
    with_reducible rfl
   rotate_left
   ·simp only [Act.put, List.setIfInBounds_toArray, List.set_cons_zero, List.set_cons_succ, i64_w, i32_w]
    rfl
   refine pure_ (i := 2) (N := some 21) (v := ?_) (a' := ?_) #[false, true, true, false, false, false, false, false, false] rfl rfl (any_of HT_.out (by kernel_rfl)) (fun _ _ _ h => h) (Or.inl ⟨by rfl, ?_⟩) ?_ ?_
   rotate_left
   ·intro w'
    go_simp
    with_reducible rfl
   rotate_left
   ·simp only [Act.put, List.setIfInBounds_toArray, List.set_cons_zero, List.set_cons_succ, i64_w, i32_w]
    rfl
   refine pure_ (i := 5) (N := some 24) (v := ?_) (a' := ?_) #[false, true, true, false, false, true, false, false, false] rfl rfl (any_of HT_.out (by kernel_rfl)) (fun _ _ _ h => h) (Or.inl ⟨by rfl, ?_⟩) ?_ ?_
   rotate_left
   ·intro w'
    go_simp
    with_reducible rfl
   rotate_left
   ·simp only [Act.put, List.setIfInBounds_toArray, List.set_cons_zero, List.set_cons_succ, i64_w, i32_w]
    rfl
   refine pure_ (i := 6) (N := some 25) (v := ?_) (a' := ?_) #[false, true, true, false, false, true, true, false, false] rfl rfl (any_of HT_.out (by kernel_rfl)) (fun _ _ _ h => h) (Or.inl ⟨by rfl, ?_⟩) ?_ ?_
   rotate_left
   ·intro w'
    go_simp
    with_reducible rfl
   rotate_left
   ·simp only [Act.put, List.setIfInBounds_toArray, List.set_cons_zero, List.set_cons_succ, i64_w, i32_w]
    rfl
   refine take_ (i := 0) (N := some 19) (v := ?_) (a' := ?_) #[true, true, true, false, false, true, true, false, false] rfl rfl (take_ofW HT_.out HW_.out (by kernel_rfl)) (fun _ _ _ h => h) (Or.inl ⟨by rfl, ?_⟩) hHeld ?_ ?_
   rotate_left
   ·rintro w' ⟨s0, s1, s2⟩
    go_simp
    with_reducible rfl
   rotate_left
   ·simp only [Act.put, List.setIfInBounds_toArray, List.set_cons_zero, List.set_cons_succ, i64_w, i32_w]
    rfl
   refine take_ (i := 4) (N := some 23) (v := ?_) (a' := ?_) #[true, true, true, false, true, true, true, false, false] rfl rfl (take_ofW HT_.out HW_.out (by kernel_rfl)) (fun _ _ _ h => h) (Or.inl ⟨by rfl, ?_⟩) hHeld ?_ ?_
   rotate_left
   ·rintro w' ⟨s0, s1, s2⟩
    go_simp
    with_reducible rfl
   rotate_left
   ·simp only [Act.put, List.setIfInBounds_toArray, List.set_cons_zero, List.set_cons_succ, i64_w, i32_w]
    rfl
   refine one_ (i := 3) (N := some 22) #[true, true, true, true, true, true, true, false, false] rfl rfl (one_of HT_.out (by kernel_rfl)) (by decide) (fun K hK => ?_)
   refine goes_ Try.func27 (by kernel_rfl) rfl #[.agg #[.slice Ao20 t507.length co20, .int .i64 t510, .slice Ao22 t511.length co22], .int .i64 t514, .int .i64 t515] (by rfl) rfl rfl (by (try simp only [List.map_toArray, List.map_cons, List.map_nil]); first | done | rfl | (simp only [List.length_drop, List.length_take]; rfl)) ?_
   with_reducible refine (impl_Dominates.calls k _ _ t507 t510 _ _ t511 t514 t515 t517 _ ?side1 ?side2 ?side3 ?side4 A5.out).mono ?_
   (case side1 => repeat (first | exact (Kd.R_reads' HO509.out).2.2 | (with_reducible refine Kd.C_alloc ?_ _) | (with_reducible refine Kd.C_drewN ?_ _) | (with_reducible refine Kd.C_drew ?_)))
   (case side2 => exact (Kd.R_reads' HO509.out).2.1)
   (case side3 => repeat (first | exact (Kd.R_reads' HO513.out).2.2 | (with_reducible refine Kd.C_alloc ?_ _) | (with_reducible refine Kd.C_drewN ?_ _) | (with_reducible refine Kd.C_drew ?_)))
   (case side4 => exact (Kd.R_reads' HO513.out).2.1)
   rintro e w25 ⟨rfl, hb⟩
   refine ⟨_, rfl, ?_⟩
   have n0_ := Aside0.mk (Kd.R_below rHO509_ hb)
   have n1_ := Aside0.mk (Kd.R_below rHO513_ hb)
   have n2_ := Aside0.mk (blk_below (g := gb516) (o := .cells #[.slice Ao20 t507.length co20, .int .i64 t510, .slice Ao22 t511.length co22] 41 (0, 0)) bK516_ hb)
   have n3_ := Aside0.mk (below_step hS_ hb)
   clear HO509
   clear HO513
   clear BK516
   clear HB
   have HO509 := n0_
   have HO513 := n1_
   have BK516 := n2_
   have HB := n3_
   clear n0_ n1_ n2_ n3_
   (try clear hb)
   (try clear hb2)
   (try clear hk)
   (try clear hi)
   refine hK.out _ _ ⟨(blk_cell BK516.out 0).trans rfl, (blk_cell BK516.out 1).trans rfl, (blk_cell BK516.out 2).trans rfl⟩ (fun hHeld => ?_)
   clear hK K
   refine norm_ (a' := ?_) ?_ ?_
   rotate_left
   ·show Act.put _ (some 22) _ = _
    simp only [Act.put, List.setIfInBounds_toArray, List.set_cons_zero, List.set_cons_succ, i64_w, i32_w]
    rfl
   refine one_ (i := 7) (N := some 26) #[true, true, true, true, true, true, true, true, false] rfl rfl (one_of HT_.out (by kernel_rfl)) (by decide) (fun K hK => ?_)
   refine goes_ Try.func28 (by kernel_rfl) rfl #[.agg #[.slice Ao20 t507.length co20, .int .i64 t510, .slice Ao22 t511.length co22], .int .i64 t514, .int .i64 t515] (by rfl) rfl rfl (by (try simp only [List.map_toArray, List.map_cons, List.map_nil]); first | done | rfl | (simp only [List.length_drop, List.length_take]; rfl)) ?_
   with_reducible refine (spec_Dominates.calls k _ _ t507 t510 _ _ t511 t514 t515 t518 _ ?side1 ?side2 ?side3 ?side4 A6.out).mono ?_
   (case side1 => repeat (first | exact (Kd.R_reads' HO509.out).2.2 | (with_reducible refine Kd.C_alloc ?_ _) | (with_reducible refine Kd.C_drewN ?_ _) | (with_reducible refine Kd.C_drew ?_)))
   (case side2 => exact (Kd.R_reads' HO509.out).2.1)
   (case side3 => repeat (first | exact (Kd.R_reads' HO513.out).2.2 | (with_reducible refine Kd.C_alloc ?_ _) | (with_reducible refine Kd.C_drewN ?_ _) | (with_reducible refine Kd.C_drew ?_)))
   (case side4 => exact (Kd.R_reads' HO513.out).2.1)
   rintro e w26 ⟨rfl, hb⟩
   refine ⟨_, rfl, ?_⟩
   have n0_ := Aside0.mk (Kd.R_below rHO509_ hb)
   have n1_ := Aside0.mk (Kd.R_below rHO513_ hb)
   have n2_ := Aside0.mk (blk_below (g := gb516) (o := .cells #[.slice Ao20 t507.length co20, .int .i64 t510, .slice Ao22 t511.length co22] 41 (0, 0)) bK516_ hb)
   have n3_ := Aside0.mk (below_step hS_ hb)
   clear HO509
   clear HO513
   clear BK516
   clear HB
   have HO509 := n0_
   have HO513 := n1_
   have BK516 := n2_
   have HB := n3_
   clear n0_ n1_ n2_ n3_
   (try clear hb)
   (try clear hb2)
   (try clear hk)
   (try clear hi)
   refine hK.out _ _ ⟨(blk_cell BK516.out 0).trans rfl, (blk_cell BK516.out 1).trans rfl, (blk_cell BK516.out 2).trans rfl⟩ (fun hHeld => ?_)
   clear hK K
   refine norm_ (a' := ?_) ?_ ?_
   rotate_left
   ·show Act.put _ (some 26) _ = _
    simp only [Act.put, List.setIfInBounds_toArray, List.set_cons_zero, List.set_cons_succ, i64_w, i32_w]
    rfl
   refine pure_ (i := 8) (N := some 27) (v := ?_) (a' := ?_) #[true, true, true, true, true, true, true, true, true] rfl rfl (any_of HT_.out (by kernel_rfl)) (fun _ _ _ h => h) (Or.inl ⟨by rfl, ?_⟩) ?_ ?_
   rotate_left
   ·intro w'
    go_simp
    with_reducible rfl
   rotate_left
   ·simp only [Act.put, List.setIfInBounds_toArray, List.set_cons_zero, List.set_cons_succ, i64_w, i32_w]
    rfl
   refine done_ (done_of HT_.out (by kernel_rfl)) ?_
   obtain ⟨hcz27_0, hcz27_1, hcz27_2, hfz27_0, hfz27_1, hfz27_2⟩ := blkc3_ BK516.out
   try go_wp2_with (first | ((with_reducible refine gate_callee (f := 29) rfl ?_); refine gL_ (some 29) Try.func29 #[.agg #[.slice Ao20 t507.length co20, .int .i64 t510, .slice Ao22 t511.length co22]] ?_; (with_reducible refine (impl_Reached.calls k _ _ t507 t510 _ _ t511 t519 _ ?side1 ?side2 ?side3 ?side4 A17.out).mono ?_); (case side1 => repeat (first | exact (Kd.R_reads' HO509.out).2.2 | (with_reducible refine Kd.C_alloc ?_ _) | (with_reducible refine Kd.C_drewN ?_ _) | (with_reducible refine Kd.C_drew ?_))); (case side2 => exact (Kd.R_reads' HO509.out).2.1); (case side3 => repeat (first | exact (Kd.R_reads' HO513.out).2.2 | (with_reducible refine Kd.C_alloc ?_ _) | (with_reducible refine Kd.C_drewN ?_ _) | (with_reducible refine Kd.C_drew ?_))); (case side4 => exact (Kd.R_reads' HO513.out).2.1); rintro e w28 ⟨v520, rfl, ho0, hb⟩; refine ⟨_, rfl, ?_⟩; have n0_ := Aside0.mk (Kd.R_elder' rHO509_ (Kd.R_base ho0) hb); have n1_ := Aside0.mk (Kd.R_elder' rHO513_ (Kd.R_base ho0) hb); have n2_ := Aside0.mk (Kd.R_lower (Kd.R_new' ho0 (Kd.R_lt rHO509_)) (below_size hS_)); have n3_ := Aside0.mk (blk_below (g := gb516) (o := .cells #[.slice Ao20 t507.length co20, .int .i64 t510, .slice Ao22 t511.length co22] 41 (0, 0)) bK516_ hb); have n4_ := Aside0.mk (below_step hS_ hb); clear HO509; clear HO513; clear BK516; clear HB; have HO509 := n0_; have HO513 := n1_; have HO521 := n2_; have BK516 := n3_; have HB := n4_; clear n0_ n1_ n2_ n3_ n4_; (try clear hb); (try clear hb2); (try clear hk); (try clear hi); (try clear ho0)))
   go_loopg [7] k (fun kq v7 w' => ∃ (x7_1 : Int), v7 = .int .i64 x7_1 ∧ Aside0 (laws_FnDominates.l0 kq t519 x7_1 t507 t510 t511 = some r) ∧ Aside0 (kq ≤ k) ∧ Aside0 (Kd.R (Kd.int .i64) 2 w' w.heap.size (fun k_ => some k_ ≠ ((.slice Ao20 t507.length co20) : Value).ownBlock) v520 t519) ∧ Aside0 (Kd.R (Kd.int .i64) 2 w' w.heap.size (fun k_ => some k_ ≠ (v520 : Value).ownBlock) (.slice Ao20 t507.length co20) t507) ∧ Aside0 (Kd.R k88 88 w' w.heap.size (fun k_ => some k_ ≠ (v520 : Value).ownBlock ∧ some k_ ≠ ((.slice Ao20 t507.length co20) : Value).ownBlock) (.slice Ao22 t511.length co22) t511) ∧ Aside0 (w'.heap[gb516]? = some (.cells #[(.slice Ao20 t507.length co20), .int .i64 t510, (.slice Ao22 t511.length co22)] 41 (0, 0))) ∧ Aside0 (Below w.heap.size w w'))
   case atStart => exact ⟨(0), rF_, H', ⟨Nat.le_refl _⟩, ⟨by (with_reducible repeat (first | apply Kd.R_alloc | apply Kd.R_drewN | apply Kd.R_drew)); exact Kd.R_mono HO521.out (fun _ hk => hk.2)⟩, ⟨by (with_reducible repeat (first | apply Kd.R_alloc | apply Kd.R_drewN | apply Kd.R_drew)); exact Kd.R_mono HO509.out (fun _ hk => hk.2)⟩, ⟨by (with_reducible repeat (first | apply Kd.R_alloc | apply Kd.R_drewN | apply Kd.R_drew)); exact Kd.R_mono HO513.out (fun _ hk => ⟨hk.2, hk.1⟩)⟩, ⟨bK516_⟩, ⟨hS_⟩⟩
   case round =>
    clear H'
    try clear c2
    try clear p2
    try clear c3
    try clear c5
    try clear c7
    try clear c7b0
    try clear c7b1
    try clear c7b2
    try clear c25
    try clear c26
    try clear c27
    try clear c28
    try clear hcz11_0 hcz11_1 hcz11_2 hfz11_0 hfz11_1 hfz11_2
    try clear hcz21_0 hcz21_1 hcz21_2 hfz21_0 hfz21_1 hfz21_2
    try clear hcz27_0 hcz27_1 hcz27_2 hfz27_0 hfz27_1 hfz27_2
    obtain ⟨x7_1, rfl, HA, HK1, HO_6, HO_517000, HO_517002, BK516, HB⟩ := hrel
    cases gk with
    | zero => exact absurd HA.out (by simp [laws_FnDominates.l0])
    | succ k1 =>
     have H := HA.out
     clear HA
     simp only [laws_FnDominates.l0] at H
     by_cases c29 : x7_1 < (t519.length : Int)
     ·rw [if_pos c29] at H
      have c29b0 : decide (x7_1 < (t519.length : Int)) = true := decide_eq_true c29
      clear c29
      have HC30 := Aside0.mk H
      clear H
      obtain ⟨Ao31, co31, eo31⟩ := Kd.R_slice HO_6.out
      subst eo31
      go_upto_region 10 with (fail)
      go_cut [55] (fun v55 wc => ∃ (kq : Nat) (x55_29 : Bool), v55 = .bool x55_29 ∧ Aside0 (laws_FnDominates.j1 kq t519 x7_1 x55_29 t507 t510 t511 = some r) ∧ Aside0 (kq ≤ k1) ∧ Aside0 (Kd.R (Kd.int .i64) 2 wc w.heap.size (fun k_ => some k_ ≠ ((.slice Ao20 t507.length co20) : Value).ownBlock) (.slice Ao31 t519.length co31) t519) ∧ Aside0 (Kd.R (Kd.int .i64) 2 wc w.heap.size (fun k_ => some k_ ≠ ((.slice Ao31 t519.length co31) : Value).ownBlock) (.slice Ao20 t507.length co20) t507) ∧ Aside0 (Kd.R k88 88 wc w.heap.size (fun k_ => some k_ ≠ ((.slice Ao31 t519.length co31) : Value).ownBlock ∧ some k_ ≠ ((.slice Ao20 t507.length co20) : Value).ownBlock) (.slice Ao22 t511.length co22) t511) ∧ Aside0 (wc.heap[gb516]? = some (.cells #[(.slice Ao20 t507.length co20), .int .i64 t510, (.slice Ao22 t511.length co22)] 41 (0, 0))) ∧ Aside0 (Below w.heap.size w wc))
      case first =>
       have H := HC30.out
       clear HC30
       by_cases c32 : 0 ≤ x7_1
       ·rw [if_pos c32] at H
        have c32b0 : decide (0 ≤ x7_1) = true := decide_eq_true c32
        clear c32
        (first | rw [c32b0] | (simp only [i64_w, i32_w]; rw [c32b0]) | skip)
        replace H := Option.bind_eq_some_iff.mp H
        obtain ⟨t524, A330, H⟩ := H
        replace H : (if t524 = true then ((impl_Dominates.f k1 t507 t510 t511 0 (rd t519 x7_1)).bind fun t526 => (laws_FnDominates.j1 k1 t519 x7_1 (!t526) t507 t510 t511)) else (laws_FnDominates.j1 k1 t519 x7_1 true t507 t510 t511)) = some r := H
        have A33 := Aside0.mk A330
        clear A330
        by_cases c34 : t524 = true
        ·subst c34
         have H1 := (if_pos rfl).symm.trans H
         clear H
         have H := H1
         clear H1
         replace H := Option.bind_eq_some_iff.mp H
         obtain ⟨t526, A350, H⟩ := H
         replace H : (laws_FnDominates.j1 k1 t519 x7_1 (!t526) t507 t510 t511) = some r := H
         have A35 := Aside0.mk A350
         clear A350
         have H' := Aside0.mk H
         clear H
         try go_wp2
         have n0_ := Aside0.mk (Kd.R_drew HO_6.out)
         have n1_ := Aside0.mk (Kd.R_drew HO_517000.out)
         have n2_ := Aside0.mk (Kd.R_drew HO_517002.out)
         have n3_ := Aside0.mk (blk_drew BK516.out)
         have n4_ := Aside0.mk (below_drew1 HB.out)
         clear HO_6
         clear HO_517000
         clear HO_517002
         clear BK516
         clear HB
         have HO_6 := n0_
         have HO_517000 := n1_
         have HO_517002 := n2_
         have BK516 := n3_
         have HB := n4_
         clear n0_ n1_ n2_ n3_ n4_
         have p522 : 0 ≤ (x7_1 : Int) := oD_
         have q522 : x7_1 < (t519.length : Int) := oD_
         obtain ⟨ad522, e522, hx522_0⟩ := Kd.at_int (Kd.R_reads' HO_6.out).2.2 x7_1 p522 q522
         cases e522
         replace p522 := eq_true p522
         replace q522 := eq_true q522
         have p523 : 0 ≤ (x7_1 : Int) := oD_
         have q523 : x7_1 < (t519.length : Int) := oD_
         obtain ⟨ad523, e523, hx523_0⟩ := Kd.at_int (Kd.R_reads' HO_6.out).2.2 x7_1 p523 q523
         obtain rfl : ad522 = ad523 := (by injection e523)
         replace p523 := eq_true p523
         replace q523 := eq_true q523
         have p525 : 0 ≤ (x7_1 : Int) := oD_
         have q525 : x7_1 < (t519.length : Int) := oD_
         obtain ⟨ad525, e525, hx525_0⟩ := Kd.at_int (Kd.R_reads' HO_6.out).2.2 x7_1 p525 q525
         obtain rfl : ad522 = ad525 := (by injection e525)
         replace p525 := eq_true p525
         replace q525 := eq_true q525
         refine start_ (n := 20) (S := fun w' => w'.cell? ⟨gb516, 0, none⟩ = some (.slice Ao20 t507.length co20) ∧ w'.cell? ⟨gb516, 1, none⟩ = some (.int .i64 t510) ∧ w'.cell? ⟨gb516, 2, none⟩ = some (.slice Ao22 t511.length co22) ∧ w'.cell? (ad522.add (x7_1).toNat) = some (.int .i64 (rd t519 x7_1)) ∧ w'.cell? (ad522.add (x7_1).toNat) = some (.int .i64 (rd t519 x7_1)) ∧ w'.cell? (ad522.add (x7_1).toNat) = some (.int .i64 (rd t519 x7_1))) (ds := []) #[false, false, false, false, false, false, false, false, false, false, false, false, false, false, false, false, false, false, false, false] (by kernel_rfl) rfl rfl ⟨(blk_cell BK516.out 0).trans rfl, (blk_cell BK516.out 1).trans rfl, (blk_cell BK516.out 2).trans rfl, hx522_0, hx523_0, hx525_0⟩ (fun hHeld => ?_); refine with_tabW laws_FnDominates.tab10 laws_FnDominates.bits10 (fun HT_ HW_ => ?_)
         generalize wr.drew = w36 at HO_6 HO_517000 HO_517002 BK516 HB hx522_0 hx523_0 hx525_0 hHeld ⊢
         refine pure_ (i := 1) (N := some 37) (v := ?_) (a' := ?_) #[false, true, false, false, false, false, false, false, false, false, false, false, false, false, false, false, false, false, false, false] rfl rfl (any_of HT_.out (by kernel_rfl)) (fun _ _ _ h => h) (Or.inl ⟨by rfl, ?_⟩) ?_ ?_
         rotate_left
         ·intro w'
          go_simp
          with_reducible rfl
         rotate_left
         ·simp only [Act.put, List.setIfInBounds_toArray, List.set_cons_zero, List.set_cons_succ, i64_w, i32_w]
          rfl
         refine pure_ (i := 2) (N := some 38) (v := ?_) (a' := ?_) #[false, true, true, false, false, false, false, false, false, false, false, false, false, false, false, false, false, false, false, false] rfl rfl (any_of HT_.out (by kernel_rfl)) (fun _ _ _ h => h) (Or.inl ⟨by rfl, ?_⟩) ?_ ?_
         rotate_left
         ·intro w'
          go_simp
          with_reducible rfl
         rotate_left
         ·simp only [Act.put, List.setIfInBounds_toArray, List.set_cons_zero, List.set_cons_succ, i64_w, i32_w]
          rfl
         refine pure_ (i := 3) (N := some 39) (v := ?_) (a' := ?_) #[false, true, true, true, false, false, false, false, false, false, false, false, false, false, false, false, false, false, false, false] rfl rfl (any_of HT_.out (by kernel_rfl)) (fun _ _ _ h => h) (Or.inl ⟨by rfl, ?_⟩) ?_ ?_
         rotate_left
         ·intro w'
          go_simp
          with_reducible rfl
         rotate_left
         ·simp only [Act.put, List.setIfInBounds_toArray, List.set_cons_zero, List.set_cons_succ, i64_w, i32_w]
          rfl
         refine pure_ (i := 5) (N := some 41) (v := ?_) (a' := ?_) #[false, true, true, true, false, true, false, false, false, false, false, false, false, false, false, false, false, false, false, false] rfl rfl (any_of HT_.out (by kernel_rfl)) (fun _ _ _ h => h) (Or.inl ⟨by rfl, ?_⟩) ?_ ?_
         rotate_left
         ·intro w'
          go_simp
          with_reducible rfl
         rotate_left
         ·simp only [Act.put, List.setIfInBounds_toArray, List.set_cons_zero, List.set_cons_succ, i64_w, i32_w]
          rfl
         refine pure_ (i := 6) (N := some 42) (v := ?_) (a' := ?_) #[false, true, true, true, false, true, true, false, false, false, false, false, false, false, false, false, false, false, false, false] rfl rfl (any_of HT_.out (by kernel_rfl)) (fun _ _ _ h => h) (Or.inl ⟨by rfl, ?_⟩) ?_ ?_
         rotate_left
         ·intro w'
          go_simp
          with_reducible rfl
         rotate_left
         ·simp only [Act.put, List.setIfInBounds_toArray, List.set_cons_zero, List.set_cons_succ, i64_w, i32_w]
          rfl
         refine pure_ (i := 7) (N := some 43) (v := ?_) (a' := ?_) #[false, true, true, true, false, true, true, true, false, false, false, false, false, false, false, false, false, false, false, false] rfl rfl (any_of HT_.out (by kernel_rfl)) (fun _ _ _ h => h) (Or.inl ⟨by rfl, ?_⟩) ?_ ?_
         rotate_left
         ·intro w'
          go_simp
          with_reducible rfl
         rotate_left
         ·simp only [Act.put, List.setIfInBounds_toArray, List.set_cons_zero, List.set_cons_succ, i64_w, i32_w]
          rfl
         refine take_ (i := 0) (N := some 36) (v := ?_) (a' := ?_) #[true, true, true, true, false, true, true, true, false, false, false, false, false, false, false, false, false, false, false, false] rfl rfl (take_ofW HT_.out HW_.out (by kernel_rfl)) (fun _ _ _ h => h) (Or.inl ⟨by rfl, ?_⟩) hHeld ?_ ?_
         rotate_left
         ·rintro w' ⟨s0, s1, s2, s3, s4, s5⟩
          go_simp
          with_reducible rfl
         rotate_left
         ·simp only [Act.put, List.setIfInBounds_toArray, List.set_cons_zero, List.set_cons_succ, i64_w, i32_w]
          rfl
         refine take_ (i := 4) (N := some 40) (v := ?_) (a' := ?_) #[true, true, true, true, true, true, true, true, false, false, false, false, false, false, false, false, false, false, false, false] rfl rfl (take_ofW HT_.out HW_.out (by kernel_rfl)) (fun _ _ _ h => h) (Or.inl ⟨by rfl, ?_⟩) hHeld ?_ ?_
         rotate_left
         ·rintro w' ⟨s0, s1, s2, s3, s4, s5⟩
          go_simp
          with_reducible rfl
         rotate_left
         ·simp only [Act.put, List.setIfInBounds_toArray, List.set_cons_zero, List.set_cons_succ, i64_w, i32_w]
          rfl
         refine take_ (i := 8) (N := some 44) (v := ?_) (a' := ?_) #[true, true, true, true, true, true, true, true, true, false, false, false, false, false, false, false, false, false, false, false] rfl rfl (take_ofW HT_.out HW_.out (by kernel_rfl)) (fun _ _ _ h => h) (Or.inl ⟨by rfl, ?_⟩) hHeld ?_ ?_
         rotate_left
         ·rintro w' ⟨s0, s1, s2, s3, s4, s5⟩
          go_simp
          with_reducible rfl
         rotate_left
         ·simp only [Act.put, List.setIfInBounds_toArray, List.set_cons_zero, List.set_cons_succ, i64_w, i32_w]
          rfl
         refine one_ (i := 9) (N := some 45) #[true, true, true, true, true, true, true, true, true, true, false, false, false, false, false, false, false, false, false, false] rfl rfl (one_of HT_.out (by kernel_rfl)) (by decide) (fun K hK => ?_)
         refine goes_ Try.func27 (by kernel_rfl) rfl #[.agg #[.slice Ao20 t507.length co20, .int .i64 t510, .slice Ao22 t511.length co22], .int .i64 (rd t519 x7_1), .int .i64 (rd t519 x7_1)] (by rfl) rfl rfl (by (try simp only [List.map_toArray, List.map_cons, List.map_nil]); first | done | rfl | (simp only [List.length_drop, List.length_take]; rfl)) ?_
         with_reducible refine (impl_Dominates.calls k1 _ _ t507 t510 _ _ t511 (rd t519 x7_1) (rd t519 x7_1) true _ ?side1 ?side2 ?side3 ?side4 A33.out).mono ?_
         (case side1 => repeat (first | exact (Kd.R_reads' HO_517000.out).2.2 | (with_reducible refine Kd.C_alloc ?_ _) | (with_reducible refine Kd.C_drewN ?_ _) | (with_reducible refine Kd.C_drew ?_)))
         (case side2 => exact (Kd.R_reads' HO_517000.out).2.1)
         (case side3 => repeat (first | exact (Kd.R_reads' HO_517002.out).2.2 | (with_reducible refine Kd.C_alloc ?_ _) | (with_reducible refine Kd.C_drewN ?_ _) | (with_reducible refine Kd.C_drew ?_)))
         (case side4 => exact (Kd.R_reads' HO_517002.out).2.1)
         rintro e w37 ⟨rfl, hb⟩
         have HS3_ := (hb.cell (World.block_lt_of_cell? _ _ (hHeld.2.2.2.1))).trans (hHeld.2.2.2.1)
         have HS4_ := (hb.cell (World.block_lt_of_cell? _ _ (hHeld.2.2.2.2.1))).trans (hHeld.2.2.2.2.1)
         have HS5_ := (hb.cell (World.block_lt_of_cell? _ _ (hHeld.2.2.2.2.2))).trans (hHeld.2.2.2.2.2)
         refine ⟨_, rfl, ?_⟩
         have n0_ := Aside0.mk (Kd.R_below rHO_6_ hb)
         have n1_ := Aside0.mk (Kd.R_below rHO_517000_ hb)
         have n2_ := Aside0.mk (Kd.R_below rHO_517002_ hb)
         have n3_ := Aside0.mk (blk_below (g := gb516) (o := .cells #[.slice Ao20 t507.length co20, .int .i64 t510, .slice Ao22 t511.length co22] 41 (0, 0)) bK516_ hb)
         have n4_ := Aside0.mk (below_step hS_ hb)
         clear HO_6
         clear HO_517000
         clear HO_517002
         clear BK516
         clear HB
         have HO_6 := n0_
         have HO_517000 := n1_
         have HO_517002 := n2_
         have BK516 := n3_
         have HB := n4_
         clear n0_ n1_ n2_ n3_ n4_
         (try clear hb)
         (try clear hb2)
         (try clear hk)
         (try clear hi)
         refine hK.out _ _ ⟨(blk_cell BK516.out 0).trans rfl, (blk_cell BK516.out 1).trans rfl, (blk_cell BK516.out 2).trans rfl, HS3_, HS4_, HS5_⟩ (fun hHeld => ?_)
         clear hK K
         refine norm_ (a' := ?_) ?_ ?_
         rotate_left
         ·show Act.put _ (some 45) _ = _
          simp only [Act.put, List.setIfInBounds_toArray, List.set_cons_zero, List.set_cons_succ, i64_w, i32_w]
          rfl
         refine pure_ (i := 10) (N := some 46) (v := ?_) (a' := ?_) #[true, true, true, true, true, true, true, true, true, true, true, false, false, false, false, false, false, false, false, false] rfl rfl (any_of HT_.out (by kernel_rfl)) (fun _ _ _ h => h) (Or.inl ⟨by rfl, ?_⟩) ?_ ?_
         rotate_left
         ·intro w'
          go_simp
          with_reducible rfl
         rotate_left
         ·simp only [Act.put, List.setIfInBounds_toArray, List.set_cons_zero, List.set_cons_succ, i64_w, i32_w]
          rfl
         refine pure_ (i := 11) (N := some 47) (v := ?_) (a' := ?_) #[true, true, true, true, true, true, true, true, true, true, true, true, false, false, false, false, false, false, false, false] rfl rfl (any_of HT_.out (by kernel_rfl)) (fun _ _ _ h => h) (Or.inl ⟨by rfl, ?_⟩) ?_ ?_
         rotate_left
         ·intro w'
          go_simp
          with_reducible rfl
         rotate_left
         ·simp only [Act.put, List.setIfInBounds_toArray, List.set_cons_zero, List.set_cons_succ, i64_w, i32_w]
          rfl
         refine pure_ (i := 13) (N := some 49) (v := ?_) (a' := ?_) #[true, true, true, true, true, true, true, true, true, true, true, true, false, true, false, false, false, false, false, false] rfl rfl (any_of HT_.out (by kernel_rfl)) (fun _ _ _ h => h) (Or.inl ⟨by rfl, ?_⟩) ?_ ?_
         rotate_left
         ·intro w'
          go_simp
          with_reducible rfl
         rotate_left
         ·simp only [Act.put, List.setIfInBounds_toArray, List.set_cons_zero, List.set_cons_succ, i64_w, i32_w]
          rfl
         refine pure_ (i := 14) (N := some 50) (v := ?_) (a' := ?_) #[true, true, true, true, true, true, true, true, true, true, true, true, false, true, true, false, false, false, false, false] rfl rfl (any_of HT_.out (by kernel_rfl)) (fun _ _ _ h => h) (Or.inl ⟨by rfl, ?_⟩) ?_ ?_
         rotate_left
         ·intro w'
          go_simp
          with_reducible rfl
         rotate_left
         ·simp only [Act.put, List.setIfInBounds_toArray, List.set_cons_zero, List.set_cons_succ, i64_w, i32_w]
          rfl
         refine pure_ (i := 15) (N := some 51) (v := ?_) (a' := ?_) #[true, true, true, true, true, true, true, true, true, true, true, true, false, true, true, true, false, false, false, false] rfl rfl (any_of HT_.out (by kernel_rfl)) (fun _ _ _ h => h) (Or.inl ⟨by rfl, ?_⟩) ?_ ?_
         rotate_left
         ·intro w'
          go_simp
          with_reducible rfl
         rotate_left
         ·simp only [Act.put, List.setIfInBounds_toArray, List.set_cons_zero, List.set_cons_succ, i64_w, i32_w]
          rfl
         refine take_ (i := 12) (N := some 48) (v := ?_) (a' := ?_) #[true, true, true, true, true, true, true, true, true, true, true, true, true, true, true, true, false, false, false, false] rfl rfl (take_ofW HT_.out HW_.out (by kernel_rfl)) (fun _ _ _ h => h) (Or.inl ⟨by rfl, ?_⟩) hHeld ?_ ?_
         rotate_left
         ·rintro w' ⟨s0, s1, s2, s3, s4, s5⟩
          go_simp
          with_reducible rfl
         rotate_left
         ·simp only [Act.put, List.setIfInBounds_toArray, List.set_cons_zero, List.set_cons_succ, i64_w, i32_w]
          rfl
         refine take_ (i := 16) (N := some 52) (v := ?_) (a' := ?_) #[true, true, true, true, true, true, true, true, true, true, true, true, true, true, true, true, true, false, false, false] rfl rfl (take_ofW HT_.out HW_.out (by kernel_rfl)) (fun _ _ _ h => h) (Or.inl ⟨by rfl, ?_⟩) hHeld ?_ ?_
         rotate_left
         ·rintro w' ⟨s0, s1, s2, s3, s4, s5⟩
          go_simp
          with_reducible rfl
         rotate_left
         ·simp only [Act.put, List.setIfInBounds_toArray, List.set_cons_zero, List.set_cons_succ, i64_w, i32_w]
          rfl
         refine one_ (i := 17) (N := some 53) #[true, true, true, true, true, true, true, true, true, true, true, true, true, true, true, true, true, true, false, false] rfl rfl (one_of HT_.out (by kernel_rfl)) (by decide) (fun K hK => ?_)
         refine goes_ Try.func27 (by kernel_rfl) rfl #[.agg #[.slice Ao20 t507.length co20, .int .i64 t510, .slice Ao22 t511.length co22], .int .i64 0, .int .i64 (rd t519 x7_1)] (by rfl) rfl rfl (by (try simp only [List.map_toArray, List.map_cons, List.map_nil]); first | done | rfl | (simp only [List.length_drop, List.length_take]; rfl)) ?_
         with_reducible refine (impl_Dominates.calls k1 _ _ t507 t510 _ _ t511 0 (rd t519 x7_1) t526 _ ?side1 ?side2 ?side3 ?side4 A35.out).mono ?_
         (case side1 => repeat (first | exact (Kd.R_reads' HO_517000.out).2.2 | (with_reducible refine Kd.C_alloc ?_ _) | (with_reducible refine Kd.C_drewN ?_ _) | (with_reducible refine Kd.C_drew ?_)))
         (case side2 => exact (Kd.R_reads' HO_517000.out).2.1)
         (case side3 => repeat (first | exact (Kd.R_reads' HO_517002.out).2.2 | (with_reducible refine Kd.C_alloc ?_ _) | (with_reducible refine Kd.C_drewN ?_ _) | (with_reducible refine Kd.C_drew ?_)))
         (case side4 => exact (Kd.R_reads' HO_517002.out).2.1)
         rintro e w38 ⟨rfl, hb⟩
         have HS3_ := (hb.cell (World.block_lt_of_cell? _ _ (hHeld.2.2.2.1))).trans (hHeld.2.2.2.1)
         have HS4_ := (hb.cell (World.block_lt_of_cell? _ _ (hHeld.2.2.2.2.1))).trans (hHeld.2.2.2.2.1)
         have HS5_ := (hb.cell (World.block_lt_of_cell? _ _ (hHeld.2.2.2.2.2))).trans (hHeld.2.2.2.2.2)
         refine ⟨_, rfl, ?_⟩
         have n0_ := Aside0.mk (Kd.R_below rHO_6_ hb)
         have n1_ := Aside0.mk (Kd.R_below rHO_517000_ hb)
         have n2_ := Aside0.mk (Kd.R_below rHO_517002_ hb)
         have n3_ := Aside0.mk (blk_below (g := gb516) (o := .cells #[.slice Ao20 t507.length co20, .int .i64 t510, .slice Ao22 t511.length co22] 41 (0, 0)) bK516_ hb)
         have n4_ := Aside0.mk (below_step hS_ hb)
         clear HO_6
         clear HO_517000
         clear HO_517002
         clear BK516
         clear HB
         have HO_6 := n0_
         have HO_517000 := n1_
         have HO_517002 := n2_
         have BK516 := n3_
         have HB := n4_
         clear n0_ n1_ n2_ n3_ n4_
         (try clear hb)
         (try clear hb2)
         (try clear hk)
         (try clear hi)
         refine hK.out _ _ ⟨(blk_cell BK516.out 0).trans rfl, (blk_cell BK516.out 1).trans rfl, (blk_cell BK516.out 2).trans rfl, HS3_, HS4_, HS5_⟩ (fun hHeld => ?_)
         clear hK K
         refine norm_ (a' := ?_) ?_ ?_
         rotate_left
         ·show Act.put _ (some 53) _ = _
          simp only [Act.put, List.setIfInBounds_toArray, List.set_cons_zero, List.set_cons_succ, i64_w, i32_w]
          rfl
         refine pure_ (i := 18) (N := some 54) (v := ?_) (a' := ?_) #[true, true, true, true, true, true, true, true, true, true, true, true, true, true, true, true, true, true, true, false] rfl rfl (any_of HT_.out (by kernel_rfl)) (fun _ _ _ h => h) (Or.inl ⟨by rfl, ?_⟩) ?_ ?_
         rotate_left
         ·intro w'
          go_simp
          with_reducible rfl
         rotate_left
         ·simp only [Act.put, List.setIfInBounds_toArray, List.set_cons_zero, List.set_cons_succ, i64_w, i32_w]
          rfl
         refine pure_ (i := 19) (N := some 55) (v := ?_) (a' := ?_) #[true, true, true, true, true, true, true, true, true, true, true, true, true, true, true, true, true, true, true, true] rfl rfl (any_of HT_.out (by kernel_rfl)) (fun _ _ _ h => h) (Or.inl ⟨by rfl, ?_⟩) ?_ ?_
         rotate_left
         ·intro w'
          go_simp
          with_reducible rfl
         rotate_left
         ·simp only [Act.put, List.setIfInBounds_toArray, List.set_cons_zero, List.set_cons_succ, i64_w, i32_w]
          rfl
         refine done_ (done_of HT_.out (by kernel_rfl)) ?_
         try go_wp2
         go_meet
         case rel => exact ⟨_, (!t526), rF_, H', ⟨by have := HK1.out; first | omega | exact Nat.le_refl _⟩, ⟨rHO_6_⟩, ⟨rHO_517000_⟩, ⟨rHO_517002_⟩, ⟨bK516_⟩, ⟨hS_⟩⟩
        ·replace c34 := Bool.eq_false_iff.mpr c34
         subst c34
         have H1 := (if_neg (show ¬ (false = true) by decide)).symm.trans H
         clear H
         have H := H1
         clear H1
         have H' := Aside0.mk H
         clear H
         try go_wp2
         have n0_ := Aside0.mk (Kd.R_drew HO_6.out)
         have n1_ := Aside0.mk (Kd.R_drew HO_517000.out)
         have n2_ := Aside0.mk (Kd.R_drew HO_517002.out)
         have n3_ := Aside0.mk (blk_drew BK516.out)
         have n4_ := Aside0.mk (below_drew1 HB.out)
         clear HO_6
         clear HO_517000
         clear HO_517002
         clear BK516
         clear HB
         have HO_6 := n0_
         have HO_517000 := n1_
         have HO_517002 := n2_
         have BK516 := n3_
         have HB := n4_
         clear n0_ n1_ n2_ n3_ n4_
         have p522 : 0 ≤ (x7_1 : Int) := oD_
         have q522 : x7_1 < (t519.length : Int) := oD_
         obtain ⟨ad522, e522, hx522_0⟩ := Kd.at_int (Kd.R_reads' HO_6.out).2.2 x7_1 p522 q522
         cases e522
         replace p522 := eq_true p522
         replace q522 := eq_true q522
         have p523 : 0 ≤ (x7_1 : Int) := oD_
         have q523 : x7_1 < (t519.length : Int) := oD_
         obtain ⟨ad523, e523, hx523_0⟩ := Kd.at_int (Kd.R_reads' HO_6.out).2.2 x7_1 p523 q523
         obtain rfl : ad522 = ad523 := (by injection e523)
         replace p523 := eq_true p523
         replace q523 := eq_true q523
         refine start_ (n := 20) (S := fun w' => w'.cell? ⟨gb516, 0, none⟩ = some (.slice Ao20 t507.length co20) ∧ w'.cell? ⟨gb516, 1, none⟩ = some (.int .i64 t510) ∧ w'.cell? ⟨gb516, 2, none⟩ = some (.slice Ao22 t511.length co22) ∧ w'.cell? (ad522.add (x7_1).toNat) = some (.int .i64 (rd t519 x7_1)) ∧ w'.cell? (ad522.add (x7_1).toNat) = some (.int .i64 (rd t519 x7_1))) (ds := []) #[false, false, false, false, false, false, false, false, false, false, false, false, false, false, false, false, false, false, false, false] (by kernel_rfl) rfl rfl ⟨(blk_cell BK516.out 0).trans rfl, (blk_cell BK516.out 1).trans rfl, (blk_cell BK516.out 2).trans rfl, hx522_0, hx523_0⟩ (fun hHeld => ?_); refine with_tabW laws_FnDominates.tab10 laws_FnDominates.bits10 (fun HT_ HW_ => ?_)
         generalize wr.drew = w39 at HO_6 HO_517000 HO_517002 BK516 HB hx522_0 hx523_0 hHeld ⊢
         refine pure_ (i := 1) (N := some 37) (v := ?_) (a' := ?_) #[false, true, false, false, false, false, false, false, false, false, false, false, false, false, false, false, false, false, false, false] rfl rfl (any_of HT_.out (by kernel_rfl)) (fun _ _ _ h => h) (Or.inl ⟨by rfl, ?_⟩) ?_ ?_
         rotate_left
         ·intro w'
          go_simp
          with_reducible rfl
         rotate_left
         ·simp only [Act.put, List.setIfInBounds_toArray, List.set_cons_zero, List.set_cons_succ, i64_w, i32_w]
          rfl
         refine pure_ (i := 2) (N := some 38) (v := ?_) (a' := ?_) #[false, true, true, false, false, false, false, false, false, false, false, false, false, false, false, false, false, false, false, false] rfl rfl (any_of HT_.out (by kernel_rfl)) (fun _ _ _ h => h) (Or.inl ⟨by rfl, ?_⟩) ?_ ?_
         rotate_left
         ·intro w'
          go_simp
          with_reducible rfl
         rotate_left
         ·simp only [Act.put, List.setIfInBounds_toArray, List.set_cons_zero, List.set_cons_succ, i64_w, i32_w]
          rfl
         refine pure_ (i := 3) (N := some 39) (v := ?_) (a' := ?_) #[false, true, true, true, false, false, false, false, false, false, false, false, false, false, false, false, false, false, false, false] rfl rfl (any_of HT_.out (by kernel_rfl)) (fun _ _ _ h => h) (Or.inl ⟨by rfl, ?_⟩) ?_ ?_
         rotate_left
         ·intro w'
          go_simp
          with_reducible rfl
         rotate_left
         ·simp only [Act.put, List.setIfInBounds_toArray, List.set_cons_zero, List.set_cons_succ, i64_w, i32_w]
          rfl
         refine pure_ (i := 5) (N := some 41) (v := ?_) (a' := ?_) #[false, true, true, true, false, true, false, false, false, false, false, false, false, false, false, false, false, false, false, false] rfl rfl (any_of HT_.out (by kernel_rfl)) (fun _ _ _ h => h) (Or.inl ⟨by rfl, ?_⟩) ?_ ?_
         rotate_left
         ·intro w'
          go_simp
          with_reducible rfl
         rotate_left
         ·simp only [Act.put, List.setIfInBounds_toArray, List.set_cons_zero, List.set_cons_succ, i64_w, i32_w]
          rfl
         refine pure_ (i := 6) (N := some 42) (v := ?_) (a' := ?_) #[false, true, true, true, false, true, true, false, false, false, false, false, false, false, false, false, false, false, false, false] rfl rfl (any_of HT_.out (by kernel_rfl)) (fun _ _ _ h => h) (Or.inl ⟨by rfl, ?_⟩) ?_ ?_
         rotate_left
         ·intro w'
          go_simp
          with_reducible rfl
         rotate_left
         ·simp only [Act.put, List.setIfInBounds_toArray, List.set_cons_zero, List.set_cons_succ, i64_w, i32_w]
          rfl
         refine pure_ (i := 7) (N := some 43) (v := ?_) (a' := ?_) #[false, true, true, true, false, true, true, true, false, false, false, false, false, false, false, false, false, false, false, false] rfl rfl (any_of HT_.out (by kernel_rfl)) (fun _ _ _ h => h) (Or.inl ⟨by rfl, ?_⟩) ?_ ?_
         rotate_left
         ·intro w'
          go_simp
          with_reducible rfl
         rotate_left
         ·simp only [Act.put, List.setIfInBounds_toArray, List.set_cons_zero, List.set_cons_succ, i64_w, i32_w]
          rfl
         refine take_ (i := 0) (N := some 36) (v := ?_) (a' := ?_) #[true, true, true, true, false, true, true, true, false, false, false, false, false, false, false, false, false, false, false, false] rfl rfl (take_ofW HT_.out HW_.out (by kernel_rfl)) (fun _ _ _ h => h) (Or.inl ⟨by rfl, ?_⟩) hHeld ?_ ?_
         rotate_left
         ·rintro w' ⟨s0, s1, s2, s3, s4⟩
          go_simp
          with_reducible rfl
         rotate_left
         ·simp only [Act.put, List.setIfInBounds_toArray, List.set_cons_zero, List.set_cons_succ, i64_w, i32_w]
          rfl
         refine take_ (i := 4) (N := some 40) (v := ?_) (a' := ?_) #[true, true, true, true, true, true, true, true, false, false, false, false, false, false, false, false, false, false, false, false] rfl rfl (take_ofW HT_.out HW_.out (by kernel_rfl)) (fun _ _ _ h => h) (Or.inl ⟨by rfl, ?_⟩) hHeld ?_ ?_
         rotate_left
         ·rintro w' ⟨s0, s1, s2, s3, s4⟩
          go_simp
          with_reducible rfl
         rotate_left
         ·simp only [Act.put, List.setIfInBounds_toArray, List.set_cons_zero, List.set_cons_succ, i64_w, i32_w]
          rfl
         refine take_ (i := 8) (N := some 44) (v := ?_) (a' := ?_) #[true, true, true, true, true, true, true, true, true, false, false, false, false, false, false, false, false, false, false, false] rfl rfl (take_ofW HT_.out HW_.out (by kernel_rfl)) (fun _ _ _ h => h) (Or.inl ⟨by rfl, ?_⟩) hHeld ?_ ?_
         rotate_left
         ·rintro w' ⟨s0, s1, s2, s3, s4⟩
          go_simp
          with_reducible rfl
         rotate_left
         ·simp only [Act.put, List.setIfInBounds_toArray, List.set_cons_zero, List.set_cons_succ, i64_w, i32_w]
          rfl
         refine one_ (i := 9) (N := some 45) #[true, true, true, true, true, true, true, true, true, true, false, false, false, false, false, false, false, false, false, false] rfl rfl (one_of HT_.out (by kernel_rfl)) (by decide) (fun K hK => ?_)
         refine goes_ Try.func27 (by kernel_rfl) rfl #[.agg #[.slice Ao20 t507.length co20, .int .i64 t510, .slice Ao22 t511.length co22], .int .i64 (rd t519 x7_1), .int .i64 (rd t519 x7_1)] (by rfl) rfl rfl (by (try simp only [List.map_toArray, List.map_cons, List.map_nil]); first | done | rfl | (simp only [List.length_drop, List.length_take]; rfl)) ?_
         with_reducible refine (impl_Dominates.calls k1 _ _ t507 t510 _ _ t511 (rd t519 x7_1) (rd t519 x7_1) false _ ?side1 ?side2 ?side3 ?side4 A33.out).mono ?_
         (case side1 => repeat (first | exact (Kd.R_reads' HO_517000.out).2.2 | (with_reducible refine Kd.C_alloc ?_ _) | (with_reducible refine Kd.C_drewN ?_ _) | (with_reducible refine Kd.C_drew ?_)))
         (case side2 => exact (Kd.R_reads' HO_517000.out).2.1)
         (case side3 => repeat (first | exact (Kd.R_reads' HO_517002.out).2.2 | (with_reducible refine Kd.C_alloc ?_ _) | (with_reducible refine Kd.C_drewN ?_ _) | (with_reducible refine Kd.C_drew ?_)))
         (case side4 => exact (Kd.R_reads' HO_517002.out).2.1)
         rintro e w40 ⟨rfl, hb⟩
         have HS3_ := (hb.cell (World.block_lt_of_cell? _ _ (hHeld.2.2.2.1))).trans (hHeld.2.2.2.1)
         have HS4_ := (hb.cell (World.block_lt_of_cell? _ _ (hHeld.2.2.2.2))).trans (hHeld.2.2.2.2)
         refine ⟨_, rfl, ?_⟩
         have n0_ := Aside0.mk (Kd.R_below rHO_6_ hb)
         have n1_ := Aside0.mk (Kd.R_below rHO_517000_ hb)
         have n2_ := Aside0.mk (Kd.R_below rHO_517002_ hb)
         have n3_ := Aside0.mk (blk_below (g := gb516) (o := .cells #[.slice Ao20 t507.length co20, .int .i64 t510, .slice Ao22 t511.length co22] 41 (0, 0)) bK516_ hb)
         have n4_ := Aside0.mk (below_step hS_ hb)
         clear HO_6
         clear HO_517000
         clear HO_517002
         clear BK516
         clear HB
         have HO_6 := n0_
         have HO_517000 := n1_
         have HO_517002 := n2_
         have BK516 := n3_
         have HB := n4_
         clear n0_ n1_ n2_ n3_ n4_
         (try clear hb)
         (try clear hb2)
         (try clear hk)
         (try clear hi)
         refine hK.out _ _ ⟨(blk_cell BK516.out 0).trans rfl, (blk_cell BK516.out 1).trans rfl, (blk_cell BK516.out 2).trans rfl, HS3_, HS4_⟩ (fun hHeld => ?_)
         clear hK K
         refine norm_ (a' := ?_) ?_ ?_
         rotate_left
         ·show Act.put _ (some 45) _ = _
          simp only [Act.put, List.setIfInBounds_toArray, List.set_cons_zero, List.set_cons_succ, i64_w, i32_w]
          rfl
         refine pure_ (i := 10) (N := some 46) (v := ?_) (a' := ?_) #[true, true, true, true, true, true, true, true, true, true, true, false, false, false, false, false, false, false, false, false] rfl rfl (any_of HT_.out (by kernel_rfl)) (fun _ _ _ h => h) (Or.inl ⟨by rfl, ?_⟩) ?_ ?_
         rotate_left
         ·intro w'
          go_simp
          with_reducible rfl
         rotate_left
         ·simp only [Act.put, List.setIfInBounds_toArray, List.set_cons_zero, List.set_cons_succ, i64_w, i32_w]
          rfl
         refine pure_ (i := 11) (N := some 47) (v := ?_) (a' := ?_) #[true, true, true, true, true, true, true, true, true, true, true, true, false, false, false, false, false, false, false, false] rfl rfl (any_of HT_.out (by kernel_rfl)) (fun _ _ _ h => h) (Or.inl ⟨by rfl, ?_⟩) ?_ ?_
         rotate_left
         ·intro w'
          go_simp
          with_reducible rfl
         rotate_left
         ·simp only [Act.put, List.setIfInBounds_toArray, List.set_cons_zero, List.set_cons_succ, i64_w, i32_w]
          rfl
         refine pure_ (i := 12) (N := some 48) (v := undef) (a' := ?_) #[true, true, true, true, true, true, true, true, true, true, true, true, true, false, false, false, false, false, false, false] rfl rfl (any_of HT_.out (by kernel_rfl)) (fun _ _ _ h => h) (Or.inr ⟨by rfl, rfl⟩) ?_ ?_
         rotate_left
         ·simp only [Act.put, List.setIfInBounds_toArray, List.set_cons_zero, List.set_cons_succ, i64_w, i32_w]
          rfl
         refine pure_ (i := 13) (N := some 49) (v := undef) (a' := ?_) #[true, true, true, true, true, true, true, true, true, true, true, true, true, true, false, false, false, false, false, false] rfl rfl (any_of HT_.out (by kernel_rfl)) (fun _ _ _ h => h) (Or.inr ⟨by rfl, rfl⟩) ?_ ?_
         rotate_left
         ·simp only [Act.put, List.setIfInBounds_toArray, List.set_cons_zero, List.set_cons_succ, i64_w, i32_w]
          rfl
         refine pure_ (i := 14) (N := some 50) (v := undef) (a' := ?_) #[true, true, true, true, true, true, true, true, true, true, true, true, true, true, true, false, false, false, false, false] rfl rfl (any_of HT_.out (by kernel_rfl)) (fun _ _ _ h => h) (Or.inr ⟨by rfl, rfl⟩) ?_ ?_
         rotate_left
         ·simp only [Act.put, List.setIfInBounds_toArray, List.set_cons_zero, List.set_cons_succ, i64_w, i32_w]
          rfl
         refine pure_ (i := 15) (N := some 51) (v := undef) (a' := ?_) #[true, true, true, true, true, true, true, true, true, true, true, true, true, true, true, true, false, false, false, false] rfl rfl (any_of HT_.out (by kernel_rfl)) (fun _ _ _ h => h) (Or.inr ⟨by rfl, rfl⟩) ?_ ?_
         rotate_left
         ·simp only [Act.put, List.setIfInBounds_toArray, List.set_cons_zero, List.set_cons_succ, i64_w, i32_w]
          rfl
         refine pure_ (i := 16) (N := some 52) (v := undef) (a' := ?_) #[true, true, true, true, true, true, true, true, true, true, true, true, true, true, true, true, true, false, false, false] rfl rfl (any_of HT_.out (by kernel_rfl)) (fun _ _ _ h => h) (Or.inr ⟨by rfl, rfl⟩) ?_ ?_
         rotate_left
         ·simp only [Act.put, List.setIfInBounds_toArray, List.set_cons_zero, List.set_cons_succ, i64_w, i32_w]
          rfl
         refine pure_ (i := 17) (N := some 53) (v := undef) (a' := ?_) #[true, true, true, true, true, true, true, true, true, true, true, true, true, true, true, true, true, true, false, false] rfl rfl (any_of HT_.out (by kernel_rfl)) (fun _ _ _ h => h) (Or.inr ⟨by rfl, rfl⟩) ?_ ?_
         rotate_left
         ·simp only [Act.put, List.setIfInBounds_toArray, List.set_cons_zero, List.set_cons_succ, i64_w, i32_w]
          rfl
         refine pure_ (i := 18) (N := some 54) (v := undef) (a' := ?_) #[true, true, true, true, true, true, true, true, true, true, true, true, true, true, true, true, true, true, true, false] rfl rfl (any_of HT_.out (by kernel_rfl)) (fun _ _ _ h => h) (Or.inr ⟨by rfl, rfl⟩) ?_ ?_
         rotate_left
         ·simp only [Act.put, List.setIfInBounds_toArray, List.set_cons_zero, List.set_cons_succ, i64_w, i32_w]
          rfl
         refine pure_ (i := 19) (N := some 55) (v := ?_) (a' := ?_) #[true, true, true, true, true, true, true, true, true, true, true, true, true, true, true, true, true, true, true, true] rfl rfl (any_of HT_.out (by kernel_rfl)) (fun _ _ _ h => h) (Or.inl ⟨by rfl, ?_⟩) ?_ ?_
         rotate_left
         ·intro w'
          go_simp
          with_reducible rfl
         rotate_left
         ·simp only [Act.put, List.setIfInBounds_toArray, List.set_cons_zero, List.set_cons_succ, i64_w, i32_w]
          rfl
         refine done_ (done_of HT_.out (by kernel_rfl)) ?_
         try go_wp2
         go_meet
         case rel => exact ⟨_, (true), rF_, H', ⟨by have := HK1.out; first | omega | exact Nat.le_refl _⟩, ⟨rHO_6_⟩, ⟨rHO_517000_⟩, ⟨rHO_517002_⟩, ⟨bK516_⟩, ⟨hS_⟩⟩
       ·rw [if_neg c32] at H
        exact absurd H (by simp)
      case rest =>
       clear HC30
       try clear c2
       try clear p2
       try clear c3
       try clear c5
       try clear p5
       try clear q5
       try clear hx5
       try clear c7
       try clear c7b0
       try clear c7b1
       try clear c7b2
       try clear c25
       try clear c26
       try clear c27
       try clear c28
       try clear c29
       try clear c29b0
       try clear c32
       try clear c32b0
       try clear c34
       try clear hcz11_0 hcz11_1 hcz11_2 hfz11_0 hfz11_1 hfz11_2
       try clear hcz21_0 hcz21_1 hcz21_2 hfz21_0 hfz21_1 hfz21_2
       try clear hcz27_0 hcz27_1 hcz27_2 hfz27_0 hfz27_1 hfz27_2
       try clear hx522_0
       try clear hx523_0
       try clear hx525_0
       try clear p2
       try clear p522
       try clear p523
       try clear p525
       try clear q522
       try clear q523
       try clear q525
       obtain ⟨kq, x55_29, rfl, HA, HJ29, HO_6, HO_517000, HO_517002, BK516, HB⟩ := hcut
       cases kq with
       | zero => exact absurd HA.out (by simp [laws_FnDominates.j1])
       | succ kj29 =>
        have H := HA.out
        clear HA
        simp only [laws_FnDominates.j1] at H
        by_cases c41 : x55_29 = true
        ·subst c41
         have H1 := (if_pos rfl).symm.trans H
         clear H
         have H := H1
         clear H1
         obtain rfl := Option.some.inj H
         go_wp2
         go_ret
         exact ⟨rG_, hS_⟩
        ·replace c41 := Bool.eq_false_iff.mpr c41
         subst c41
         have H1 := (if_neg (show ¬ (false = true) by decide)).symm.trans H
         clear H
         have H := H1
         clear H1
         have H' := Aside0.mk H
         clear H
         go_wp2
         go_loopg [8] kj29 (fun kq v8 w' => ∃ (x8_3 : Int), v8 = .int .i64 x8_3 ∧ Aside0 (laws_FnDominates.l1 kq t519 x7_1 x8_3 t507 t510 t511 = some r) ∧ Aside0 (kq ≤ kj29) ∧ Aside0 (Kd.R (Kd.int .i64) 2 w' w.heap.size (fun k_ => some k_ ≠ ((.slice Ao20 t507.length co20) : Value).ownBlock) (.slice Ao31 t519.length co31) t519) ∧ Aside0 (Kd.R (Kd.int .i64) 2 w' w.heap.size (fun k_ => some k_ ≠ ((.slice Ao31 t519.length co31) : Value).ownBlock) (.slice Ao20 t507.length co20) t507) ∧ Aside0 (Kd.R k88 88 w' w.heap.size (fun k_ => some k_ ≠ ((.slice Ao31 t519.length co31) : Value).ownBlock ∧ some k_ ≠ ((.slice Ao20 t507.length co20) : Value).ownBlock) (.slice Ao22 t511.length co22) t511) ∧ Aside0 (w'.heap[gb516]? = some (.cells #[(.slice Ao20 t507.length co20), .int .i64 t510, (.slice Ao22 t511.length co22)] 41 (0, 0))) ∧ Aside0 (Below w.heap.size w w'))
         case atStart => exact ⟨(0), rF_, H', ⟨Nat.le_refl _⟩, ⟨rHO_6_⟩, ⟨rHO_517000_⟩, ⟨rHO_517002_⟩, ⟨bK516_⟩, ⟨hS_⟩⟩
         case round =>
          clear H'
          try clear c2
          try clear p2
          try clear c3
          try clear c4
          try clear c5
          try clear p5
          try clear q5
          try clear hx5
          try clear c7
          try clear c7b0
          try clear c7b1
          try clear c7b2
          try clear c25
          try clear c26
          try clear c27
          try clear c28
          try clear c29
          try clear c29b0
          try clear c32
          try clear c32b0
          try clear c34
          try clear c41
          try clear hcz11_0 hcz11_1 hcz11_2 hfz11_0 hfz11_1 hfz11_2
          try clear hcz21_0 hcz21_1 hcz21_2 hfz21_0 hfz21_1 hfz21_2
          try clear hcz27_0 hcz27_1 hcz27_2 hfz27_0 hfz27_1 hfz27_2
          try clear hx522_0
          try clear hx523_0
          try clear hx525_0
          try clear p2
          try clear p5
          try clear p522
          try clear p523
          try clear p525
          try clear q5
          try clear q522
          try clear q523
          try clear q525
          obtain ⟨x8_3, rfl, HA, HK3, HO_6, HO_517000, HO_517002, BK516, HB⟩ := hrel
          cases gk with
          | zero => exact absurd HA.out (by simp [laws_FnDominates.l1])
          | succ k3 =>
           have H := HA.out
           clear HA
           simp only [laws_FnDominates.l1] at H
           by_cases c42 : x8_3 < (t519.length : Int)
           ·rw [if_pos c42] at H
            have c42b0 : decide (x8_3 < (t519.length : Int)) = true := decide_eq_true c42
            clear c42
            by_cases c43 : 0 ≤ x7_1
            ·rw [if_pos c43] at H
             have c43b0 : decide (0 ≤ x7_1) = true := decide_eq_true c43
             clear c43
             by_cases c44 : x7_1 < (t519.length : Int)
             ·rw [if_pos c44] at H
              have c44b0 : decide (x7_1 < (t519.length : Int)) = true := decide_eq_true c44
              clear c44
              by_cases c45 : 0 ≤ x8_3
              ·rw [if_pos c45] at H
               have c45b0 : decide (0 ≤ x8_3) = true := decide_eq_true c45
               clear c45
               replace H := Option.bind_eq_some_iff.mp H
               obtain ⟨t529, A460, H⟩ := H
               replace H : (if t529 = true then (if x7_1 = x8_3 then (laws_FnDominates.j3 k3 t519 x7_1 x8_3 t529 false t507 t510 t511) else ((impl_Dominates.f k3 t507 t510 t511 (rd t519 x8_3) (rd t519 x7_1)).bind fun t532 => (laws_FnDominates.j3 k3 t519 x7_1 x8_3 t529 t532 t507 t510 t511))) else (laws_FnDominates.j3 k3 t519 x7_1 x8_3 t529 false t507 t510 t511)) = some r := H
               have A46 := Aside0.mk A460
               clear A460
               have HC47 := Aside0.mk H
               clear H
               try go_wp2
               have n0_ := Aside0.mk (Kd.R_drew HO_6.out)
               have n1_ := Aside0.mk (Kd.R_drew HO_517000.out)
               have n2_ := Aside0.mk (Kd.R_drew HO_517002.out)
               have n3_ := Aside0.mk (blk_drew BK516.out)
               have n4_ := Aside0.mk (below_drew1 HB.out)
               clear HO_6
               clear HO_517000
               clear HO_517002
               clear BK516
               clear HB
               have HO_6 := n0_
               have HO_517000 := n1_
               have HO_517002 := n2_
               have BK516 := n3_
               have HB := n4_
               clear n0_ n1_ n2_ n3_ n4_
               have p527 : 0 ≤ (x7_1 : Int) := oD_
               have q527 : x7_1 < (t519.length : Int) := oD_
               obtain ⟨ad527, e527, hx527_0⟩ := Kd.at_int (Kd.R_reads' HO_6.out).2.2 x7_1 p527 q527
               cases e527
               replace p527 := eq_true p527
               replace q527 := eq_true q527
               have p528 : 0 ≤ (x8_3 : Int) := oD_
               have q528 : x8_3 < (t519.length : Int) := oD_
               obtain ⟨ad528, e528, hx528_0⟩ := Kd.at_int (Kd.R_reads' HO_6.out).2.2 x8_3 p528 q528
               obtain rfl : ad527 = ad528 := (by injection e528)
               replace p528 := eq_true p528
               replace q528 := eq_true q528
               refine start_ (n := 11) (S := fun w' => w'.cell? ⟨gb516, 0, none⟩ = some (.slice Ao20 t507.length co20) ∧ w'.cell? ⟨gb516, 1, none⟩ = some (.int .i64 t510) ∧ w'.cell? ⟨gb516, 2, none⟩ = some (.slice Ao22 t511.length co22) ∧ w'.cell? (ad527.add (x7_1).toNat) = some (.int .i64 (rd t519 x7_1)) ∧ w'.cell? (ad527.add (x8_3).toNat) = some (.int .i64 (rd t519 x8_3))) (ds := []) #[false, false, false, false, false, false, false, false, false, false, false] (by kernel_rfl) rfl rfl ⟨(blk_cell BK516.out 0).trans rfl, (blk_cell BK516.out 1).trans rfl, (blk_cell BK516.out 2).trans rfl, hx527_0, hx528_0⟩ (fun hHeld => ?_); refine with_tabW laws_FnDominates.tab15 laws_FnDominates.bits15 (fun HT_ HW_ => ?_)
               generalize wr.drew = w48 at HO_6 HO_517000 HO_517002 BK516 HB hx527_0 hx528_0 hHeld ⊢
               refine pure_ (i := 1) (N := some 63) (v := ?_) (a' := ?_) #[false, true, false, false, false, false, false, false, false, false, false] rfl rfl (any_of HT_.out (by kernel_rfl)) (fun _ _ _ h => h) (Or.inl ⟨by rfl, ?_⟩) ?_ ?_
               rotate_left
               ·intro w'
                go_simp
                with_reducible rfl
               rotate_left
               ·simp only [Act.put, List.setIfInBounds_toArray, List.set_cons_zero, List.set_cons_succ, i64_w, i32_w]
                rfl
               refine pure_ (i := 2) (N := some 64) (v := ?_) (a' := ?_) #[false, true, true, false, false, false, false, false, false, false, false] rfl rfl (any_of HT_.out (by kernel_rfl)) (fun _ _ _ h => h) (Or.inl ⟨by rfl, ?_⟩) ?_ ?_
               rotate_left
               ·intro w'
                go_simp
                with_reducible rfl
               rotate_left
               ·simp only [Act.put, List.setIfInBounds_toArray, List.set_cons_zero, List.set_cons_succ, i64_w, i32_w]
                rfl
               refine pure_ (i := 3) (N := some 65) (v := ?_) (a' := ?_) #[false, true, true, true, false, false, false, false, false, false, false] rfl rfl (any_of HT_.out (by kernel_rfl)) (fun _ _ _ h => h) (Or.inl ⟨by rfl, ?_⟩) ?_ ?_
               rotate_left
               ·intro w'
                go_simp
                with_reducible rfl
               rotate_left
               ·simp only [Act.put, List.setIfInBounds_toArray, List.set_cons_zero, List.set_cons_succ, i64_w, i32_w]
                rfl
               refine pure_ (i := 5) (N := some 67) (v := ?_) (a' := ?_) #[false, true, true, true, false, true, false, false, false, false, false] rfl rfl (any_of HT_.out (by kernel_rfl)) (fun _ _ _ h => h) (Or.inl ⟨by rfl, ?_⟩) ?_ ?_
               rotate_left
               ·intro w'
                go_simp
                with_reducible rfl
               rotate_left
               ·simp only [Act.put, List.setIfInBounds_toArray, List.set_cons_zero, List.set_cons_succ, i64_w, i32_w]
                rfl
               refine pure_ (i := 6) (N := some 68) (v := ?_) (a' := ?_) #[false, true, true, true, false, true, true, false, false, false, false] rfl rfl (any_of HT_.out (by kernel_rfl)) (fun _ _ _ h => h) (Or.inl ⟨by rfl, ?_⟩) ?_ ?_
               rotate_left
               ·intro w'
                go_simp
                with_reducible rfl
               rotate_left
               ·simp only [Act.put, List.setIfInBounds_toArray, List.set_cons_zero, List.set_cons_succ, i64_w, i32_w]
                rfl
               refine pure_ (i := 7) (N := some 69) (v := ?_) (a' := ?_) #[false, true, true, true, false, true, true, true, false, false, false] rfl rfl (any_of HT_.out (by kernel_rfl)) (fun _ _ _ h => h) (Or.inl ⟨by rfl, ?_⟩) ?_ ?_
               rotate_left
               ·intro w'
                go_simp
                with_reducible rfl
               rotate_left
               ·simp only [Act.put, List.setIfInBounds_toArray, List.set_cons_zero, List.set_cons_succ, i64_w, i32_w]
                rfl
               refine take_ (i := 0) (N := some 62) (v := ?_) (a' := ?_) #[true, true, true, true, false, true, true, true, false, false, false] rfl rfl (take_ofW HT_.out HW_.out (by kernel_rfl)) (fun _ _ _ h => h) (Or.inl ⟨by rfl, ?_⟩) hHeld ?_ ?_
               rotate_left
               ·rintro w' ⟨s0, s1, s2, s3, s4⟩
                go_simp
                with_reducible rfl
               rotate_left
               ·simp only [Act.put, List.setIfInBounds_toArray, List.set_cons_zero, List.set_cons_succ, i64_w, i32_w]
                rfl
               refine take_ (i := 4) (N := some 66) (v := ?_) (a' := ?_) #[true, true, true, true, true, true, true, true, false, false, false] rfl rfl (take_ofW HT_.out HW_.out (by kernel_rfl)) (fun _ _ _ h => h) (Or.inl ⟨by rfl, ?_⟩) hHeld ?_ ?_
               rotate_left
               ·rintro w' ⟨s0, s1, s2, s3, s4⟩
                go_simp
                with_reducible rfl
               rotate_left
               ·simp only [Act.put, List.setIfInBounds_toArray, List.set_cons_zero, List.set_cons_succ, i64_w, i32_w]
                rfl
               refine take_ (i := 8) (N := some 70) (v := ?_) (a' := ?_) #[true, true, true, true, true, true, true, true, true, false, false] rfl rfl (take_ofW HT_.out HW_.out (by kernel_rfl)) (fun _ _ _ h => h) (Or.inl ⟨by rfl, ?_⟩) hHeld ?_ ?_
               rotate_left
               ·rintro w' ⟨s0, s1, s2, s3, s4⟩
                go_simp
                with_reducible rfl
               rotate_left
               ·simp only [Act.put, List.setIfInBounds_toArray, List.set_cons_zero, List.set_cons_succ, i64_w, i32_w]
                rfl
               refine one_ (i := 9) (N := some 71) #[true, true, true, true, true, true, true, true, true, true, false] rfl rfl (one_of HT_.out (by kernel_rfl)) (by decide) (fun K hK => ?_)
               refine goes_ Try.func27 (by kernel_rfl) rfl #[.agg #[.slice Ao20 t507.length co20, .int .i64 t510, .slice Ao22 t511.length co22], .int .i64 (rd t519 x7_1), .int .i64 (rd t519 x8_3)] (by rfl) rfl rfl (by (try simp only [List.map_toArray, List.map_cons, List.map_nil]); first | done | rfl | (simp only [List.length_drop, List.length_take]; rfl)) ?_
               with_reducible refine (impl_Dominates.calls k3 _ _ t507 t510 _ _ t511 (rd t519 x7_1) (rd t519 x8_3) t529 _ ?side1 ?side2 ?side3 ?side4 A46.out).mono ?_
               (case side1 => repeat (first | exact (Kd.R_reads' HO_517000.out).2.2 | (with_reducible refine Kd.C_alloc ?_ _) | (with_reducible refine Kd.C_drewN ?_ _) | (with_reducible refine Kd.C_drew ?_)))
               (case side2 => exact (Kd.R_reads' HO_517000.out).2.1)
               (case side3 => repeat (first | exact (Kd.R_reads' HO_517002.out).2.2 | (with_reducible refine Kd.C_alloc ?_ _) | (with_reducible refine Kd.C_drewN ?_ _) | (with_reducible refine Kd.C_drew ?_)))
               (case side4 => exact (Kd.R_reads' HO_517002.out).2.1)
               rintro e w49 ⟨rfl, hb⟩
               have HS3_ := (hb.cell (World.block_lt_of_cell? _ _ (hHeld.2.2.2.1))).trans (hHeld.2.2.2.1)
               have HS4_ := (hb.cell (World.block_lt_of_cell? _ _ (hHeld.2.2.2.2))).trans (hHeld.2.2.2.2)
               refine ⟨_, rfl, ?_⟩
               have n0_ := Aside0.mk (Kd.R_below rHO_6_ hb)
               have n1_ := Aside0.mk (Kd.R_below rHO_517000_ hb)
               have n2_ := Aside0.mk (Kd.R_below rHO_517002_ hb)
               have n3_ := Aside0.mk (blk_below (g := gb516) (o := .cells #[.slice Ao20 t507.length co20, .int .i64 t510, .slice Ao22 t511.length co22] 41 (0, 0)) bK516_ hb)
               have n4_ := Aside0.mk (below_step hS_ hb)
               clear HO_6
               clear HO_517000
               clear HO_517002
               clear BK516
               clear HB
               have HO_6 := n0_
               have HO_517000 := n1_
               have HO_517002 := n2_
               have BK516 := n3_
               have HB := n4_
               clear n0_ n1_ n2_ n3_ n4_
               (try clear hb)
               (try clear hb2)
               (try clear hk)
               (try clear hi)
               refine hK.out _ _ ⟨(blk_cell BK516.out 0).trans rfl, (blk_cell BK516.out 1).trans rfl, (blk_cell BK516.out 2).trans rfl, HS3_, HS4_⟩ (fun hHeld => ?_)
               clear hK K
               refine norm_ (a' := ?_) ?_ ?_
               rotate_left
               ·show Act.put _ (some 71) _ = _
                simp only [Act.put, List.setIfInBounds_toArray, List.set_cons_zero, List.set_cons_succ, i64_w, i32_w]
                rfl
               refine pure_ (i := 10) (N := some 9) (v := ?_) (a' := ?_) #[true, true, true, true, true, true, true, true, true, true, true] rfl rfl (any_of HT_.out (by kernel_rfl)) (fun _ _ _ h => h) (Or.inl ⟨by rfl, ?_⟩) ?_ ?_
               rotate_left
               ·intro w'
                go_simp
                with_reducible rfl
               rotate_left
               ·simp only [Act.put, List.setIfInBounds_toArray, List.set_cons_zero, List.set_cons_succ, i64_w, i32_w]
                rfl
               refine done_ (done_of HT_.out (by kernel_rfl)) ?_
               go_upto_region 16 with (fail)
               go_cut [89] (fun v89 wc => ∃ (kq : Nat) (x89_46 : Bool), v89 = .bool x89_46 ∧ Aside0 (laws_FnDominates.j3 kq t519 x7_1 x8_3 t529 x89_46 t507 t510 t511 = some r) ∧ Aside0 (kq ≤ k3) ∧ Aside0 (Kd.R (Kd.int .i64) 2 wc w.heap.size (fun k_ => some k_ ≠ ((.slice Ao20 t507.length co20) : Value).ownBlock) (.slice (some ad527) t519.length co31) t519) ∧ Aside0 (Kd.R (Kd.int .i64) 2 wc w.heap.size (fun k_ => some k_ ≠ ((.slice (some ad527) t519.length co31) : Value).ownBlock) (.slice Ao20 t507.length co20) t507) ∧ Aside0 (Kd.R k88 88 wc w.heap.size (fun k_ => some k_ ≠ ((.slice (some ad527) t519.length co31) : Value).ownBlock ∧ some k_ ≠ ((.slice Ao20 t507.length co20) : Value).ownBlock) (.slice Ao22 t511.length co22) t511) ∧ Aside0 (wc.heap[gb516]? = some (.cells #[(.slice Ao20 t507.length co20), .int .i64 t510, (.slice Ao22 t511.length co22)] 41 (0, 0))) ∧ Aside0 (Below w.heap.size w wc))
               case first =>
                have H := HC47.out
                clear HC47
                by_cases c50 : t529 = true
                ·subst c50
                 have H1 := (if_pos rfl).symm.trans H
                 clear H
                 have H := H1
                 clear H1
                 by_cases c51 : x7_1 = x8_3
                 ·rw [if_pos c51] at H
                  have c51b0 : (x7_1 == x8_3) = true := beq_iff_eq.mpr c51
                  have c51b1 : (x7_1 != x8_3) = false := bne_eq_false_iff_eq.mpr c51
                  clear c51
                  (first | rw [c51b0] | (simp only [i64_w, i32_w]; rw [c51b0]) | skip)
                  have H' := Aside0.mk H
                  clear H
                  try go_wp2
                  have n0_ := Aside0.mk (Kd.R_drew HO_6.out)
                  have n1_ := Aside0.mk (Kd.R_drew HO_517000.out)
                  have n2_ := Aside0.mk (Kd.R_drew HO_517002.out)
                  have n3_ := Aside0.mk (blk_drew BK516.out)
                  have n4_ := Aside0.mk (below_drew1 HB.out)
                  clear HO_6
                  clear HO_517000
                  clear HO_517002
                  clear BK516
                  clear HB
                  have HO_6 := n0_
                  have HO_517000 := n1_
                  have HO_517002 := n2_
                  have BK516 := n3_
                  have HB := n4_
                  clear n0_ n1_ n2_ n3_ n4_
                  refine start_ (n := 18) (S := fun w' => True) (ds := []) #[false, false, false, false, false, false, false, false, false, false, false, false, false, false, false, false, false, false] (by kernel_rfl) rfl rfl trivial (fun hHeld => ?_); refine with_tabW laws_FnDominates.tab16 laws_FnDominates.bits16 (fun HT_ HW_ => ?_)
                  generalize w49.drew = w52 at HO_6 HO_517000 HO_517002 BK516 HB hHeld ⊢
                  refine pure_ (i := 0) (N := some 72) (v := ?_) (a' := ?_) #[true, false, false, false, false, false, false, false, false, false, false, false, false, false, false, false, false, false] rfl rfl (any_of HT_.out (by kernel_rfl)) (fun _ _ _ h => h) (Or.inl ⟨by rfl, ?_⟩) ?_ ?_
                  rotate_left
                  ·intro w'
                   go_simp
                   with_reducible rfl
                  rotate_left
                  ·simp only [Act.put, List.setIfInBounds_toArray, List.set_cons_zero, List.set_cons_succ, i64_w, i32_w]
                   rfl
                  refine pure_ (i := 1) (N := some 73) (v := ?_) (a' := ?_) #[true, true, false, false, false, false, false, false, false, false, false, false, false, false, false, false, false, false] rfl rfl (any_of HT_.out (by kernel_rfl)) (fun _ _ _ h => h) (Or.inl ⟨by rfl, ?_⟩) ?_ ?_
                  rotate_left
                  ·intro w'
                   go_simp
                   with_reducible rfl
                  rotate_left
                  ·simp only [Act.put, List.setIfInBounds_toArray, List.set_cons_zero, List.set_cons_succ, i64_w, i32_w]
                   rfl
                  refine pure_ (i := 2) (N := some 74) (v := ?_) (a' := ?_) #[true, true, true, false, false, false, false, false, false, false, false, false, false, false, false, false, false, false] rfl rfl (any_of HT_.out (by kernel_rfl)) (fun _ _ _ h => h) (Or.inl ⟨by rfl, ?_⟩) ?_ ?_
                  rotate_left
                  ·intro w'
                   go_simp
                   with_reducible rfl
                  rotate_left
                  ·simp only [Act.put, List.setIfInBounds_toArray, List.set_cons_zero, List.set_cons_succ, i64_w, i32_w]
                   rfl
                  refine pure_ (i := 3) (N := some 75) (v := ?_) (a' := ?_) #[true, true, true, true, false, false, false, false, false, false, false, false, false, false, false, false, false, false] rfl rfl (any_of HT_.out (by kernel_rfl)) (fun _ _ _ h => h) (Or.inl ⟨by rfl, ?_⟩) ?_ ?_
                  rotate_left
                  ·intro w'
                   go_simp
                   with_reducible rfl
                  rotate_left
                  ·simp only [Act.put, List.setIfInBounds_toArray, List.set_cons_zero, List.set_cons_succ, i64_w, i32_w]
                   rfl
                  refine pure_ (i := 4) (N := some 76) (v := ?_) (a' := ?_) #[true, true, true, true, true, false, false, false, false, false, false, false, false, false, false, false, false, false] rfl rfl (any_of HT_.out (by kernel_rfl)) (fun _ _ _ h => h) (Or.inl ⟨by rfl, ?_⟩) ?_ ?_
                  rotate_left
                  ·intro w'
                   go_simp
                   with_reducible rfl
                  rotate_left
                  ·simp only [Act.put, List.setIfInBounds_toArray, List.set_cons_zero, List.set_cons_succ, i64_w, i32_w]
                   rfl
                  refine pure_ (i := 5) (N := some 77) (v := ?_) (a' := ?_) #[true, true, true, true, true, true, false, false, false, false, false, false, false, false, false, false, false, false] rfl rfl (any_of HT_.out (by kernel_rfl)) (fun _ _ _ h => h) (Or.inl ⟨by rfl, ?_⟩) ?_ ?_
                  rotate_left
                  ·intro w'
                   go_simp
                   with_reducible rfl
                  rotate_left
                  ·simp only [Act.put, List.setIfInBounds_toArray, List.set_cons_zero, List.set_cons_succ, i64_w, i32_w]
                   rfl
                  refine pure_ (i := 6) (N := some 78) (v := ?_) (a' := ?_) #[true, true, true, true, true, true, true, false, false, false, false, false, false, false, false, false, false, false] rfl rfl (any_of HT_.out (by kernel_rfl)) (fun _ _ _ h => h) (Or.inl ⟨by rfl, ?_⟩) ?_ ?_
                  rotate_left
                  ·intro w'
                   go_simp
                   with_reducible rfl
                  rotate_left
                  ·simp only [Act.put, List.setIfInBounds_toArray, List.set_cons_zero, List.set_cons_succ, i64_w, i32_w]
                   rfl
                  refine pure_ (i := 7) (N := some 79) (v := undef) (a' := ?_) #[true, true, true, true, true, true, true, true, false, false, false, false, false, false, false, false, false, false] rfl rfl (any_of HT_.out (by kernel_rfl)) (fun _ _ _ h => h) (Or.inr ⟨by rfl, rfl⟩) ?_ ?_
                  rotate_left
                  ·simp only [Act.put, List.setIfInBounds_toArray, List.set_cons_zero, List.set_cons_succ, i64_w, i32_w]
                   rfl
                  refine pure_ (i := 8) (N := some 80) (v := undef) (a' := ?_) #[true, true, true, true, true, true, true, true, true, false, false, false, false, false, false, false, false, false] rfl rfl (any_of HT_.out (by kernel_rfl)) (fun _ _ _ h => h) (Or.inr ⟨by rfl, rfl⟩) ?_ ?_
                  rotate_left
                  ·simp only [Act.put, List.setIfInBounds_toArray, List.set_cons_zero, List.set_cons_succ, i64_w, i32_w]
                   rfl
                  refine pure_ (i := 9) (N := some 81) (v := undef) (a' := ?_) #[true, true, true, true, true, true, true, true, true, true, false, false, false, false, false, false, false, false] rfl rfl (any_of HT_.out (by kernel_rfl)) (fun _ _ _ h => h) (Or.inr ⟨by rfl, rfl⟩) ?_ ?_
                  rotate_left
                  ·simp only [Act.put, List.setIfInBounds_toArray, List.set_cons_zero, List.set_cons_succ, i64_w, i32_w]
                   rfl
                  refine pure_ (i := 10) (N := some 82) (v := undef) (a' := ?_) #[true, true, true, true, true, true, true, true, true, true, true, false, false, false, false, false, false, false] rfl rfl (any_of HT_.out (by kernel_rfl)) (fun _ _ _ h => h) (Or.inr ⟨by rfl, rfl⟩) ?_ ?_
                  rotate_left
                  ·simp only [Act.put, List.setIfInBounds_toArray, List.set_cons_zero, List.set_cons_succ, i64_w, i32_w]
                   rfl
                  refine pure_ (i := 11) (N := some 83) (v := undef) (a' := ?_) #[true, true, true, true, true, true, true, true, true, true, true, true, false, false, false, false, false, false] rfl rfl (any_of HT_.out (by kernel_rfl)) (fun _ _ _ h => h) (Or.inr ⟨by rfl, rfl⟩) ?_ ?_
                  rotate_left
                  ·simp only [Act.put, List.setIfInBounds_toArray, List.set_cons_zero, List.set_cons_succ, i64_w, i32_w]
                   rfl
                  refine pure_ (i := 12) (N := some 84) (v := undef) (a' := ?_) #[true, true, true, true, true, true, true, true, true, true, true, true, true, false, false, false, false, false] rfl rfl (any_of HT_.out (by kernel_rfl)) (fun _ _ _ h => h) (Or.inr ⟨by rfl, rfl⟩) ?_ ?_
                  rotate_left
                  ·simp only [Act.put, List.setIfInBounds_toArray, List.set_cons_zero, List.set_cons_succ, i64_w, i32_w]
                   rfl
                  refine pure_ (i := 13) (N := some 85) (v := undef) (a' := ?_) #[true, true, true, true, true, true, true, true, true, true, true, true, true, true, false, false, false, false] rfl rfl (any_of HT_.out (by kernel_rfl)) (fun _ _ _ h => h) (Or.inr ⟨by rfl, rfl⟩) ?_ ?_
                  rotate_left
                  ·simp only [Act.put, List.setIfInBounds_toArray, List.set_cons_zero, List.set_cons_succ, i64_w, i32_w]
                   rfl
                  refine pure_ (i := 14) (N := some 86) (v := undef) (a' := ?_) #[true, true, true, true, true, true, true, true, true, true, true, true, true, true, true, false, false, false] rfl rfl (any_of HT_.out (by kernel_rfl)) (fun _ _ _ h => h) (Or.inr ⟨by rfl, rfl⟩) ?_ ?_
                  rotate_left
                  ·simp only [Act.put, List.setIfInBounds_toArray, List.set_cons_zero, List.set_cons_succ, i64_w, i32_w]
                   rfl
                  refine pure_ (i := 15) (N := some 87) (v := undef) (a' := ?_) #[true, true, true, true, true, true, true, true, true, true, true, true, true, true, true, true, false, false] rfl rfl (any_of HT_.out (by kernel_rfl)) (fun _ _ _ h => h) (Or.inr ⟨by rfl, rfl⟩) ?_ ?_
                  rotate_left
                  ·simp only [Act.put, List.setIfInBounds_toArray, List.set_cons_zero, List.set_cons_succ, i64_w, i32_w]
                   rfl
                  refine pure_ (i := 16) (N := some 88) (v := undef) (a' := ?_) #[true, true, true, true, true, true, true, true, true, true, true, true, true, true, true, true, true, false] rfl rfl (any_of HT_.out (by kernel_rfl)) (fun _ _ _ h => h) (Or.inr ⟨by rfl, rfl⟩) ?_ ?_
                  rotate_left
                  ·simp only [Act.put, List.setIfInBounds_toArray, List.set_cons_zero, List.set_cons_succ, i64_w, i32_w]
                   rfl
                  refine pure_ (i := 17) (N := some 89) (v := ?_) (a' := ?_) #[true, true, true, true, true, true, true, true, true, true, true, true, true, true, true, true, true, true] rfl rfl (any_of HT_.out (by kernel_rfl)) (fun _ _ _ h => h) (Or.inl ⟨by rfl, ?_⟩) ?_ ?_
                  rotate_left
                  ·intro w'
                   go_simp
                   with_reducible rfl
                  rotate_left
                  ·simp only [Act.put, List.setIfInBounds_toArray, List.set_cons_zero, List.set_cons_succ, i64_w, i32_w]
                   rfl
                  refine done_ (done_of HT_.out (by kernel_rfl)) ?_
                  try go_wp2
                  go_meet
                  case rel => exact ⟨_, (false), rF_, H', ⟨by have := HK1.out; have := HJ29.out; have := HK3.out; first | omega | exact Nat.le_refl _⟩, ⟨rHO_6_⟩, ⟨rHO_517000_⟩, ⟨rHO_517002_⟩, ⟨bK516_⟩, ⟨hS_⟩⟩
                 ·rw [if_neg c51] at H
                  have c51b0 : (x7_1 == x8_3) = false := beq_eq_false_iff_ne.mpr c51
                  have c51b1 : (x7_1 != x8_3) = true := bne_iff_ne.mpr c51
                  (first | rw [c51b0] | (simp only [i64_w, i32_w]; rw [c51b0]) | skip)
                  replace H := Option.bind_eq_some_iff.mp H
                  obtain ⟨t532, A530, H⟩ := H
                  replace H : (laws_FnDominates.j3 k3 t519 x7_1 x8_3 true t532 t507 t510 t511) = some r := H
                  have A53 := Aside0.mk A530
                  clear A530
                  have H' := Aside0.mk H
                  clear H
                  try go_wp2
                  have n0_ := Aside0.mk (Kd.R_drew HO_6.out)
                  have n1_ := Aside0.mk (Kd.R_drew HO_517000.out)
                  have n2_ := Aside0.mk (Kd.R_drew HO_517002.out)
                  have n3_ := Aside0.mk (blk_drew BK516.out)
                  have n4_ := Aside0.mk (below_drew1 HB.out)
                  clear HO_6
                  clear HO_517000
                  clear HO_517002
                  clear BK516
                  clear HB
                  have HO_6 := n0_
                  have HO_517000 := n1_
                  have HO_517002 := n2_
                  have BK516 := n3_
                  have HB := n4_
                  clear n0_ n1_ n2_ n3_ n4_
                  have p530 : 0 ≤ (x8_3 : Int) := oD_
                  have q530 : x8_3 < (t519.length : Int) := oD_
                  obtain ⟨ad530, e530, hx530_0⟩ := Kd.at_int (Kd.R_reads' HO_6.out).2.2 x8_3 p530 q530
                  obtain rfl : ad527 = ad530 := (by injection e530)
                  replace p530 := eq_true p530
                  replace q530 := eq_true q530
                  have p531 : 0 ≤ (x7_1 : Int) := oD_
                  have q531 : x7_1 < (t519.length : Int) := oD_
                  obtain ⟨ad531, e531, hx531_0⟩ := Kd.at_int (Kd.R_reads' HO_6.out).2.2 x7_1 p531 q531
                  obtain rfl : ad527 = ad531 := (by injection e531)
                  replace p531 := eq_true p531
                  replace q531 := eq_true q531
                  refine start_ (n := 18) (S := fun w' => w'.cell? ⟨gb516, 0, none⟩ = some (.slice Ao20 t507.length co20) ∧ w'.cell? ⟨gb516, 1, none⟩ = some (.int .i64 t510) ∧ w'.cell? ⟨gb516, 2, none⟩ = some (.slice Ao22 t511.length co22) ∧ w'.cell? (ad527.add (x8_3).toNat) = some (.int .i64 (rd t519 x8_3)) ∧ w'.cell? (ad527.add (x7_1).toNat) = some (.int .i64 (rd t519 x7_1))) (ds := []) #[false, false, false, false, false, false, false, false, false, false, false, false, false, false, false, false, false, false] (by kernel_rfl) rfl rfl ⟨(blk_cell BK516.out 0).trans rfl, (blk_cell BK516.out 1).trans rfl, (blk_cell BK516.out 2).trans rfl, hx530_0, hx531_0⟩ (fun hHeld => ?_); refine with_tabW laws_FnDominates.tab16 laws_FnDominates.bits16 (fun HT_ HW_ => ?_)
                  generalize w49.drew = w54 at HO_6 HO_517000 HO_517002 BK516 HB hx530_0 hx531_0 hHeld ⊢
                  refine pure_ (i := 0) (N := some 72) (v := ?_) (a' := ?_) #[true, false, false, false, false, false, false, false, false, false, false, false, false, false, false, false, false, false] rfl rfl (any_of HT_.out (by kernel_rfl)) (fun _ _ _ h => h) (Or.inl ⟨by rfl, ?_⟩) ?_ ?_
                  rotate_left
                  ·intro w'
                   go_simp
                   with_reducible rfl
                  rotate_left
                  ·simp only [Act.put, List.setIfInBounds_toArray, List.set_cons_zero, List.set_cons_succ, i64_w, i32_w]
                   rfl
                  refine pure_ (i := 1) (N := some 73) (v := ?_) (a' := ?_) #[true, true, false, false, false, false, false, false, false, false, false, false, false, false, false, false, false, false] rfl rfl (any_of HT_.out (by kernel_rfl)) (fun _ _ _ h => h) (Or.inl ⟨by rfl, ?_⟩) ?_ ?_
                  rotate_left
                  ·intro w'
                   go_simp
                   with_reducible rfl
                  rotate_left
                  ·simp only [Act.put, List.setIfInBounds_toArray, List.set_cons_zero, List.set_cons_succ, i64_w, i32_w]
                   rfl
                  refine pure_ (i := 2) (N := some 74) (v := ?_) (a' := ?_) #[true, true, true, false, false, false, false, false, false, false, false, false, false, false, false, false, false, false] rfl rfl (any_of HT_.out (by kernel_rfl)) (fun _ _ _ h => h) (Or.inl ⟨by rfl, ?_⟩) ?_ ?_
                  rotate_left
                  ·intro w'
                   go_simp
                   with_reducible rfl
                  rotate_left
                  ·simp only [Act.put, List.setIfInBounds_toArray, List.set_cons_zero, List.set_cons_succ, i64_w, i32_w]
                   rfl
                  refine pure_ (i := 3) (N := some 75) (v := ?_) (a' := ?_) #[true, true, true, true, false, false, false, false, false, false, false, false, false, false, false, false, false, false] rfl rfl (any_of HT_.out (by kernel_rfl)) (fun _ _ _ h => h) (Or.inl ⟨by rfl, ?_⟩) ?_ ?_
                  rotate_left
                  ·intro w'
                   go_simp
                   with_reducible rfl
                  rotate_left
                  ·simp only [Act.put, List.setIfInBounds_toArray, List.set_cons_zero, List.set_cons_succ, i64_w, i32_w]
                   rfl
                  refine pure_ (i := 4) (N := some 76) (v := ?_) (a' := ?_) #[true, true, true, true, true, false, false, false, false, false, false, false, false, false, false, false, false, false] rfl rfl (any_of HT_.out (by kernel_rfl)) (fun _ _ _ h => h) (Or.inl ⟨by rfl, ?_⟩) ?_ ?_
                  rotate_left
                  ·intro w'
                   go_simp
                   with_reducible rfl
                  rotate_left
                  ·simp only [Act.put, List.setIfInBounds_toArray, List.set_cons_zero, List.set_cons_succ, i64_w, i32_w]
                   rfl
                  refine pure_ (i := 5) (N := some 77) (v := ?_) (a' := ?_) #[true, true, true, true, true, true, false, false, false, false, false, false, false, false, false, false, false, false] rfl rfl (any_of HT_.out (by kernel_rfl)) (fun _ _ _ h => h) (Or.inl ⟨by rfl, ?_⟩) ?_ ?_
                  rotate_left
                  ·intro w'
                   go_simp
                   with_reducible rfl
                  rotate_left
                  ·simp only [Act.put, List.setIfInBounds_toArray, List.set_cons_zero, List.set_cons_succ, i64_w, i32_w]
                   rfl
                  refine pure_ (i := 6) (N := some 78) (v := ?_) (a' := ?_) #[true, true, true, true, true, true, true, false, false, false, false, false, false, false, false, false, false, false] rfl rfl (any_of HT_.out (by kernel_rfl)) (fun _ _ _ h => h) (Or.inl ⟨by rfl, ?_⟩) ?_ ?_
                  rotate_left
                  ·intro w'
                   go_simp
                   with_reducible rfl
                  rotate_left
                  ·simp only [Act.put, List.setIfInBounds_toArray, List.set_cons_zero, List.set_cons_succ, i64_w, i32_w]
                   rfl
                  refine pure_ (i := 8) (N := some 80) (v := ?_) (a' := ?_) #[true, true, true, true, true, true, true, false, true, false, false, false, false, false, false, false, false, false] rfl rfl (any_of HT_.out (by kernel_rfl)) (fun _ _ _ h => h) (Or.inl ⟨by rfl, ?_⟩) ?_ ?_
                  rotate_left
                  ·intro w'
                   go_simp
                   with_reducible rfl
                  rotate_left
                  ·simp only [Act.put, List.setIfInBounds_toArray, List.set_cons_zero, List.set_cons_succ, i64_w, i32_w]
                   rfl
                  refine pure_ (i := 9) (N := some 81) (v := ?_) (a' := ?_) #[true, true, true, true, true, true, true, false, true, true, false, false, false, false, false, false, false, false] rfl rfl (any_of HT_.out (by kernel_rfl)) (fun _ _ _ h => h) (Or.inl ⟨by rfl, ?_⟩) ?_ ?_
                  rotate_left
                  ·intro w'
                   go_simp
                   with_reducible rfl
                  rotate_left
                  ·simp only [Act.put, List.setIfInBounds_toArray, List.set_cons_zero, List.set_cons_succ, i64_w, i32_w]
                   rfl
                  refine pure_ (i := 10) (N := some 82) (v := ?_) (a' := ?_) #[true, true, true, true, true, true, true, false, true, true, true, false, false, false, false, false, false, false] rfl rfl (any_of HT_.out (by kernel_rfl)) (fun _ _ _ h => h) (Or.inl ⟨by rfl, ?_⟩) ?_ ?_
                  rotate_left
                  ·intro w'
                   go_simp
                   with_reducible rfl
                  rotate_left
                  ·simp only [Act.put, List.setIfInBounds_toArray, List.set_cons_zero, List.set_cons_succ, i64_w, i32_w]
                   rfl
                  refine pure_ (i := 12) (N := some 84) (v := ?_) (a' := ?_) #[true, true, true, true, true, true, true, false, true, true, true, false, true, false, false, false, false, false] rfl rfl (any_of HT_.out (by kernel_rfl)) (fun _ _ _ h => h) (Or.inl ⟨by rfl, ?_⟩) ?_ ?_
                  rotate_left
                  ·intro w'
                   go_simp
                   with_reducible rfl
                  rotate_left
                  ·simp only [Act.put, List.setIfInBounds_toArray, List.set_cons_zero, List.set_cons_succ, i64_w, i32_w]
                   rfl
                  refine pure_ (i := 13) (N := some 85) (v := ?_) (a' := ?_) #[true, true, true, true, true, true, true, false, true, true, true, false, true, true, false, false, false, false] rfl rfl (any_of HT_.out (by kernel_rfl)) (fun _ _ _ h => h) (Or.inl ⟨by rfl, ?_⟩) ?_ ?_
                  rotate_left
                  ·intro w'
                   go_simp
                   with_reducible rfl
                  rotate_left
                  ·simp only [Act.put, List.setIfInBounds_toArray, List.set_cons_zero, List.set_cons_succ, i64_w, i32_w]
                   rfl
                  refine pure_ (i := 14) (N := some 86) (v := ?_) (a' := ?_) #[true, true, true, true, true, true, true, false, true, true, true, false, true, true, true, false, false, false] rfl rfl (any_of HT_.out (by kernel_rfl)) (fun _ _ _ h => h) (Or.inl ⟨by rfl, ?_⟩) ?_ ?_
                  rotate_left
                  ·intro w'
                   go_simp
                   with_reducible rfl
                  rotate_left
                  ·simp only [Act.put, List.setIfInBounds_toArray, List.set_cons_zero, List.set_cons_succ, i64_w, i32_w]
                   rfl
                  refine take_ (i := 7) (N := some 79) (v := ?_) (a' := ?_) #[true, true, true, true, true, true, true, true, true, true, true, false, true, true, true, false, false, false] rfl rfl (take_ofW HT_.out HW_.out (by kernel_rfl)) (fun _ _ _ h => h) (Or.inl ⟨by rfl, ?_⟩) hHeld ?_ ?_
                  rotate_left
                  ·rintro w' ⟨s0, s1, s2, s3, s4⟩
                   go_simp
                   with_reducible rfl
                  rotate_left
                  ·simp only [Act.put, List.setIfInBounds_toArray, List.set_cons_zero, List.set_cons_succ, i64_w, i32_w]
                   rfl
                  refine take_ (i := 11) (N := some 83) (v := ?_) (a' := ?_) #[true, true, true, true, true, true, true, true, true, true, true, true, true, true, true, false, false, false] rfl rfl (take_ofW HT_.out HW_.out (by kernel_rfl)) (fun _ _ _ h => h) (Or.inl ⟨by rfl, ?_⟩) hHeld ?_ ?_
                  rotate_left
                  ·rintro w' ⟨s0, s1, s2, s3, s4⟩
                   go_simp
                   with_reducible rfl
                  rotate_left
                  ·simp only [Act.put, List.setIfInBounds_toArray, List.set_cons_zero, List.set_cons_succ, i64_w, i32_w]
                   rfl
                  refine take_ (i := 15) (N := some 87) (v := ?_) (a' := ?_) #[true, true, true, true, true, true, true, true, true, true, true, true, true, true, true, true, false, false] rfl rfl (take_ofW HT_.out HW_.out (by kernel_rfl)) (fun _ _ _ h => h) (Or.inl ⟨by rfl, ?_⟩) hHeld ?_ ?_
                  rotate_left
                  ·rintro w' ⟨s0, s1, s2, s3, s4⟩
                   go_simp
                   with_reducible rfl
                  rotate_left
                  ·simp only [Act.put, List.setIfInBounds_toArray, List.set_cons_zero, List.set_cons_succ, i64_w, i32_w]
                   rfl
                  refine one_ (i := 16) (N := some 88) #[true, true, true, true, true, true, true, true, true, true, true, true, true, true, true, true, true, false] rfl rfl (one_of HT_.out (by kernel_rfl)) (by decide) (fun K hK => ?_)
                  refine goes_ Try.func27 (by kernel_rfl) rfl #[.agg #[.slice Ao20 t507.length co20, .int .i64 t510, .slice Ao22 t511.length co22], .int .i64 (rd t519 x8_3), .int .i64 (rd t519 x7_1)] (by rfl) rfl rfl (by (try simp only [List.map_toArray, List.map_cons, List.map_nil]); first | done | rfl | (simp only [List.length_drop, List.length_take]; rfl)) ?_
                  with_reducible refine (impl_Dominates.calls k3 _ _ t507 t510 _ _ t511 (rd t519 x8_3) (rd t519 x7_1) t532 _ ?side1 ?side2 ?side3 ?side4 A53.out).mono ?_
                  (case side1 => repeat (first | exact (Kd.R_reads' HO_517000.out).2.2 | (with_reducible refine Kd.C_alloc ?_ _) | (with_reducible refine Kd.C_drewN ?_ _) | (with_reducible refine Kd.C_drew ?_)))
                  (case side2 => exact (Kd.R_reads' HO_517000.out).2.1)
                  (case side3 => repeat (first | exact (Kd.R_reads' HO_517002.out).2.2 | (with_reducible refine Kd.C_alloc ?_ _) | (with_reducible refine Kd.C_drewN ?_ _) | (with_reducible refine Kd.C_drew ?_)))
                  (case side4 => exact (Kd.R_reads' HO_517002.out).2.1)
                  rintro e w55 ⟨rfl, hb⟩
                  have HS3_ := (hb.cell (World.block_lt_of_cell? _ _ (hHeld.2.2.2.1))).trans (hHeld.2.2.2.1)
                  have HS4_ := (hb.cell (World.block_lt_of_cell? _ _ (hHeld.2.2.2.2))).trans (hHeld.2.2.2.2)
                  refine ⟨_, rfl, ?_⟩
                  have n0_ := Aside0.mk (Kd.R_below rHO_6_ hb)
                  have n1_ := Aside0.mk (Kd.R_below rHO_517000_ hb)
                  have n2_ := Aside0.mk (Kd.R_below rHO_517002_ hb)
                  have n3_ := Aside0.mk (blk_below (g := gb516) (o := .cells #[.slice Ao20 t507.length co20, .int .i64 t510, .slice Ao22 t511.length co22] 41 (0, 0)) bK516_ hb)
                  have n4_ := Aside0.mk (below_step hS_ hb)
                  clear HO_6
                  clear HO_517000
                  clear HO_517002
                  clear BK516
                  clear HB
                  have HO_6 := n0_
                  have HO_517000 := n1_
                  have HO_517002 := n2_
                  have BK516 := n3_
                  have HB := n4_
                  clear n0_ n1_ n2_ n3_ n4_
                  (try clear hb)
                  (try clear hb2)
                  (try clear hk)
                  (try clear hi)
                  refine hK.out _ _ ⟨(blk_cell BK516.out 0).trans rfl, (blk_cell BK516.out 1).trans rfl, (blk_cell BK516.out 2).trans rfl, HS3_, HS4_⟩ (fun hHeld => ?_)
                  clear hK K
                  refine norm_ (a' := ?_) ?_ ?_
                  rotate_left
                  ·show Act.put _ (some 88) _ = _
                   simp only [Act.put, List.setIfInBounds_toArray, List.set_cons_zero, List.set_cons_succ, i64_w, i32_w]
                   rfl
                  refine pure_ (i := 17) (N := some 89) (v := ?_) (a' := ?_) #[true, true, true, true, true, true, true, true, true, true, true, true, true, true, true, true, true, true] rfl rfl (any_of HT_.out (by kernel_rfl)) (fun _ _ _ h => h) (Or.inl ⟨by rfl, ?_⟩) ?_ ?_
                  rotate_left
                  ·intro w'
                   go_simp
                   with_reducible rfl
                  rotate_left
                  ·simp only [Act.put, List.setIfInBounds_toArray, List.set_cons_zero, List.set_cons_succ, i64_w, i32_w]
                   rfl
                  refine done_ (done_of HT_.out (by kernel_rfl)) ?_
                  try go_wp2
                  go_meet
                  case rel => exact ⟨_, (t532), rF_, H', ⟨by have := HK1.out; have := HJ29.out; have := HK3.out; first | omega | exact Nat.le_refl _⟩, ⟨rHO_6_⟩, ⟨rHO_517000_⟩, ⟨rHO_517002_⟩, ⟨bK516_⟩, ⟨hS_⟩⟩
                ·replace c50 := Bool.eq_false_iff.mpr c50
                 subst c50
                 have H1 := (if_neg (show ¬ (false = true) by decide)).symm.trans H
                 clear H
                 have H := H1
                 clear H1
                 have H' := Aside0.mk H
                 clear H
                 try go_wp2
                 have n0_ := Aside0.mk (Kd.R_drew HO_6.out)
                 have n1_ := Aside0.mk (Kd.R_drew HO_517000.out)
                 have n2_ := Aside0.mk (Kd.R_drew HO_517002.out)
                 have n3_ := Aside0.mk (blk_drew BK516.out)
                 have n4_ := Aside0.mk (below_drew1 HB.out)
                 clear HO_6
                 clear HO_517000
                 clear HO_517002
                 clear BK516
                 clear HB
                 have HO_6 := n0_
                 have HO_517000 := n1_
                 have HO_517002 := n2_
                 have BK516 := n3_
                 have HB := n4_
                 clear n0_ n1_ n2_ n3_ n4_
                 refine start_ (n := 18) (S := fun w' => True) (ds := []) #[false, false, false, false, false, false, false, false, false, false, false, false, false, false, false, false, false, false] (by kernel_rfl) rfl rfl trivial (fun hHeld => ?_); refine with_tabW laws_FnDominates.tab16 laws_FnDominates.bits16 (fun HT_ HW_ => ?_)
                 generalize w49.drew = w56 at HO_6 HO_517000 HO_517002 BK516 HB hHeld ⊢
                 refine pure_ (i := 0) (N := some 72) (v := ?_) (a' := ?_) #[true, false, false, false, false, false, false, false, false, false, false, false, false, false, false, false, false, false] rfl rfl (any_of HT_.out (by kernel_rfl)) (fun _ _ _ h => h) (Or.inl ⟨by rfl, ?_⟩) ?_ ?_
                 rotate_left
                 ·intro w'
                  go_simp
                  with_reducible rfl
                 rotate_left
                 ·simp only [Act.put, List.setIfInBounds_toArray, List.set_cons_zero, List.set_cons_succ, i64_w, i32_w]
                  rfl
                 refine pure_ (i := 1) (N := some 73) (v := ?_) (a' := ?_) #[true, true, false, false, false, false, false, false, false, false, false, false, false, false, false, false, false, false] rfl rfl (any_of HT_.out (by kernel_rfl)) (fun _ _ _ h => h) (Or.inl ⟨by rfl, ?_⟩) ?_ ?_
                 rotate_left
                 ·intro w'
                  go_simp
                  with_reducible rfl
                 rotate_left
                 ·simp only [Act.put, List.setIfInBounds_toArray, List.set_cons_zero, List.set_cons_succ, i64_w, i32_w]
                  rfl
                 refine pure_ (i := 2) (N := some 74) (v := undef) (a' := ?_) #[true, true, true, false, false, false, false, false, false, false, false, false, false, false, false, false, false, false] rfl rfl (any_of HT_.out (by kernel_rfl)) (fun _ _ _ h => h) (Or.inr ⟨by rfl, rfl⟩) ?_ ?_
                 rotate_left
                 ·simp only [Act.put, List.setIfInBounds_toArray, List.set_cons_zero, List.set_cons_succ, i64_w, i32_w]
                  rfl
                 refine pure_ (i := 3) (N := some 75) (v := undef) (a' := ?_) #[true, true, true, true, false, false, false, false, false, false, false, false, false, false, false, false, false, false] rfl rfl (any_of HT_.out (by kernel_rfl)) (fun _ _ _ h => h) (Or.inr ⟨by rfl, rfl⟩) ?_ ?_
                 rotate_left
                 ·simp only [Act.put, List.setIfInBounds_toArray, List.set_cons_zero, List.set_cons_succ, i64_w, i32_w]
                  rfl
                 refine pure_ (i := 4) (N := some 76) (v := undef) (a' := ?_) #[true, true, true, true, true, false, false, false, false, false, false, false, false, false, false, false, false, false] rfl rfl (any_of HT_.out (by kernel_rfl)) (fun _ _ _ h => h) (Or.inr ⟨by rfl, rfl⟩) ?_ ?_
                 rotate_left
                 ·simp only [Act.put, List.setIfInBounds_toArray, List.set_cons_zero, List.set_cons_succ, i64_w, i32_w]
                  rfl
                 refine pure_ (i := 5) (N := some 77) (v := ?_) (a' := ?_) #[true, true, true, true, true, true, false, false, false, false, false, false, false, false, false, false, false, false] rfl rfl (any_of HT_.out (by kernel_rfl)) (fun _ _ _ h => h) (Or.inl ⟨by rfl, ?_⟩) ?_ ?_
                 rotate_left
                 ·intro w'
                  go_simp
                  with_reducible rfl
                 rotate_left
                 ·simp only [Act.put, List.setIfInBounds_toArray, List.set_cons_zero, List.set_cons_succ, i64_w, i32_w]
                  rfl
                 refine pure_ (i := 6) (N := some 78) (v := ?_) (a' := ?_) #[true, true, true, true, true, true, true, false, false, false, false, false, false, false, false, false, false, false] rfl rfl (any_of HT_.out (by kernel_rfl)) (fun _ _ _ h => h) (Or.inl ⟨by rfl, ?_⟩) ?_ ?_
                 rotate_left
                 ·intro w'
                  go_simp
                  with_reducible rfl
                 rotate_left
                 ·simp only [Act.put, List.setIfInBounds_toArray, List.set_cons_zero, List.set_cons_succ, i64_w, i32_w]
                  rfl
                 refine pure_ (i := 7) (N := some 79) (v := undef) (a' := ?_) #[true, true, true, true, true, true, true, true, false, false, false, false, false, false, false, false, false, false] rfl rfl (any_of HT_.out (by kernel_rfl)) (fun _ _ _ h => h) (Or.inr ⟨by rfl, rfl⟩) ?_ ?_
                 rotate_left
                 ·simp only [Act.put, List.setIfInBounds_toArray, List.set_cons_zero, List.set_cons_succ, i64_w, i32_w]
                  rfl
                 refine pure_ (i := 8) (N := some 80) (v := undef) (a' := ?_) #[true, true, true, true, true, true, true, true, true, false, false, false, false, false, false, false, false, false] rfl rfl (any_of HT_.out (by kernel_rfl)) (fun _ _ _ h => h) (Or.inr ⟨by rfl, rfl⟩) ?_ ?_
                 rotate_left
                 ·simp only [Act.put, List.setIfInBounds_toArray, List.set_cons_zero, List.set_cons_succ, i64_w, i32_w]
                  rfl
                 refine pure_ (i := 9) (N := some 81) (v := undef) (a' := ?_) #[true, true, true, true, true, true, true, true, true, true, false, false, false, false, false, false, false, false] rfl rfl (any_of HT_.out (by kernel_rfl)) (fun _ _ _ h => h) (Or.inr ⟨by rfl, rfl⟩) ?_ ?_
                 rotate_left
                 ·simp only [Act.put, List.setIfInBounds_toArray, List.set_cons_zero, List.set_cons_succ, i64_w, i32_w]
                  rfl
                 refine pure_ (i := 10) (N := some 82) (v := undef) (a' := ?_) #[true, true, true, true, true, true, true, true, true, true, true, false, false, false, false, false, false, false] rfl rfl (any_of HT_.out (by kernel_rfl)) (fun _ _ _ h => h) (Or.inr ⟨by rfl, rfl⟩) ?_ ?_
                 rotate_left
                 ·simp only [Act.put, List.setIfInBounds_toArray, List.set_cons_zero, List.set_cons_succ, i64_w, i32_w]
                  rfl
                 refine pure_ (i := 11) (N := some 83) (v := undef) (a' := ?_) #[true, true, true, true, true, true, true, true, true, true, true, true, false, false, false, false, false, false] rfl rfl (any_of HT_.out (by kernel_rfl)) (fun _ _ _ h => h) (Or.inr ⟨by rfl, rfl⟩) ?_ ?_
                 rotate_left
                 ·simp only [Act.put, List.setIfInBounds_toArray, List.set_cons_zero, List.set_cons_succ, i64_w, i32_w]
                  rfl
                 refine pure_ (i := 12) (N := some 84) (v := undef) (a' := ?_) #[true, true, true, true, true, true, true, true, true, true, true, true, true, false, false, false, false, false] rfl rfl (any_of HT_.out (by kernel_rfl)) (fun _ _ _ h => h) (Or.inr ⟨by rfl, rfl⟩) ?_ ?_
                 rotate_left
                 ·simp only [Act.put, List.setIfInBounds_toArray, List.set_cons_zero, List.set_cons_succ, i64_w, i32_w]
                  rfl
                 refine pure_ (i := 13) (N := some 85) (v := undef) (a' := ?_) #[true, true, true, true, true, true, true, true, true, true, true, true, true, true, false, false, false, false] rfl rfl (any_of HT_.out (by kernel_rfl)) (fun _ _ _ h => h) (Or.inr ⟨by rfl, rfl⟩) ?_ ?_
                 rotate_left
                 ·simp only [Act.put, List.setIfInBounds_toArray, List.set_cons_zero, List.set_cons_succ, i64_w, i32_w]
                  rfl
                 refine pure_ (i := 14) (N := some 86) (v := undef) (a' := ?_) #[true, true, true, true, true, true, true, true, true, true, true, true, true, true, true, false, false, false] rfl rfl (any_of HT_.out (by kernel_rfl)) (fun _ _ _ h => h) (Or.inr ⟨by rfl, rfl⟩) ?_ ?_
                 rotate_left
                 ·simp only [Act.put, List.setIfInBounds_toArray, List.set_cons_zero, List.set_cons_succ, i64_w, i32_w]
                  rfl
                 refine pure_ (i := 15) (N := some 87) (v := undef) (a' := ?_) #[true, true, true, true, true, true, true, true, true, true, true, true, true, true, true, true, false, false] rfl rfl (any_of HT_.out (by kernel_rfl)) (fun _ _ _ h => h) (Or.inr ⟨by rfl, rfl⟩) ?_ ?_
                 rotate_left
                 ·simp only [Act.put, List.setIfInBounds_toArray, List.set_cons_zero, List.set_cons_succ, i64_w, i32_w]
                  rfl
                 refine pure_ (i := 16) (N := some 88) (v := undef) (a' := ?_) #[true, true, true, true, true, true, true, true, true, true, true, true, true, true, true, true, true, false] rfl rfl (any_of HT_.out (by kernel_rfl)) (fun _ _ _ h => h) (Or.inr ⟨by rfl, rfl⟩) ?_ ?_
                 rotate_left
                 ·simp only [Act.put, List.setIfInBounds_toArray, List.set_cons_zero, List.set_cons_succ, i64_w, i32_w]
                  rfl
                 refine pure_ (i := 17) (N := some 89) (v := ?_) (a' := ?_) #[true, true, true, true, true, true, true, true, true, true, true, true, true, true, true, true, true, true] rfl rfl (any_of HT_.out (by kernel_rfl)) (fun _ _ _ h => h) (Or.inl ⟨by rfl, ?_⟩) ?_ ?_
                 rotate_left
                 ·intro w'
                  go_simp
                  with_reducible rfl
                 rotate_left
                 ·simp only [Act.put, List.setIfInBounds_toArray, List.set_cons_zero, List.set_cons_succ, i64_w, i32_w]
                  rfl
                 refine done_ (done_of HT_.out (by kernel_rfl)) ?_
                 try go_wp2
                 go_meet
                 case rel => exact ⟨_, (false), rF_, H', ⟨by have := HK1.out; have := HJ29.out; have := HK3.out; first | omega | exact Nat.le_refl _⟩, ⟨rHO_6_⟩, ⟨rHO_517000_⟩, ⟨rHO_517002_⟩, ⟨bK516_⟩, ⟨hS_⟩⟩
               case rest =>
                clear HC47
                try clear c2
                try clear p2
                try clear c5
                try clear p5
                try clear q5
                try clear hx5
                try clear c27
                try clear c50
                try clear c51
                try clear c51b0
                try clear c51b1
                try clear p53
                try clear q53
                try clear hx53
                try clear hx530_0
                try clear hx531_0
                try clear p530
                try clear p531
                try clear q530
                try clear q531
                obtain ⟨kq, x89_46, rfl, HA, HJ46, HO_6, HO_517000, HO_517002, BK516, HB⟩ := hcut
                cases kq with
                | zero => exact absurd HA.out (by simp [laws_FnDominates.j3])
                | succ kj46 =>
                 have H := HA.out
                 clear HA
                 simp only [laws_FnDominates.j3] at H
                 by_cases c57 : x89_46 = true
                 ·subst c57
                  have H1 := (if_pos rfl).symm.trans H
                  clear H
                  have H := H1
                  clear H1
                  obtain rfl := Option.some.inj H
                  go_wp2
                  go_ret
                  exact ⟨rG_, hS_⟩
                 ·replace c57 := Bool.eq_false_iff.mpr c57
                  subst c57
                  have H1 := (if_neg (show ¬ (false = true) by decide)).symm.trans H
                  clear H
                  have H := H1
                  clear H1
                  have H' := Aside0.mk H
                  clear H
                  go_wp2
                  go_loopg [10] kj46 (fun kq v10 w' => ∃ (x10_5 : Int), v10 = .int .i64 x10_5 ∧ Aside0 (laws_FnDominates.l2 kq t519 x7_1 x8_3 t529 x10_5 t507 t510 t511 = some r) ∧ Aside0 (kq ≤ kj46) ∧ Aside0 (Kd.R (Kd.int .i64) 2 w' w.heap.size (fun k_ => some k_ ≠ ((.slice Ao20 t507.length co20) : Value).ownBlock) (.slice (some ad527) t519.length co31) t519) ∧ Aside0 (Kd.R (Kd.int .i64) 2 w' w.heap.size (fun k_ => some k_ ≠ ((.slice (some ad527) t519.length co31) : Value).ownBlock) (.slice Ao20 t507.length co20) t507) ∧ Aside0 (Kd.R k88 88 w' w.heap.size (fun k_ => some k_ ≠ ((.slice (some ad527) t519.length co31) : Value).ownBlock ∧ some k_ ≠ ((.slice Ao20 t507.length co20) : Value).ownBlock) (.slice Ao22 t511.length co22) t511) ∧ Aside0 (w'.heap[gb516]? = some (.cells #[(.slice Ao20 t507.length co20), .int .i64 t510, (.slice Ao22 t511.length co22)] 41 (0, 0))) ∧ Aside0 (Below w.heap.size w w'))
                  case atStart => exact ⟨(0), rF_, H', ⟨Nat.le_refl _⟩, ⟨rHO_6_⟩, ⟨rHO_517000_⟩, ⟨rHO_517002_⟩, ⟨bK516_⟩, ⟨hS_⟩⟩
                  case round =>
                   clear H'
                   try clear c2
                   try clear p2
                   try clear c5
                   try clear p5
                   try clear q5
                   try clear hx5
                   try clear c27
                   try clear c50
                   try clear c51
                   try clear c51b0
                   try clear c51b1
                   try clear p53
                   try clear q53
                   try clear hx53
                   try clear c57
                   try clear hx530_0
                   try clear hx531_0
                   try clear p2
                   try clear p5
                   try clear p53
                   try clear p530
                   try clear p531
                   try clear q5
                   try clear q53
                   try clear q530
                   try clear q531
                   obtain ⟨x10_5, rfl, HA, HK5, HO_6, HO_517000, HO_517002, BK516, HB⟩ := hrel
                   cases gk with
                   | zero => exact absurd HA.out (by simp [laws_FnDominates.l2])
                   | succ k5 =>
                    have H := HA.out
                    clear HA
                    simp only [laws_FnDominates.l2] at H
                    have HC58 := Aside0.mk H
                    clear H
                    go_upto_region 19 with (fail)
                    go_cut [96] (fun v96 wc => ∃ (kq : Nat) (x96_57 : Bool), v96 = .bool x96_57 ∧ Aside0 (laws_FnDominates.j5 kq t519 x7_1 x8_3 t529 x10_5 x96_57 t507 t510 t511 = some r) ∧ Aside0 (kq ≤ k5) ∧ Aside0 (Kd.R (Kd.int .i64) 2 wc w.heap.size (fun k_ => some k_ ≠ ((.slice Ao20 t507.length co20) : Value).ownBlock) (.slice (some ad527) t519.length co31) t519) ∧ Aside0 (Kd.R (Kd.int .i64) 2 wc w.heap.size (fun k_ => some k_ ≠ ((.slice (some ad527) t519.length co31) : Value).ownBlock) (.slice Ao20 t507.length co20) t507) ∧ Aside0 (Kd.R k88 88 wc w.heap.size (fun k_ => some k_ ≠ ((.slice (some ad527) t519.length co31) : Value).ownBlock ∧ some k_ ≠ ((.slice Ao20 t507.length co20) : Value).ownBlock) (.slice Ao22 t511.length co22) t511) ∧ Aside0 (wc.heap[gb516]? = some (.cells #[(.slice Ao20 t507.length co20), .int .i64 t510, (.slice Ao22 t511.length co22)] 41 (0, 0))) ∧ Aside0 (Below w.heap.size w wc))
                    case first =>
                     have H := HC58.out
                     clear HC58
                     by_cases c59 : x10_5 < (t519.length : Int)
                     ·rw [if_pos c59] at H
                      have c59b0 : decide (x10_5 < (t519.length : Int)) = true := decide_eq_true c59
                      clear c59
                      (first | rw [c59b0] | (simp only [i64_w, i32_w]; rw [c59b0]) | skip)
                      have H' := Aside0.mk H
                      clear H
                      go_wp2
                      go_meet
                      case rel => exact ⟨_, (t529), rF_, H', ⟨by have := HK1.out; have := HJ29.out; have := HK3.out; have := HJ46.out; have := HK5.out; first | omega | exact Nat.le_refl _⟩, ⟨rHO_6_⟩, ⟨rHO_517000_⟩, ⟨rHO_517002_⟩, ⟨bK516_⟩, ⟨hS_⟩⟩
                     ·rw [if_neg c59] at H
                      have c59b0 : decide (x10_5 < (t519.length : Int)) = false := decide_eq_false c59
                      clear c59
                      (first | rw [c59b0] | (simp only [i64_w, i32_w]; rw [c59b0]) | skip)
                      have H' := Aside0.mk H
                      clear H
                      go_wp2
                      go_meet
                      case rel => exact ⟨_, (false), rF_, H', ⟨by have := HK1.out; have := HJ29.out; have := HK3.out; have := HJ46.out; have := HK5.out; first | omega | exact Nat.le_refl _⟩, ⟨rHO_6_⟩, ⟨rHO_517000_⟩, ⟨rHO_517002_⟩, ⟨bK516_⟩, ⟨hS_⟩⟩
                    case rest =>
                     clear HC58
                     try clear c2
                     try clear p2
                     try clear c5
                     try clear p5
                     try clear q5
                     try clear hx5
                     try clear c27
                     try clear c50
                     try clear c51
                     try clear c51b0
                     try clear c51b1
                     try clear p53
                     try clear q53
                     try clear hx53
                     try clear c57
                     try clear c59
                     try clear c59b0
                     try clear hx530_0
                     try clear hx531_0
                     try clear p2
                     try clear p5
                     try clear p53
                     try clear p530
                     try clear p531
                     try clear q5
                     try clear q53
                     try clear q530
                     try clear q531
                     obtain ⟨kq, x96_57, rfl, HA, HJ57, HO_6, HO_517000, HO_517002, BK516, HB⟩ := hcut
                     cases kq with
                     | zero => exact absurd HA.out (by simp [laws_FnDominates.j5])
                     | succ kj57 =>
                      have H := HA.out
                      clear HA
                      simp only [laws_FnDominates.j5] at H
                      by_cases c60 : x96_57 = true
                      ·subst c60
                       have H1 := (if_pos rfl).symm.trans H
                       clear H
                       have H := H1
                       clear H1
                       by_cases c61 : 0 ≤ x8_3
                       ·rw [if_pos c61] at H
                        have c61b0 : decide (0 ≤ x8_3) = true := decide_eq_true c61
                        clear c61
                        by_cases c62 : x8_3 < (t519.length : Int)
                        ·rw [if_pos c62] at H
                         have c62b0 : decide (x8_3 < (t519.length : Int)) = true := decide_eq_true c62
                         clear c62
                         by_cases c63 : 0 ≤ x10_5
                         ·rw [if_pos c63] at H
                          have c63b0 : decide (0 ≤ x10_5) = true := decide_eq_true c63
                          clear c63
                          by_cases c64 : x10_5 < (t519.length : Int)
                          ·rw [if_pos c64] at H
                           have c64b0 : decide (x10_5 < (t519.length : Int)) = true := decide_eq_true c64
                           clear c64
                           replace H := Option.bind_eq_some_iff.mp H
                           obtain ⟨t535, A650, H⟩ := H
                           replace H : (if t535 = true then (if 0 ≤ x7_1 then (if x7_1 < (t519.length : Int) then ((impl_Dominates.f kj57 t507 t510 t511 (rd t519 x7_1) (rd t519 x10_5)).bind fun t538 => (if t538 = true then (laws_FnDominates.l2 kj57 t519 x7_1 x8_3 t529 (wrap64 (x10_5 + 1)) t507 t510 t511) else (some false))) else (none)) else (none)) else (laws_FnDominates.l2 kj57 t519 x7_1 x8_3 t529 (wrap64 (x10_5 + 1)) t507 t510 t511)) = some r := H
                           have A65 := Aside0.mk A650
                           clear A650
                           by_cases c66 : t535 = true
                           ·subst c66
                            have H1 := (if_pos rfl).symm.trans H
                            clear H
                            have H := H1
                            clear H1
                            by_cases c67 : 0 ≤ x7_1
                            ·rw [if_pos c67] at H
                             have c67b0 : decide (0 ≤ x7_1) = true := decide_eq_true c67
                             clear c67
                             by_cases c68 : x7_1 < (t519.length : Int)
                             ·rw [if_pos c68] at H
                              have c68b0 : decide (x7_1 < (t519.length : Int)) = true := decide_eq_true c68
                              clear c68
                              replace H := Option.bind_eq_some_iff.mp H
                              obtain ⟨t538, A690, H⟩ := H
                              replace H : (if t538 = true then (laws_FnDominates.l2 kj57 t519 x7_1 x8_3 t529 (wrap64 (x10_5 + 1)) t507 t510 t511) else (some false)) = some r := H
                              have A69 := Aside0.mk A690
                              clear A690
                              by_cases c70 : t538 = true
                              ·subst c70
                               have H1 := (if_pos rfl).symm.trans H
                               clear H
                               have H := H1
                               clear H1
                               have H' := Aside0.mk H
                               clear H
                               try go_wp2
                               have n0_ := Aside0.mk (Kd.R_drew HO_6.out)
                               have n1_ := Aside0.mk (Kd.R_drew HO_517000.out)
                               have n2_ := Aside0.mk (Kd.R_drew HO_517002.out)
                               have n3_ := Aside0.mk (blk_drew BK516.out)
                               have n4_ := Aside0.mk (below_drew1 HB.out)
                               clear HO_6
                               clear HO_517000
                               clear HO_517002
                               clear BK516
                               clear HB
                               have HO_6 := n0_
                               have HO_517000 := n1_
                               have HO_517002 := n2_
                               have BK516 := n3_
                               have HB := n4_
                               clear n0_ n1_ n2_ n3_ n4_
                               have p533 : 0 ≤ (x8_3 : Int) := oD_
                               have q533 : x8_3 < (t519.length : Int) := oD_
                               obtain ⟨ad533, e533, hx533_0⟩ := Kd.at_int (Kd.R_reads' HO_6.out).2.2 x8_3 p533 q533
                               obtain rfl : ad527 = ad533 := (by injection e533)
                               replace p533 := eq_true p533
                               replace q533 := eq_true q533
                               have p534 : 0 ≤ (x10_5 : Int) := oD_
                               have q534 : x10_5 < (t519.length : Int) := oD_
                               obtain ⟨ad534, e534, hx534_0⟩ := Kd.at_int (Kd.R_reads' HO_6.out).2.2 x10_5 p534 q534
                               obtain rfl : ad527 = ad534 := (by injection e534)
                               replace p534 := eq_true p534
                               replace q534 := eq_true q534
                               have p536 : 0 ≤ (x7_1 : Int) := oD_
                               have q536 : x7_1 < (t519.length : Int) := oD_
                               obtain ⟨ad536, e536, hx536_0⟩ := Kd.at_int (Kd.R_reads' HO_6.out).2.2 x7_1 p536 q536
                               obtain rfl : ad527 = ad536 := (by injection e536)
                               replace p536 := eq_true p536
                               replace q536 := eq_true q536
                               have p537 : 0 ≤ (x10_5 : Int) := oD_
                               have q537 : x10_5 < (t519.length : Int) := oD_
                               obtain ⟨ad537, e537, hx537_0⟩ := Kd.at_int (Kd.R_reads' HO_6.out).2.2 x10_5 p537 q537
                               obtain rfl : ad527 = ad537 := (by injection e537)
                               replace p537 := eq_true p537
                               replace q537 := eq_true q537
                               refine start_ (n := 23) (S := fun w' => w'.cell? ⟨gb516, 0, none⟩ = some (.slice Ao20 t507.length co20) ∧ w'.cell? ⟨gb516, 1, none⟩ = some (.int .i64 t510) ∧ w'.cell? ⟨gb516, 2, none⟩ = some (.slice Ao22 t511.length co22) ∧ w'.cell? (ad527.add (x8_3).toNat) = some (.int .i64 (rd t519 x8_3)) ∧ w'.cell? (ad527.add (x10_5).toNat) = some (.int .i64 (rd t519 x10_5)) ∧ w'.cell? (ad527.add (x7_1).toNat) = some (.int .i64 (rd t519 x7_1)) ∧ w'.cell? (ad527.add (x10_5).toNat) = some (.int .i64 (rd t519 x10_5))) (ds := []) #[false, false, false, false, false, false, false, false, false, false, false, false, false, false, false, false, false, false, false, false, false, false, false] (by kernel_rfl) rfl rfl ⟨(blk_cell BK516.out 0).trans rfl, (blk_cell BK516.out 1).trans rfl, (blk_cell BK516.out 2).trans rfl, hx533_0, hx534_0, hx536_0, hx537_0⟩ (fun hHeld => ?_); refine with_tabW laws_FnDominates.tab21 laws_FnDominates.bits21 (fun HT_ HW_ => ?_)
                               generalize wc.drew = w71 at HO_6 HO_517000 HO_517002 BK516 HB hx533_0 hx534_0 hx536_0 hx537_0 hHeld ⊢
                               refine pure_ (i := 1) (N := some 100) (v := ?_) (a' := ?_) #[false, true, false, false, false, false, false, false, false, false, false, false, false, false, false, false, false, false, false, false, false, false, false] rfl rfl (any_of HT_.out (by kernel_rfl)) (fun _ _ _ h => h) (Or.inl ⟨by rfl, ?_⟩) ?_ ?_
                               rotate_left
                               ·intro w'
                                go_simp
                                with_reducible rfl
                               rotate_left
                               ·simp only [Act.put, List.setIfInBounds_toArray, List.set_cons_zero, List.set_cons_succ, i64_w, i32_w]
                                rfl
                               refine pure_ (i := 2) (N := some 101) (v := ?_) (a' := ?_) #[false, true, true, false, false, false, false, false, false, false, false, false, false, false, false, false, false, false, false, false, false, false, false] rfl rfl (any_of HT_.out (by kernel_rfl)) (fun _ _ _ h => h) (Or.inl ⟨by rfl, ?_⟩) ?_ ?_
                               rotate_left
                               ·intro w'
                                go_simp
                                with_reducible rfl
                               rotate_left
                               ·simp only [Act.put, List.setIfInBounds_toArray, List.set_cons_zero, List.set_cons_succ, i64_w, i32_w]
                                rfl
                               refine pure_ (i := 3) (N := some 102) (v := ?_) (a' := ?_) #[false, true, true, true, false, false, false, false, false, false, false, false, false, false, false, false, false, false, false, false, false, false, false] rfl rfl (any_of HT_.out (by kernel_rfl)) (fun _ _ _ h => h) (Or.inl ⟨by rfl, ?_⟩) ?_ ?_
                               rotate_left
                               ·intro w'
                                go_simp
                                with_reducible rfl
                               rotate_left
                               ·simp only [Act.put, List.setIfInBounds_toArray, List.set_cons_zero, List.set_cons_succ, i64_w, i32_w]
                                rfl
                               refine pure_ (i := 5) (N := some 104) (v := ?_) (a' := ?_) #[false, true, true, true, false, true, false, false, false, false, false, false, false, false, false, false, false, false, false, false, false, false, false] rfl rfl (any_of HT_.out (by kernel_rfl)) (fun _ _ _ h => h) (Or.inl ⟨by rfl, ?_⟩) ?_ ?_
                               rotate_left
                               ·intro w'
                                go_simp
                                with_reducible rfl
                               rotate_left
                               ·simp only [Act.put, List.setIfInBounds_toArray, List.set_cons_zero, List.set_cons_succ, i64_w, i32_w]
                                rfl
                               refine pure_ (i := 6) (N := some 105) (v := ?_) (a' := ?_) #[false, true, true, true, false, true, true, false, false, false, false, false, false, false, false, false, false, false, false, false, false, false, false] rfl rfl (any_of HT_.out (by kernel_rfl)) (fun _ _ _ h => h) (Or.inl ⟨by rfl, ?_⟩) ?_ ?_
                               rotate_left
                               ·intro w'
                                go_simp
                                with_reducible rfl
                               rotate_left
                               ·simp only [Act.put, List.setIfInBounds_toArray, List.set_cons_zero, List.set_cons_succ, i64_w, i32_w]
                                rfl
                               refine pure_ (i := 7) (N := some 106) (v := ?_) (a' := ?_) #[false, true, true, true, false, true, true, true, false, false, false, false, false, false, false, false, false, false, false, false, false, false, false] rfl rfl (any_of HT_.out (by kernel_rfl)) (fun _ _ _ h => h) (Or.inl ⟨by rfl, ?_⟩) ?_ ?_
                               rotate_left
                               ·intro w'
                                go_simp
                                with_reducible rfl
                               rotate_left
                               ·simp only [Act.put, List.setIfInBounds_toArray, List.set_cons_zero, List.set_cons_succ, i64_w, i32_w]
                                rfl
                               refine take_ (i := 0) (N := some 99) (v := ?_) (a' := ?_) #[true, true, true, true, false, true, true, true, false, false, false, false, false, false, false, false, false, false, false, false, false, false, false] rfl rfl (take_ofW HT_.out HW_.out (by kernel_rfl)) (fun _ _ _ h => h) (Or.inl ⟨by rfl, ?_⟩) hHeld ?_ ?_
                               rotate_left
                               ·rintro w' ⟨s0, s1, s2, s3, s4, s5, s6⟩
                                go_simp
                                with_reducible rfl
                               rotate_left
                               ·simp only [Act.put, List.setIfInBounds_toArray, List.set_cons_zero, List.set_cons_succ, i64_w, i32_w]
                                rfl
                               refine take_ (i := 4) (N := some 103) (v := ?_) (a' := ?_) #[true, true, true, true, true, true, true, true, false, false, false, false, false, false, false, false, false, false, false, false, false, false, false] rfl rfl (take_ofW HT_.out HW_.out (by kernel_rfl)) (fun _ _ _ h => h) (Or.inl ⟨by rfl, ?_⟩) hHeld ?_ ?_
                               rotate_left
                               ·rintro w' ⟨s0, s1, s2, s3, s4, s5, s6⟩
                                go_simp
                                with_reducible rfl
                               rotate_left
                               ·simp only [Act.put, List.setIfInBounds_toArray, List.set_cons_zero, List.set_cons_succ, i64_w, i32_w]
                                rfl
                               refine take_ (i := 8) (N := some 107) (v := ?_) (a' := ?_) #[true, true, true, true, true, true, true, true, true, false, false, false, false, false, false, false, false, false, false, false, false, false, false] rfl rfl (take_ofW HT_.out HW_.out (by kernel_rfl)) (fun _ _ _ h => h) (Or.inl ⟨by rfl, ?_⟩) hHeld ?_ ?_
                               rotate_left
                               ·rintro w' ⟨s0, s1, s2, s3, s4, s5, s6⟩
                                go_simp
                                with_reducible rfl
                               rotate_left
                               ·simp only [Act.put, List.setIfInBounds_toArray, List.set_cons_zero, List.set_cons_succ, i64_w, i32_w]
                                rfl
                               refine one_ (i := 9) (N := some 108) #[true, true, true, true, true, true, true, true, true, true, false, false, false, false, false, false, false, false, false, false, false, false, false] rfl rfl (one_of HT_.out (by kernel_rfl)) (by decide) (fun K hK => ?_)
                               refine goes_ Try.func27 (by kernel_rfl) rfl #[.agg #[.slice Ao20 t507.length co20, .int .i64 t510, .slice Ao22 t511.length co22], .int .i64 (rd t519 x8_3), .int .i64 (rd t519 x10_5)] (by rfl) rfl rfl (by (try simp only [List.map_toArray, List.map_cons, List.map_nil]); first | done | rfl | (simp only [List.length_drop, List.length_take]; rfl)) ?_
                               with_reducible refine (impl_Dominates.calls kj57 _ _ t507 t510 _ _ t511 (rd t519 x8_3) (rd t519 x10_5) true _ ?side1 ?side2 ?side3 ?side4 A65.out).mono ?_
                               (case side1 => repeat (first | exact (Kd.R_reads' HO_517000.out).2.2 | (with_reducible refine Kd.C_alloc ?_ _) | (with_reducible refine Kd.C_drewN ?_ _) | (with_reducible refine Kd.C_drew ?_)))
                               (case side2 => exact (Kd.R_reads' HO_517000.out).2.1)
                               (case side3 => repeat (first | exact (Kd.R_reads' HO_517002.out).2.2 | (with_reducible refine Kd.C_alloc ?_ _) | (with_reducible refine Kd.C_drewN ?_ _) | (with_reducible refine Kd.C_drew ?_)))
                               (case side4 => exact (Kd.R_reads' HO_517002.out).2.1)
                               rintro e w72 ⟨rfl, hb⟩
                               have HS3_ := (hb.cell (World.block_lt_of_cell? _ _ (hHeld.2.2.2.1))).trans (hHeld.2.2.2.1)
                               have HS4_ := (hb.cell (World.block_lt_of_cell? _ _ (hHeld.2.2.2.2.1))).trans (hHeld.2.2.2.2.1)
                               have HS5_ := (hb.cell (World.block_lt_of_cell? _ _ (hHeld.2.2.2.2.2.1))).trans (hHeld.2.2.2.2.2.1)
                               have HS6_ := (hb.cell (World.block_lt_of_cell? _ _ (hHeld.2.2.2.2.2.2))).trans (hHeld.2.2.2.2.2.2)
                               refine ⟨_, rfl, ?_⟩
                               have n0_ := Aside0.mk (Kd.R_below rHO_6_ hb)
                               have n1_ := Aside0.mk (Kd.R_below rHO_517000_ hb)
                               have n2_ := Aside0.mk (Kd.R_below rHO_517002_ hb)
                               have n3_ := Aside0.mk (blk_below (g := gb516) (o := .cells #[.slice Ao20 t507.length co20, .int .i64 t510, .slice Ao22 t511.length co22] 41 (0, 0)) bK516_ hb)
                               have n4_ := Aside0.mk (below_step hS_ hb)
                               clear HO_6
                               clear HO_517000
                               clear HO_517002
                               clear BK516
                               clear HB
                               have HO_6 := n0_
                               have HO_517000 := n1_
                               have HO_517002 := n2_
                               have BK516 := n3_
                               have HB := n4_
                               clear n0_ n1_ n2_ n3_ n4_
                               (try clear hb)
                               (try clear hb2)
                               (try clear hk)
                               (try clear hi)
                               refine hK.out _ _ ⟨(blk_cell BK516.out 0).trans rfl, (blk_cell BK516.out 1).trans rfl, (blk_cell BK516.out 2).trans rfl, HS3_, HS4_, HS5_, HS6_⟩ (fun hHeld => ?_)
                               clear hK K
                               refine norm_ (a' := ?_) ?_ ?_
                               rotate_left
                               ·show Act.put _ (some 108) _ = _
                                simp only [Act.put, List.setIfInBounds_toArray, List.set_cons_zero, List.set_cons_succ, i64_w, i32_w]
                                rfl
                               refine pure_ (i := 10) (N := some 109) (v := ?_) (a' := ?_) #[true, true, true, true, true, true, true, true, true, true, true, false, false, false, false, false, false, false, false, false, false, false, false] rfl rfl (any_of HT_.out (by kernel_rfl)) (fun _ _ _ h => h) (Or.inl ⟨by rfl, ?_⟩) ?_ ?_
                               rotate_left
                               ·intro w'
                                go_simp
                                with_reducible rfl
                               rotate_left
                               ·simp only [Act.put, List.setIfInBounds_toArray, List.set_cons_zero, List.set_cons_succ, i64_w, i32_w]
                                rfl
                               refine pure_ (i := 12) (N := some 111) (v := ?_) (a' := ?_) #[true, true, true, true, true, true, true, true, true, true, true, false, true, false, false, false, false, false, false, false, false, false, false] rfl rfl (any_of HT_.out (by kernel_rfl)) (fun _ _ _ h => h) (Or.inl ⟨by rfl, ?_⟩) ?_ ?_
                               rotate_left
                               ·intro w'
                                go_simp
                                with_reducible rfl
                               rotate_left
                               ·simp only [Act.put, List.setIfInBounds_toArray, List.set_cons_zero, List.set_cons_succ, i64_w, i32_w]
                                rfl
                               refine pure_ (i := 13) (N := some 112) (v := ?_) (a' := ?_) #[true, true, true, true, true, true, true, true, true, true, true, false, true, true, false, false, false, false, false, false, false, false, false] rfl rfl (any_of HT_.out (by kernel_rfl)) (fun _ _ _ h => h) (Or.inl ⟨by rfl, ?_⟩) ?_ ?_
                               rotate_left
                               ·intro w'
                                go_simp
                                with_reducible rfl
                               rotate_left
                               ·simp only [Act.put, List.setIfInBounds_toArray, List.set_cons_zero, List.set_cons_succ, i64_w, i32_w]
                                rfl
                               refine pure_ (i := 14) (N := some 113) (v := ?_) (a' := ?_) #[true, true, true, true, true, true, true, true, true, true, true, false, true, true, true, false, false, false, false, false, false, false, false] rfl rfl (any_of HT_.out (by kernel_rfl)) (fun _ _ _ h => h) (Or.inl ⟨by rfl, ?_⟩) ?_ ?_
                               rotate_left
                               ·intro w'
                                go_simp
                                with_reducible rfl
                               rotate_left
                               ·simp only [Act.put, List.setIfInBounds_toArray, List.set_cons_zero, List.set_cons_succ, i64_w, i32_w]
                                rfl
                               refine pure_ (i := 16) (N := some 115) (v := ?_) (a' := ?_) #[true, true, true, true, true, true, true, true, true, true, true, false, true, true, true, false, true, false, false, false, false, false, false] rfl rfl (any_of HT_.out (by kernel_rfl)) (fun _ _ _ h => h) (Or.inl ⟨by rfl, ?_⟩) ?_ ?_
                               rotate_left
                               ·intro w'
                                go_simp
                                with_reducible rfl
                               rotate_left
                               ·simp only [Act.put, List.setIfInBounds_toArray, List.set_cons_zero, List.set_cons_succ, i64_w, i32_w]
                                rfl
                               refine pure_ (i := 17) (N := some 116) (v := ?_) (a' := ?_) #[true, true, true, true, true, true, true, true, true, true, true, false, true, true, true, false, true, true, false, false, false, false, false] rfl rfl (any_of HT_.out (by kernel_rfl)) (fun _ _ _ h => h) (Or.inl ⟨by rfl, ?_⟩) ?_ ?_
                               rotate_left
                               ·intro w'
                                go_simp
                                with_reducible rfl
                               rotate_left
                               ·simp only [Act.put, List.setIfInBounds_toArray, List.set_cons_zero, List.set_cons_succ, i64_w, i32_w]
                                rfl
                               refine pure_ (i := 18) (N := some 117) (v := ?_) (a' := ?_) #[true, true, true, true, true, true, true, true, true, true, true, false, true, true, true, false, true, true, true, false, false, false, false] rfl rfl (any_of HT_.out (by kernel_rfl)) (fun _ _ _ h => h) (Or.inl ⟨by rfl, ?_⟩) ?_ ?_
                               rotate_left
                               ·intro w'
                                go_simp
                                with_reducible rfl
                               rotate_left
                               ·simp only [Act.put, List.setIfInBounds_toArray, List.set_cons_zero, List.set_cons_succ, i64_w, i32_w]
                                rfl
                               refine take_ (i := 11) (N := some 110) (v := ?_) (a' := ?_) #[true, true, true, true, true, true, true, true, true, true, true, true, true, true, true, false, true, true, true, false, false, false, false] rfl rfl (take_ofW HT_.out HW_.out (by kernel_rfl)) (fun _ _ _ h => h) (Or.inl ⟨by rfl, ?_⟩) hHeld ?_ ?_
                               rotate_left
                               ·rintro w' ⟨s0, s1, s2, s3, s4, s5, s6⟩
                                go_simp
                                with_reducible rfl
                               rotate_left
                               ·simp only [Act.put, List.setIfInBounds_toArray, List.set_cons_zero, List.set_cons_succ, i64_w, i32_w]
                                rfl
                               refine take_ (i := 15) (N := some 114) (v := ?_) (a' := ?_) #[true, true, true, true, true, true, true, true, true, true, true, true, true, true, true, true, true, true, true, false, false, false, false] rfl rfl (take_ofW HT_.out HW_.out (by kernel_rfl)) (fun _ _ _ h => h) (Or.inl ⟨by rfl, ?_⟩) hHeld ?_ ?_
                               rotate_left
                               ·rintro w' ⟨s0, s1, s2, s3, s4, s5, s6⟩
                                go_simp
                                with_reducible rfl
                               rotate_left
                               ·simp only [Act.put, List.setIfInBounds_toArray, List.set_cons_zero, List.set_cons_succ, i64_w, i32_w]
                                rfl
                               refine take_ (i := 19) (N := some 118) (v := ?_) (a' := ?_) #[true, true, true, true, true, true, true, true, true, true, true, true, true, true, true, true, true, true, true, true, false, false, false] rfl rfl (take_ofW HT_.out HW_.out (by kernel_rfl)) (fun _ _ _ h => h) (Or.inl ⟨by rfl, ?_⟩) hHeld ?_ ?_
                               rotate_left
                               ·rintro w' ⟨s0, s1, s2, s3, s4, s5, s6⟩
                                go_simp
                                with_reducible rfl
                               rotate_left
                               ·simp only [Act.put, List.setIfInBounds_toArray, List.set_cons_zero, List.set_cons_succ, i64_w, i32_w]
                                rfl
                               refine one_ (i := 20) (N := some 119) #[true, true, true, true, true, true, true, true, true, true, true, true, true, true, true, true, true, true, true, true, true, false, false] rfl rfl (one_of HT_.out (by kernel_rfl)) (by decide) (fun K hK => ?_)
                               refine goes_ Try.func27 (by kernel_rfl) rfl #[.agg #[.slice Ao20 t507.length co20, .int .i64 t510, .slice Ao22 t511.length co22], .int .i64 (rd t519 x7_1), .int .i64 (rd t519 x10_5)] (by rfl) rfl rfl (by (try simp only [List.map_toArray, List.map_cons, List.map_nil]); first | done | rfl | (simp only [List.length_drop, List.length_take]; rfl)) ?_
                               with_reducible refine (impl_Dominates.calls kj57 _ _ t507 t510 _ _ t511 (rd t519 x7_1) (rd t519 x10_5) true _ ?side1 ?side2 ?side3 ?side4 A69.out).mono ?_
                               (case side1 => repeat (first | exact (Kd.R_reads' HO_517000.out).2.2 | (with_reducible refine Kd.C_alloc ?_ _) | (with_reducible refine Kd.C_drewN ?_ _) | (with_reducible refine Kd.C_drew ?_)))
                               (case side2 => exact (Kd.R_reads' HO_517000.out).2.1)
                               (case side3 => repeat (first | exact (Kd.R_reads' HO_517002.out).2.2 | (with_reducible refine Kd.C_alloc ?_ _) | (with_reducible refine Kd.C_drewN ?_ _) | (with_reducible refine Kd.C_drew ?_)))
                               (case side4 => exact (Kd.R_reads' HO_517002.out).2.1)
                               rintro e w73 ⟨rfl, hb⟩
                               have HS3_ := (hb.cell (World.block_lt_of_cell? _ _ (hHeld.2.2.2.1))).trans (hHeld.2.2.2.1)
                               have HS4_ := (hb.cell (World.block_lt_of_cell? _ _ (hHeld.2.2.2.2.1))).trans (hHeld.2.2.2.2.1)
                               have HS5_ := (hb.cell (World.block_lt_of_cell? _ _ (hHeld.2.2.2.2.2.1))).trans (hHeld.2.2.2.2.2.1)
                               have HS6_ := (hb.cell (World.block_lt_of_cell? _ _ (hHeld.2.2.2.2.2.2))).trans (hHeld.2.2.2.2.2.2)
                               refine ⟨_, rfl, ?_⟩
                               have n0_ := Aside0.mk (Kd.R_below rHO_6_ hb)
                               have n1_ := Aside0.mk (Kd.R_below rHO_517000_ hb)
                               have n2_ := Aside0.mk (Kd.R_below rHO_517002_ hb)
                               have n3_ := Aside0.mk (blk_below (g := gb516) (o := .cells #[.slice Ao20 t507.length co20, .int .i64 t510, .slice Ao22 t511.length co22] 41 (0, 0)) bK516_ hb)
                               have n4_ := Aside0.mk (below_step hS_ hb)
                               clear HO_6
                               clear HO_517000
                               clear HO_517002
                               clear BK516
                               clear HB
                               have HO_6 := n0_
                               have HO_517000 := n1_
                               have HO_517002 := n2_
                               have BK516 := n3_
                               have HB := n4_
                               clear n0_ n1_ n2_ n3_ n4_
                               (try clear hb)
                               (try clear hb2)
                               (try clear hk)
                               (try clear hi)
                               refine hK.out _ _ ⟨(blk_cell BK516.out 0).trans rfl, (blk_cell BK516.out 1).trans rfl, (blk_cell BK516.out 2).trans rfl, HS3_, HS4_, HS5_, HS6_⟩ (fun hHeld => ?_)
                               clear hK K
                               refine norm_ (a' := ?_) ?_ ?_
                               rotate_left
                               ·show Act.put _ (some 119) _ = _
                                simp only [Act.put, List.setIfInBounds_toArray, List.set_cons_zero, List.set_cons_succ, i64_w, i32_w]
                                rfl
                               refine pure_ (i := 21) (N := some 120) (v := ?_) (a' := ?_) #[true, true, true, true, true, true, true, true, true, true, true, true, true, true, true, true, true, true, true, true, true, true, false] rfl rfl (any_of HT_.out (by kernel_rfl)) (fun _ _ _ h => h) (Or.inl ⟨by rfl, ?_⟩) ?_ ?_
                               rotate_left
                               ·intro w'
                                go_simp
                                with_reducible rfl
                               rotate_left
                               ·simp only [Act.put, List.setIfInBounds_toArray, List.set_cons_zero, List.set_cons_succ, i64_w, i32_w]
                                rfl
                               refine pure_ (i := 22) (N := some 121) (v := ?_) (a' := ?_) #[true, true, true, true, true, true, true, true, true, true, true, true, true, true, true, true, true, true, true, true, true, true, true] rfl rfl (any_of HT_.out (by kernel_rfl)) (fun _ _ _ h => h) (Or.inl ⟨by rfl, ?_⟩) ?_ ?_
                               rotate_left
                               ·intro w'
                                go_simp
                                with_reducible rfl
                               rotate_left
                               ·simp only [Act.put, List.setIfInBounds_toArray, List.set_cons_zero, List.set_cons_succ, i64_w, i32_w]
                                rfl
                               refine done_ (done_of HT_.out (by kernel_rfl)) ?_
                               try go_wp2
                               go_roundg kj57
                               case measure => have := HK1.out; have := HJ29.out; have := HK3.out; have := HJ46.out; have := HK5.out; have := HJ57.out; omega
                               case rel => exact ⟨(wrap64 (x10_5 + 1)), rF_, H', ⟨by have := HK1.out; have := HJ29.out; have := HK3.out; have := HJ46.out; have := HK5.out; have := HJ57.out; omega⟩, ⟨rHO_6_⟩, ⟨rHO_517000_⟩, ⟨rHO_517002_⟩, ⟨bK516_⟩, ⟨hS_⟩⟩
                              ·replace c70 := Bool.eq_false_iff.mpr c70
                               subst c70
                               have H1 := (if_neg (show ¬ (false = true) by decide)).symm.trans H
                               clear H
                               have H := H1
                               clear H1
                               obtain rfl := Option.some.inj H
                               try go_wp2
                               have n0_ := Aside0.mk (Kd.R_drew HO_6.out)
                               have n1_ := Aside0.mk (Kd.R_drew HO_517000.out)
                               have n2_ := Aside0.mk (Kd.R_drew HO_517002.out)
                               have n3_ := Aside0.mk (blk_drew BK516.out)
                               have n4_ := Aside0.mk (below_drew1 HB.out)
                               clear HO_6
                               clear HO_517000
                               clear HO_517002
                               clear BK516
                               clear HB
                               have HO_6 := n0_
                               have HO_517000 := n1_
                               have HO_517002 := n2_
                               have BK516 := n3_
                               have HB := n4_
                               clear n0_ n1_ n2_ n3_ n4_
                               have p533 : 0 ≤ (x8_3 : Int) := oD_
                               have q533 : x8_3 < (t519.length : Int) := oD_
                               obtain ⟨ad533, e533, hx533_0⟩ := Kd.at_int (Kd.R_reads' HO_6.out).2.2 x8_3 p533 q533
                               obtain rfl : ad527 = ad533 := (by injection e533)
                               replace p533 := eq_true p533
                               replace q533 := eq_true q533
                               have p534 : 0 ≤ (x10_5 : Int) := oD_
                               have q534 : x10_5 < (t519.length : Int) := oD_
                               obtain ⟨ad534, e534, hx534_0⟩ := Kd.at_int (Kd.R_reads' HO_6.out).2.2 x10_5 p534 q534
                               obtain rfl : ad527 = ad534 := (by injection e534)
                               replace p534 := eq_true p534
                               replace q534 := eq_true q534
                               have p536 : 0 ≤ (x7_1 : Int) := oD_
                               have q536 : x7_1 < (t519.length : Int) := oD_
                               obtain ⟨ad536, e536, hx536_0⟩ := Kd.at_int (Kd.R_reads' HO_6.out).2.2 x7_1 p536 q536
                               obtain rfl : ad527 = ad536 := (by injection e536)
                               replace p536 := eq_true p536
                               replace q536 := eq_true q536
                               have p537 : 0 ≤ (x10_5 : Int) := oD_
                               have q537 : x10_5 < (t519.length : Int) := oD_
                               obtain ⟨ad537, e537, hx537_0⟩ := Kd.at_int (Kd.R_reads' HO_6.out).2.2 x10_5 p537 q537
                               obtain rfl : ad527 = ad537 := (by injection e537)
                               replace p537 := eq_true p537
                               replace q537 := eq_true q537
                               refine start_ (n := 23) (S := fun w' => w'.cell? ⟨gb516, 0, none⟩ = some (.slice Ao20 t507.length co20) ∧ w'.cell? ⟨gb516, 1, none⟩ = some (.int .i64 t510) ∧ w'.cell? ⟨gb516, 2, none⟩ = some (.slice Ao22 t511.length co22) ∧ w'.cell? (ad527.add (x8_3).toNat) = some (.int .i64 (rd t519 x8_3)) ∧ w'.cell? (ad527.add (x10_5).toNat) = some (.int .i64 (rd t519 x10_5)) ∧ w'.cell? (ad527.add (x7_1).toNat) = some (.int .i64 (rd t519 x7_1)) ∧ w'.cell? (ad527.add (x10_5).toNat) = some (.int .i64 (rd t519 x10_5))) (ds := []) #[false, false, false, false, false, false, false, false, false, false, false, false, false, false, false, false, false, false, false, false, false, false, false] (by kernel_rfl) rfl rfl ⟨(blk_cell BK516.out 0).trans rfl, (blk_cell BK516.out 1).trans rfl, (blk_cell BK516.out 2).trans rfl, hx533_0, hx534_0, hx536_0, hx537_0⟩ (fun hHeld => ?_); refine with_tabW laws_FnDominates.tab21 laws_FnDominates.bits21 (fun HT_ HW_ => ?_)
                               generalize wc.drew = w74 at HO_6 HO_517000 HO_517002 BK516 HB hx533_0 hx534_0 hx536_0 hx537_0 hHeld ⊢
                               refine pure_ (i := 1) (N := some 100) (v := ?_) (a' := ?_) #[false, true, false, false, false, false, false, false, false, false, false, false, false, false, false, false, false, false, false, false, false, false, false] rfl rfl (any_of HT_.out (by kernel_rfl)) (fun _ _ _ h => h) (Or.inl ⟨by rfl, ?_⟩) ?_ ?_
                               rotate_left
                               ·intro w'
                                go_simp
                                with_reducible rfl
                               rotate_left
                               ·simp only [Act.put, List.setIfInBounds_toArray, List.set_cons_zero, List.set_cons_succ, i64_w, i32_w]
                                rfl
                               refine pure_ (i := 2) (N := some 101) (v := ?_) (a' := ?_) #[false, true, true, false, false, false, false, false, false, false, false, false, false, false, false, false, false, false, false, false, false, false, false] rfl rfl (any_of HT_.out (by kernel_rfl)) (fun _ _ _ h => h) (Or.inl ⟨by rfl, ?_⟩) ?_ ?_
                               rotate_left
                               ·intro w'
                                go_simp
                                with_reducible rfl
                               rotate_left
                               ·simp only [Act.put, List.setIfInBounds_toArray, List.set_cons_zero, List.set_cons_succ, i64_w, i32_w]
                                rfl
                               refine pure_ (i := 3) (N := some 102) (v := ?_) (a' := ?_) #[false, true, true, true, false, false, false, false, false, false, false, false, false, false, false, false, false, false, false, false, false, false, false] rfl rfl (any_of HT_.out (by kernel_rfl)) (fun _ _ _ h => h) (Or.inl ⟨by rfl, ?_⟩) ?_ ?_
                               rotate_left
                               ·intro w'
                                go_simp
                                with_reducible rfl
                               rotate_left
                               ·simp only [Act.put, List.setIfInBounds_toArray, List.set_cons_zero, List.set_cons_succ, i64_w, i32_w]
                                rfl
                               refine pure_ (i := 5) (N := some 104) (v := ?_) (a' := ?_) #[false, true, true, true, false, true, false, false, false, false, false, false, false, false, false, false, false, false, false, false, false, false, false] rfl rfl (any_of HT_.out (by kernel_rfl)) (fun _ _ _ h => h) (Or.inl ⟨by rfl, ?_⟩) ?_ ?_
                               rotate_left
                               ·intro w'
                                go_simp
                                with_reducible rfl
                               rotate_left
                               ·simp only [Act.put, List.setIfInBounds_toArray, List.set_cons_zero, List.set_cons_succ, i64_w, i32_w]
                                rfl
                               refine pure_ (i := 6) (N := some 105) (v := ?_) (a' := ?_) #[false, true, true, true, false, true, true, false, false, false, false, false, false, false, false, false, false, false, false, false, false, false, false] rfl rfl (any_of HT_.out (by kernel_rfl)) (fun _ _ _ h => h) (Or.inl ⟨by rfl, ?_⟩) ?_ ?_
                               rotate_left
                               ·intro w'
                                go_simp
                                with_reducible rfl
                               rotate_left
                               ·simp only [Act.put, List.setIfInBounds_toArray, List.set_cons_zero, List.set_cons_succ, i64_w, i32_w]
                                rfl
                               refine pure_ (i := 7) (N := some 106) (v := ?_) (a' := ?_) #[false, true, true, true, false, true, true, true, false, false, false, false, false, false, false, false, false, false, false, false, false, false, false] rfl rfl (any_of HT_.out (by kernel_rfl)) (fun _ _ _ h => h) (Or.inl ⟨by rfl, ?_⟩) ?_ ?_
                               rotate_left
                               ·intro w'
                                go_simp
                                with_reducible rfl
                               rotate_left
                               ·simp only [Act.put, List.setIfInBounds_toArray, List.set_cons_zero, List.set_cons_succ, i64_w, i32_w]
                                rfl
                               refine take_ (i := 0) (N := some 99) (v := ?_) (a' := ?_) #[true, true, true, true, false, true, true, true, false, false, false, false, false, false, false, false, false, false, false, false, false, false, false] rfl rfl (take_ofW HT_.out HW_.out (by kernel_rfl)) (fun _ _ _ h => h) (Or.inl ⟨by rfl, ?_⟩) hHeld ?_ ?_
                               rotate_left
                               ·rintro w' ⟨s0, s1, s2, s3, s4, s5, s6⟩
                                go_simp
                                with_reducible rfl
                               rotate_left
                               ·simp only [Act.put, List.setIfInBounds_toArray, List.set_cons_zero, List.set_cons_succ, i64_w, i32_w]
                                rfl
                               refine take_ (i := 4) (N := some 103) (v := ?_) (a' := ?_) #[true, true, true, true, true, true, true, true, false, false, false, false, false, false, false, false, false, false, false, false, false, false, false] rfl rfl (take_ofW HT_.out HW_.out (by kernel_rfl)) (fun _ _ _ h => h) (Or.inl ⟨by rfl, ?_⟩) hHeld ?_ ?_
                               rotate_left
                               ·rintro w' ⟨s0, s1, s2, s3, s4, s5, s6⟩
                                go_simp
                                with_reducible rfl
                               rotate_left
                               ·simp only [Act.put, List.setIfInBounds_toArray, List.set_cons_zero, List.set_cons_succ, i64_w, i32_w]
                                rfl
                               refine take_ (i := 8) (N := some 107) (v := ?_) (a' := ?_) #[true, true, true, true, true, true, true, true, true, false, false, false, false, false, false, false, false, false, false, false, false, false, false] rfl rfl (take_ofW HT_.out HW_.out (by kernel_rfl)) (fun _ _ _ h => h) (Or.inl ⟨by rfl, ?_⟩) hHeld ?_ ?_
                               rotate_left
                               ·rintro w' ⟨s0, s1, s2, s3, s4, s5, s6⟩
                                go_simp
                                with_reducible rfl
                               rotate_left
                               ·simp only [Act.put, List.setIfInBounds_toArray, List.set_cons_zero, List.set_cons_succ, i64_w, i32_w]
                                rfl
                               refine one_ (i := 9) (N := some 108) #[true, true, true, true, true, true, true, true, true, true, false, false, false, false, false, false, false, false, false, false, false, false, false] rfl rfl (one_of HT_.out (by kernel_rfl)) (by decide) (fun K hK => ?_)
                               refine goes_ Try.func27 (by kernel_rfl) rfl #[.agg #[.slice Ao20 t507.length co20, .int .i64 t510, .slice Ao22 t511.length co22], .int .i64 (rd t519 x8_3), .int .i64 (rd t519 x10_5)] (by rfl) rfl rfl (by (try simp only [List.map_toArray, List.map_cons, List.map_nil]); first | done | rfl | (simp only [List.length_drop, List.length_take]; rfl)) ?_
                               with_reducible refine (impl_Dominates.calls kj57 _ _ t507 t510 _ _ t511 (rd t519 x8_3) (rd t519 x10_5) true _ ?side1 ?side2 ?side3 ?side4 A65.out).mono ?_
                               (case side1 => repeat (first | exact (Kd.R_reads' HO_517000.out).2.2 | (with_reducible refine Kd.C_alloc ?_ _) | (with_reducible refine Kd.C_drewN ?_ _) | (with_reducible refine Kd.C_drew ?_)))
                               (case side2 => exact (Kd.R_reads' HO_517000.out).2.1)
                               (case side3 => repeat (first | exact (Kd.R_reads' HO_517002.out).2.2 | (with_reducible refine Kd.C_alloc ?_ _) | (with_reducible refine Kd.C_drewN ?_ _) | (with_reducible refine Kd.C_drew ?_)))
                               (case side4 => exact (Kd.R_reads' HO_517002.out).2.1)
                               rintro e w75 ⟨rfl, hb⟩
                               have HS3_ := (hb.cell (World.block_lt_of_cell? _ _ (hHeld.2.2.2.1))).trans (hHeld.2.2.2.1)
                               have HS4_ := (hb.cell (World.block_lt_of_cell? _ _ (hHeld.2.2.2.2.1))).trans (hHeld.2.2.2.2.1)
                               have HS5_ := (hb.cell (World.block_lt_of_cell? _ _ (hHeld.2.2.2.2.2.1))).trans (hHeld.2.2.2.2.2.1)
                               have HS6_ := (hb.cell (World.block_lt_of_cell? _ _ (hHeld.2.2.2.2.2.2))).trans (hHeld.2.2.2.2.2.2)
                               refine ⟨_, rfl, ?_⟩
                               have n0_ := Aside0.mk (Kd.R_below rHO_6_ hb)
                               have n1_ := Aside0.mk (Kd.R_below rHO_517000_ hb)
                               have n2_ := Aside0.mk (Kd.R_below rHO_517002_ hb)
                               have n3_ := Aside0.mk (blk_below (g := gb516) (o := .cells #[.slice Ao20 t507.length co20, .int .i64 t510, .slice Ao22 t511.length co22] 41 (0, 0)) bK516_ hb)
                               have n4_ := Aside0.mk (below_step hS_ hb)
                               clear HO_6
                               clear HO_517000
                               clear HO_517002
                               clear BK516
                               clear HB
                               have HO_6 := n0_
                               have HO_517000 := n1_
                               have HO_517002 := n2_
                               have BK516 := n3_
                               have HB := n4_
                               clear n0_ n1_ n2_ n3_ n4_
                               (try clear hb)
                               (try clear hb2)
                               (try clear hk)
                               (try clear hi)
                               refine hK.out _ _ ⟨(blk_cell BK516.out 0).trans rfl, (blk_cell BK516.out 1).trans rfl, (blk_cell BK516.out 2).trans rfl, HS3_, HS4_, HS5_, HS6_⟩ (fun hHeld => ?_)
                               clear hK K
                               refine norm_ (a' := ?_) ?_ ?_
                               rotate_left
                               ·show Act.put _ (some 108) _ = _
                                simp only [Act.put, List.setIfInBounds_toArray, List.set_cons_zero, List.set_cons_succ, i64_w, i32_w]
                                rfl
                               refine pure_ (i := 10) (N := some 109) (v := ?_) (a' := ?_) #[true, true, true, true, true, true, true, true, true, true, true, false, false, false, false, false, false, false, false, false, false, false, false] rfl rfl (any_of HT_.out (by kernel_rfl)) (fun _ _ _ h => h) (Or.inl ⟨by rfl, ?_⟩) ?_ ?_
                               rotate_left
                               ·intro w'
                                go_simp
                                with_reducible rfl
                               rotate_left
                               ·simp only [Act.put, List.setIfInBounds_toArray, List.set_cons_zero, List.set_cons_succ, i64_w, i32_w]
                                rfl
                               refine pure_ (i := 12) (N := some 111) (v := ?_) (a' := ?_) #[true, true, true, true, true, true, true, true, true, true, true, false, true, false, false, false, false, false, false, false, false, false, false] rfl rfl (any_of HT_.out (by kernel_rfl)) (fun _ _ _ h => h) (Or.inl ⟨by rfl, ?_⟩) ?_ ?_
                               rotate_left
                               ·intro w'
                                go_simp
                                with_reducible rfl
                               rotate_left
                               ·simp only [Act.put, List.setIfInBounds_toArray, List.set_cons_zero, List.set_cons_succ, i64_w, i32_w]
                                rfl
                               refine pure_ (i := 13) (N := some 112) (v := ?_) (a' := ?_) #[true, true, true, true, true, true, true, true, true, true, true, false, true, true, false, false, false, false, false, false, false, false, false] rfl rfl (any_of HT_.out (by kernel_rfl)) (fun _ _ _ h => h) (Or.inl ⟨by rfl, ?_⟩) ?_ ?_
                               rotate_left
                               ·intro w'
                                go_simp
                                with_reducible rfl
                               rotate_left
                               ·simp only [Act.put, List.setIfInBounds_toArray, List.set_cons_zero, List.set_cons_succ, i64_w, i32_w]
                                rfl
                               refine pure_ (i := 14) (N := some 113) (v := ?_) (a' := ?_) #[true, true, true, true, true, true, true, true, true, true, true, false, true, true, true, false, false, false, false, false, false, false, false] rfl rfl (any_of HT_.out (by kernel_rfl)) (fun _ _ _ h => h) (Or.inl ⟨by rfl, ?_⟩) ?_ ?_
                               rotate_left
                               ·intro w'
                                go_simp
                                with_reducible rfl
                               rotate_left
                               ·simp only [Act.put, List.setIfInBounds_toArray, List.set_cons_zero, List.set_cons_succ, i64_w, i32_w]
                                rfl
                               refine pure_ (i := 16) (N := some 115) (v := ?_) (a' := ?_) #[true, true, true, true, true, true, true, true, true, true, true, false, true, true, true, false, true, false, false, false, false, false, false] rfl rfl (any_of HT_.out (by kernel_rfl)) (fun _ _ _ h => h) (Or.inl ⟨by rfl, ?_⟩) ?_ ?_
                               rotate_left
                               ·intro w'
                                go_simp
                                with_reducible rfl
                               rotate_left
                               ·simp only [Act.put, List.setIfInBounds_toArray, List.set_cons_zero, List.set_cons_succ, i64_w, i32_w]
                                rfl
                               refine pure_ (i := 17) (N := some 116) (v := ?_) (a' := ?_) #[true, true, true, true, true, true, true, true, true, true, true, false, true, true, true, false, true, true, false, false, false, false, false] rfl rfl (any_of HT_.out (by kernel_rfl)) (fun _ _ _ h => h) (Or.inl ⟨by rfl, ?_⟩) ?_ ?_
                               rotate_left
                               ·intro w'
                                go_simp
                                with_reducible rfl
                               rotate_left
                               ·simp only [Act.put, List.setIfInBounds_toArray, List.set_cons_zero, List.set_cons_succ, i64_w, i32_w]
                                rfl
                               refine pure_ (i := 18) (N := some 117) (v := ?_) (a' := ?_) #[true, true, true, true, true, true, true, true, true, true, true, false, true, true, true, false, true, true, true, false, false, false, false] rfl rfl (any_of HT_.out (by kernel_rfl)) (fun _ _ _ h => h) (Or.inl ⟨by rfl, ?_⟩) ?_ ?_
                               rotate_left
                               ·intro w'
                                go_simp
                                with_reducible rfl
                               rotate_left
                               ·simp only [Act.put, List.setIfInBounds_toArray, List.set_cons_zero, List.set_cons_succ, i64_w, i32_w]
                                rfl
                               refine take_ (i := 11) (N := some 110) (v := ?_) (a' := ?_) #[true, true, true, true, true, true, true, true, true, true, true, true, true, true, true, false, true, true, true, false, false, false, false] rfl rfl (take_ofW HT_.out HW_.out (by kernel_rfl)) (fun _ _ _ h => h) (Or.inl ⟨by rfl, ?_⟩) hHeld ?_ ?_
                               rotate_left
                               ·rintro w' ⟨s0, s1, s2, s3, s4, s5, s6⟩
                                go_simp
                                with_reducible rfl
                               rotate_left
                               ·simp only [Act.put, List.setIfInBounds_toArray, List.set_cons_zero, List.set_cons_succ, i64_w, i32_w]
                                rfl
                               refine take_ (i := 15) (N := some 114) (v := ?_) (a' := ?_) #[true, true, true, true, true, true, true, true, true, true, true, true, true, true, true, true, true, true, true, false, false, false, false] rfl rfl (take_ofW HT_.out HW_.out (by kernel_rfl)) (fun _ _ _ h => h) (Or.inl ⟨by rfl, ?_⟩) hHeld ?_ ?_
                               rotate_left
                               ·rintro w' ⟨s0, s1, s2, s3, s4, s5, s6⟩
                                go_simp
                                with_reducible rfl
                               rotate_left
                               ·simp only [Act.put, List.setIfInBounds_toArray, List.set_cons_zero, List.set_cons_succ, i64_w, i32_w]
                                rfl
                               refine take_ (i := 19) (N := some 118) (v := ?_) (a' := ?_) #[true, true, true, true, true, true, true, true, true, true, true, true, true, true, true, true, true, true, true, true, false, false, false] rfl rfl (take_ofW HT_.out HW_.out (by kernel_rfl)) (fun _ _ _ h => h) (Or.inl ⟨by rfl, ?_⟩) hHeld ?_ ?_
                               rotate_left
                               ·rintro w' ⟨s0, s1, s2, s3, s4, s5, s6⟩
                                go_simp
                                with_reducible rfl
                               rotate_left
                               ·simp only [Act.put, List.setIfInBounds_toArray, List.set_cons_zero, List.set_cons_succ, i64_w, i32_w]
                                rfl
                               refine one_ (i := 20) (N := some 119) #[true, true, true, true, true, true, true, true, true, true, true, true, true, true, true, true, true, true, true, true, true, false, false] rfl rfl (one_of HT_.out (by kernel_rfl)) (by decide) (fun K hK => ?_)
                               refine goes_ Try.func27 (by kernel_rfl) rfl #[.agg #[.slice Ao20 t507.length co20, .int .i64 t510, .slice Ao22 t511.length co22], .int .i64 (rd t519 x7_1), .int .i64 (rd t519 x10_5)] (by rfl) rfl rfl (by (try simp only [List.map_toArray, List.map_cons, List.map_nil]); first | done | rfl | (simp only [List.length_drop, List.length_take]; rfl)) ?_
                               with_reducible refine (impl_Dominates.calls kj57 _ _ t507 t510 _ _ t511 (rd t519 x7_1) (rd t519 x10_5) false _ ?side1 ?side2 ?side3 ?side4 A69.out).mono ?_
                               (case side1 => repeat (first | exact (Kd.R_reads' HO_517000.out).2.2 | (with_reducible refine Kd.C_alloc ?_ _) | (with_reducible refine Kd.C_drewN ?_ _) | (with_reducible refine Kd.C_drew ?_)))
                               (case side2 => exact (Kd.R_reads' HO_517000.out).2.1)
                               (case side3 => repeat (first | exact (Kd.R_reads' HO_517002.out).2.2 | (with_reducible refine Kd.C_alloc ?_ _) | (with_reducible refine Kd.C_drewN ?_ _) | (with_reducible refine Kd.C_drew ?_)))
                               (case side4 => exact (Kd.R_reads' HO_517002.out).2.1)
                               rintro e w76 ⟨rfl, hb⟩
                               have HS3_ := (hb.cell (World.block_lt_of_cell? _ _ (hHeld.2.2.2.1))).trans (hHeld.2.2.2.1)
                               have HS4_ := (hb.cell (World.block_lt_of_cell? _ _ (hHeld.2.2.2.2.1))).trans (hHeld.2.2.2.2.1)
                               have HS5_ := (hb.cell (World.block_lt_of_cell? _ _ (hHeld.2.2.2.2.2.1))).trans (hHeld.2.2.2.2.2.1)
                               have HS6_ := (hb.cell (World.block_lt_of_cell? _ _ (hHeld.2.2.2.2.2.2))).trans (hHeld.2.2.2.2.2.2)
                               refine ⟨_, rfl, ?_⟩
                               have n0_ := Aside0.mk (Kd.R_below rHO_6_ hb)
                               have n1_ := Aside0.mk (Kd.R_below rHO_517000_ hb)
                               have n2_ := Aside0.mk (Kd.R_below rHO_517002_ hb)
                               have n3_ := Aside0.mk (blk_below (g := gb516) (o := .cells #[.slice Ao20 t507.length co20, .int .i64 t510, .slice Ao22 t511.length co22] 41 (0, 0)) bK516_ hb)
                               have n4_ := Aside0.mk (below_step hS_ hb)
                               clear HO_6
                               clear HO_517000
                               clear HO_517002
                               clear BK516
                               clear HB
                               have HO_6 := n0_
                               have HO_517000 := n1_
                               have HO_517002 := n2_
                               have BK516 := n3_
                               have HB := n4_
                               clear n0_ n1_ n2_ n3_ n4_
                               (try clear hb)
                               (try clear hb2)
                               (try clear hk)
                               (try clear hi)
                               refine hK.out _ _ ⟨(blk_cell BK516.out 0).trans rfl, (blk_cell BK516.out 1).trans rfl, (blk_cell BK516.out 2).trans rfl, HS3_, HS4_, HS5_, HS6_⟩ (fun hHeld => ?_)
                               clear hK K
                               refine norm_ (a' := ?_) ?_ ?_
                               rotate_left
                               ·show Act.put _ (some 119) _ = _
                                simp only [Act.put, List.setIfInBounds_toArray, List.set_cons_zero, List.set_cons_succ, i64_w, i32_w]
                                rfl
                               refine pure_ (i := 21) (N := some 120) (v := ?_) (a' := ?_) #[true, true, true, true, true, true, true, true, true, true, true, true, true, true, true, true, true, true, true, true, true, true, false] rfl rfl (any_of HT_.out (by kernel_rfl)) (fun _ _ _ h => h) (Or.inl ⟨by rfl, ?_⟩) ?_ ?_
                               rotate_left
                               ·intro w'
                                go_simp
                                with_reducible rfl
                               rotate_left
                               ·simp only [Act.put, List.setIfInBounds_toArray, List.set_cons_zero, List.set_cons_succ, i64_w, i32_w]
                                rfl
                               refine pure_ (i := 22) (N := some 121) (v := ?_) (a' := ?_) #[true, true, true, true, true, true, true, true, true, true, true, true, true, true, true, true, true, true, true, true, true, true, true] rfl rfl (any_of HT_.out (by kernel_rfl)) (fun _ _ _ h => h) (Or.inl ⟨by rfl, ?_⟩) ?_ ?_
                               rotate_left
                               ·intro w'
                                go_simp
                                with_reducible rfl
                               rotate_left
                               ·simp only [Act.put, List.setIfInBounds_toArray, List.set_cons_zero, List.set_cons_succ, i64_w, i32_w]
                                rfl
                               refine done_ (done_of HT_.out (by kernel_rfl)) ?_
                               try go_wp2
                               go_ret
                               exact ⟨rG_, hS_⟩
                             ·rw [if_neg c68] at H
                              exact absurd H (by simp)
                            ·rw [if_neg c67] at H
                             exact absurd H (by simp)
                           ·replace c66 := Bool.eq_false_iff.mpr c66
                            subst c66
                            have H1 := (if_neg (show ¬ (false = true) by decide)).symm.trans H
                            clear H
                            have H := H1
                            clear H1
                            have H' := Aside0.mk H
                            clear H
                            try go_wp2
                            have n0_ := Aside0.mk (Kd.R_drew HO_6.out)
                            have n1_ := Aside0.mk (Kd.R_drew HO_517000.out)
                            have n2_ := Aside0.mk (Kd.R_drew HO_517002.out)
                            have n3_ := Aside0.mk (blk_drew BK516.out)
                            have n4_ := Aside0.mk (below_drew1 HB.out)
                            clear HO_6
                            clear HO_517000
                            clear HO_517002
                            clear BK516
                            clear HB
                            have HO_6 := n0_
                            have HO_517000 := n1_
                            have HO_517002 := n2_
                            have BK516 := n3_
                            have HB := n4_
                            clear n0_ n1_ n2_ n3_ n4_
                            have p533 : 0 ≤ (x8_3 : Int) := oD_
                            have q533 : x8_3 < (t519.length : Int) := oD_
                            obtain ⟨ad533, e533, hx533_0⟩ := Kd.at_int (Kd.R_reads' HO_6.out).2.2 x8_3 p533 q533
                            obtain rfl : ad527 = ad533 := (by injection e533)
                            replace p533 := eq_true p533
                            replace q533 := eq_true q533
                            have p534 : 0 ≤ (x10_5 : Int) := oD_
                            have q534 : x10_5 < (t519.length : Int) := oD_
                            obtain ⟨ad534, e534, hx534_0⟩ := Kd.at_int (Kd.R_reads' HO_6.out).2.2 x10_5 p534 q534
                            obtain rfl : ad527 = ad534 := (by injection e534)
                            replace p534 := eq_true p534
                            replace q534 := eq_true q534
                            refine start_ (n := 23) (S := fun w' => w'.cell? ⟨gb516, 0, none⟩ = some (.slice Ao20 t507.length co20) ∧ w'.cell? ⟨gb516, 1, none⟩ = some (.int .i64 t510) ∧ w'.cell? ⟨gb516, 2, none⟩ = some (.slice Ao22 t511.length co22) ∧ w'.cell? (ad527.add (x8_3).toNat) = some (.int .i64 (rd t519 x8_3)) ∧ w'.cell? (ad527.add (x10_5).toNat) = some (.int .i64 (rd t519 x10_5))) (ds := []) #[false, false, false, false, false, false, false, false, false, false, false, false, false, false, false, false, false, false, false, false, false, false, false] (by kernel_rfl) rfl rfl ⟨(blk_cell BK516.out 0).trans rfl, (blk_cell BK516.out 1).trans rfl, (blk_cell BK516.out 2).trans rfl, hx533_0, hx534_0⟩ (fun hHeld => ?_); refine with_tabW laws_FnDominates.tab21 laws_FnDominates.bits21 (fun HT_ HW_ => ?_)
                            generalize wc.drew = w77 at HO_6 HO_517000 HO_517002 BK516 HB hx533_0 hx534_0 hHeld ⊢
                            refine pure_ (i := 1) (N := some 100) (v := ?_) (a' := ?_) #[false, true, false, false, false, false, false, false, false, false, false, false, false, false, false, false, false, false, false, false, false, false, false] rfl rfl (any_of HT_.out (by kernel_rfl)) (fun _ _ _ h => h) (Or.inl ⟨by rfl, ?_⟩) ?_ ?_
                            rotate_left
                            ·intro w'
                             go_simp
                             with_reducible rfl
                            rotate_left
                            ·simp only [Act.put, List.setIfInBounds_toArray, List.set_cons_zero, List.set_cons_succ, i64_w, i32_w]
                             rfl
                            refine pure_ (i := 2) (N := some 101) (v := ?_) (a' := ?_) #[false, true, true, false, false, false, false, false, false, false, false, false, false, false, false, false, false, false, false, false, false, false, false] rfl rfl (any_of HT_.out (by kernel_rfl)) (fun _ _ _ h => h) (Or.inl ⟨by rfl, ?_⟩) ?_ ?_
                            rotate_left
                            ·intro w'
                             go_simp
                             with_reducible rfl
                            rotate_left
                            ·simp only [Act.put, List.setIfInBounds_toArray, List.set_cons_zero, List.set_cons_succ, i64_w, i32_w]
                             rfl
                            refine pure_ (i := 3) (N := some 102) (v := ?_) (a' := ?_) #[false, true, true, true, false, false, false, false, false, false, false, false, false, false, false, false, false, false, false, false, false, false, false] rfl rfl (any_of HT_.out (by kernel_rfl)) (fun _ _ _ h => h) (Or.inl ⟨by rfl, ?_⟩) ?_ ?_
                            rotate_left
                            ·intro w'
                             go_simp
                             with_reducible rfl
                            rotate_left
                            ·simp only [Act.put, List.setIfInBounds_toArray, List.set_cons_zero, List.set_cons_succ, i64_w, i32_w]
                             rfl
                            refine pure_ (i := 5) (N := some 104) (v := ?_) (a' := ?_) #[false, true, true, true, false, true, false, false, false, false, false, false, false, false, false, false, false, false, false, false, false, false, false] rfl rfl (any_of HT_.out (by kernel_rfl)) (fun _ _ _ h => h) (Or.inl ⟨by rfl, ?_⟩) ?_ ?_
                            rotate_left
                            ·intro w'
                             go_simp
                             with_reducible rfl
                            rotate_left
                            ·simp only [Act.put, List.setIfInBounds_toArray, List.set_cons_zero, List.set_cons_succ, i64_w, i32_w]
                             rfl
                            refine pure_ (i := 6) (N := some 105) (v := ?_) (a' := ?_) #[false, true, true, true, false, true, true, false, false, false, false, false, false, false, false, false, false, false, false, false, false, false, false] rfl rfl (any_of HT_.out (by kernel_rfl)) (fun _ _ _ h => h) (Or.inl ⟨by rfl, ?_⟩) ?_ ?_
                            rotate_left
                            ·intro w'
                             go_simp
                             with_reducible rfl
                            rotate_left
                            ·simp only [Act.put, List.setIfInBounds_toArray, List.set_cons_zero, List.set_cons_succ, i64_w, i32_w]
                             rfl
                            refine pure_ (i := 7) (N := some 106) (v := ?_) (a' := ?_) #[false, true, true, true, false, true, true, true, false, false, false, false, false, false, false, false, false, false, false, false, false, false, false] rfl rfl (any_of HT_.out (by kernel_rfl)) (fun _ _ _ h => h) (Or.inl ⟨by rfl, ?_⟩) ?_ ?_
                            rotate_left
                            ·intro w'
                             go_simp
                             with_reducible rfl
                            rotate_left
                            ·simp only [Act.put, List.setIfInBounds_toArray, List.set_cons_zero, List.set_cons_succ, i64_w, i32_w]
                             rfl
                            refine take_ (i := 0) (N := some 99) (v := ?_) (a' := ?_) #[true, true, true, true, false, true, true, true, false, false, false, false, false, false, false, false, false, false, false, false, false, false, false] rfl rfl (take_ofW HT_.out HW_.out (by kernel_rfl)) (fun _ _ _ h => h) (Or.inl ⟨by rfl, ?_⟩) hHeld ?_ ?_
                            rotate_left
                            ·rintro w' ⟨s0, s1, s2, s3, s4⟩
                             go_simp
                             with_reducible rfl
                            rotate_left
                            ·simp only [Act.put, List.setIfInBounds_toArray, List.set_cons_zero, List.set_cons_succ, i64_w, i32_w]
                             rfl
                            refine take_ (i := 4) (N := some 103) (v := ?_) (a' := ?_) #[true, true, true, true, true, true, true, true, false, false, false, false, false, false, false, false, false, false, false, false, false, false, false] rfl rfl (take_ofW HT_.out HW_.out (by kernel_rfl)) (fun _ _ _ h => h) (Or.inl ⟨by rfl, ?_⟩) hHeld ?_ ?_
                            rotate_left
                            ·rintro w' ⟨s0, s1, s2, s3, s4⟩
                             go_simp
                             with_reducible rfl
                            rotate_left
                            ·simp only [Act.put, List.setIfInBounds_toArray, List.set_cons_zero, List.set_cons_succ, i64_w, i32_w]
                             rfl
                            refine take_ (i := 8) (N := some 107) (v := ?_) (a' := ?_) #[true, true, true, true, true, true, true, true, true, false, false, false, false, false, false, false, false, false, false, false, false, false, false] rfl rfl (take_ofW HT_.out HW_.out (by kernel_rfl)) (fun _ _ _ h => h) (Or.inl ⟨by rfl, ?_⟩) hHeld ?_ ?_
                            rotate_left
                            ·rintro w' ⟨s0, s1, s2, s3, s4⟩
                             go_simp
                             with_reducible rfl
                            rotate_left
                            ·simp only [Act.put, List.setIfInBounds_toArray, List.set_cons_zero, List.set_cons_succ, i64_w, i32_w]
                             rfl
                            refine one_ (i := 9) (N := some 108) #[true, true, true, true, true, true, true, true, true, true, false, false, false, false, false, false, false, false, false, false, false, false, false] rfl rfl (one_of HT_.out (by kernel_rfl)) (by decide) (fun K hK => ?_)
                            refine goes_ Try.func27 (by kernel_rfl) rfl #[.agg #[.slice Ao20 t507.length co20, .int .i64 t510, .slice Ao22 t511.length co22], .int .i64 (rd t519 x8_3), .int .i64 (rd t519 x10_5)] (by rfl) rfl rfl (by (try simp only [List.map_toArray, List.map_cons, List.map_nil]); first | done | rfl | (simp only [List.length_drop, List.length_take]; rfl)) ?_
                            with_reducible refine (impl_Dominates.calls kj57 _ _ t507 t510 _ _ t511 (rd t519 x8_3) (rd t519 x10_5) false _ ?side1 ?side2 ?side3 ?side4 A65.out).mono ?_
                            (case side1 => repeat (first | exact (Kd.R_reads' HO_517000.out).2.2 | (with_reducible refine Kd.C_alloc ?_ _) | (with_reducible refine Kd.C_drewN ?_ _) | (with_reducible refine Kd.C_drew ?_)))
                            (case side2 => exact (Kd.R_reads' HO_517000.out).2.1)
                            (case side3 => repeat (first | exact (Kd.R_reads' HO_517002.out).2.2 | (with_reducible refine Kd.C_alloc ?_ _) | (with_reducible refine Kd.C_drewN ?_ _) | (with_reducible refine Kd.C_drew ?_)))
                            (case side4 => exact (Kd.R_reads' HO_517002.out).2.1)
                            rintro e w78 ⟨rfl, hb⟩
                            have HS3_ := (hb.cell (World.block_lt_of_cell? _ _ (hHeld.2.2.2.1))).trans (hHeld.2.2.2.1)
                            have HS4_ := (hb.cell (World.block_lt_of_cell? _ _ (hHeld.2.2.2.2))).trans (hHeld.2.2.2.2)
                            refine ⟨_, rfl, ?_⟩
                            have n0_ := Aside0.mk (Kd.R_below rHO_6_ hb)
                            have n1_ := Aside0.mk (Kd.R_below rHO_517000_ hb)
                            have n2_ := Aside0.mk (Kd.R_below rHO_517002_ hb)
                            have n3_ := Aside0.mk (blk_below (g := gb516) (o := .cells #[.slice Ao20 t507.length co20, .int .i64 t510, .slice Ao22 t511.length co22] 41 (0, 0)) bK516_ hb)
                            have n4_ := Aside0.mk (below_step hS_ hb)
                            clear HO_6
                            clear HO_517000
                            clear HO_517002
                            clear BK516
                            clear HB
                            have HO_6 := n0_
                            have HO_517000 := n1_
                            have HO_517002 := n2_
                            have BK516 := n3_
                            have HB := n4_
                            clear n0_ n1_ n2_ n3_ n4_
                            (try clear hb)
                            (try clear hb2)
                            (try clear hk)
                            (try clear hi)
                            refine hK.out _ _ ⟨(blk_cell BK516.out 0).trans rfl, (blk_cell BK516.out 1).trans rfl, (blk_cell BK516.out 2).trans rfl, HS3_, HS4_⟩ (fun hHeld => ?_)
                            clear hK K
                            refine norm_ (a' := ?_) ?_ ?_
                            rotate_left
                            ·show Act.put _ (some 108) _ = _
                             simp only [Act.put, List.setIfInBounds_toArray, List.set_cons_zero, List.set_cons_succ, i64_w, i32_w]
                             rfl
                            refine pure_ (i := 10) (N := some 109) (v := ?_) (a' := ?_) #[true, true, true, true, true, true, true, true, true, true, true, false, false, false, false, false, false, false, false, false, false, false, false] rfl rfl (any_of HT_.out (by kernel_rfl)) (fun _ _ _ h => h) (Or.inl ⟨by rfl, ?_⟩) ?_ ?_
                            rotate_left
                            ·intro w'
                             go_simp
                             with_reducible rfl
                            rotate_left
                            ·simp only [Act.put, List.setIfInBounds_toArray, List.set_cons_zero, List.set_cons_succ, i64_w, i32_w]
                             rfl
                            refine pure_ (i := 11) (N := some 110) (v := undef) (a' := ?_) #[true, true, true, true, true, true, true, true, true, true, true, true, false, false, false, false, false, false, false, false, false, false, false] rfl rfl (any_of HT_.out (by kernel_rfl)) (fun _ _ _ h => h) (Or.inr ⟨by rfl, rfl⟩) ?_ ?_
                            rotate_left
                            ·simp only [Act.put, List.setIfInBounds_toArray, List.set_cons_zero, List.set_cons_succ, i64_w, i32_w]
                             rfl
                            refine pure_ (i := 12) (N := some 111) (v := undef) (a' := ?_) #[true, true, true, true, true, true, true, true, true, true, true, true, true, false, false, false, false, false, false, false, false, false, false] rfl rfl (any_of HT_.out (by kernel_rfl)) (fun _ _ _ h => h) (Or.inr ⟨by rfl, rfl⟩) ?_ ?_
                            rotate_left
                            ·simp only [Act.put, List.setIfInBounds_toArray, List.set_cons_zero, List.set_cons_succ, i64_w, i32_w]
                             rfl
                            refine pure_ (i := 13) (N := some 112) (v := undef) (a' := ?_) #[true, true, true, true, true, true, true, true, true, true, true, true, true, true, false, false, false, false, false, false, false, false, false] rfl rfl (any_of HT_.out (by kernel_rfl)) (fun _ _ _ h => h) (Or.inr ⟨by rfl, rfl⟩) ?_ ?_
                            rotate_left
                            ·simp only [Act.put, List.setIfInBounds_toArray, List.set_cons_zero, List.set_cons_succ, i64_w, i32_w]
                             rfl
                            refine pure_ (i := 14) (N := some 113) (v := undef) (a' := ?_) #[true, true, true, true, true, true, true, true, true, true, true, true, true, true, true, false, false, false, false, false, false, false, false] rfl rfl (any_of HT_.out (by kernel_rfl)) (fun _ _ _ h => h) (Or.inr ⟨by rfl, rfl⟩) ?_ ?_
                            rotate_left
                            ·simp only [Act.put, List.setIfInBounds_toArray, List.set_cons_zero, List.set_cons_succ, i64_w, i32_w]
                             rfl
                            refine pure_ (i := 15) (N := some 114) (v := undef) (a' := ?_) #[true, true, true, true, true, true, true, true, true, true, true, true, true, true, true, true, false, false, false, false, false, false, false] rfl rfl (any_of HT_.out (by kernel_rfl)) (fun _ _ _ h => h) (Or.inr ⟨by rfl, rfl⟩) ?_ ?_
                            rotate_left
                            ·simp only [Act.put, List.setIfInBounds_toArray, List.set_cons_zero, List.set_cons_succ, i64_w, i32_w]
                             rfl
                            refine pure_ (i := 16) (N := some 115) (v := undef) (a' := ?_) #[true, true, true, true, true, true, true, true, true, true, true, true, true, true, true, true, true, false, false, false, false, false, false] rfl rfl (any_of HT_.out (by kernel_rfl)) (fun _ _ _ h => h) (Or.inr ⟨by rfl, rfl⟩) ?_ ?_
                            rotate_left
                            ·simp only [Act.put, List.setIfInBounds_toArray, List.set_cons_zero, List.set_cons_succ, i64_w, i32_w]
                             rfl
                            refine pure_ (i := 17) (N := some 116) (v := undef) (a' := ?_) #[true, true, true, true, true, true, true, true, true, true, true, true, true, true, true, true, true, true, false, false, false, false, false] rfl rfl (any_of HT_.out (by kernel_rfl)) (fun _ _ _ h => h) (Or.inr ⟨by rfl, rfl⟩) ?_ ?_
                            rotate_left
                            ·simp only [Act.put, List.setIfInBounds_toArray, List.set_cons_zero, List.set_cons_succ, i64_w, i32_w]
                             rfl
                            refine pure_ (i := 18) (N := some 117) (v := undef) (a' := ?_) #[true, true, true, true, true, true, true, true, true, true, true, true, true, true, true, true, true, true, true, false, false, false, false] rfl rfl (any_of HT_.out (by kernel_rfl)) (fun _ _ _ h => h) (Or.inr ⟨by rfl, rfl⟩) ?_ ?_
                            rotate_left
                            ·simp only [Act.put, List.setIfInBounds_toArray, List.set_cons_zero, List.set_cons_succ, i64_w, i32_w]
                             rfl
                            refine pure_ (i := 19) (N := some 118) (v := undef) (a' := ?_) #[true, true, true, true, true, true, true, true, true, true, true, true, true, true, true, true, true, true, true, true, false, false, false] rfl rfl (any_of HT_.out (by kernel_rfl)) (fun _ _ _ h => h) (Or.inr ⟨by rfl, rfl⟩) ?_ ?_
                            rotate_left
                            ·simp only [Act.put, List.setIfInBounds_toArray, List.set_cons_zero, List.set_cons_succ, i64_w, i32_w]
                             rfl
                            refine pure_ (i := 20) (N := some 119) (v := undef) (a' := ?_) #[true, true, true, true, true, true, true, true, true, true, true, true, true, true, true, true, true, true, true, true, true, false, false] rfl rfl (any_of HT_.out (by kernel_rfl)) (fun _ _ _ h => h) (Or.inr ⟨by rfl, rfl⟩) ?_ ?_
                            rotate_left
                            ·simp only [Act.put, List.setIfInBounds_toArray, List.set_cons_zero, List.set_cons_succ, i64_w, i32_w]
                             rfl
                            refine pure_ (i := 21) (N := some 120) (v := undef) (a' := ?_) #[true, true, true, true, true, true, true, true, true, true, true, true, true, true, true, true, true, true, true, true, true, true, false] rfl rfl (any_of HT_.out (by kernel_rfl)) (fun _ _ _ h => h) (Or.inr ⟨by rfl, rfl⟩) ?_ ?_
                            rotate_left
                            ·simp only [Act.put, List.setIfInBounds_toArray, List.set_cons_zero, List.set_cons_succ, i64_w, i32_w]
                             rfl
                            refine pure_ (i := 22) (N := some 121) (v := ?_) (a' := ?_) #[true, true, true, true, true, true, true, true, true, true, true, true, true, true, true, true, true, true, true, true, true, true, true] rfl rfl (any_of HT_.out (by kernel_rfl)) (fun _ _ _ h => h) (Or.inl ⟨by rfl, ?_⟩) ?_ ?_
                            rotate_left
                            ·intro w'
                             go_simp
                             with_reducible rfl
                            rotate_left
                            ·simp only [Act.put, List.setIfInBounds_toArray, List.set_cons_zero, List.set_cons_succ, i64_w, i32_w]
                             rfl
                            refine done_ (done_of HT_.out (by kernel_rfl)) ?_
                            try go_wp2
                            go_roundg kj57
                            case measure => have := HK1.out; have := HJ29.out; have := HK3.out; have := HJ46.out; have := HK5.out; have := HJ57.out; omega
                            case rel => exact ⟨(wrap64 (x10_5 + 1)), rF_, H', ⟨by have := HK1.out; have := HJ29.out; have := HK3.out; have := HJ46.out; have := HK5.out; have := HJ57.out; omega⟩, ⟨rHO_6_⟩, ⟨rHO_517000_⟩, ⟨rHO_517002_⟩, ⟨bK516_⟩, ⟨hS_⟩⟩
                          ·rw [if_neg c64] at H
                           exact absurd H (by simp)
                         ·rw [if_neg c63] at H
                          exact absurd H (by simp)
                        ·rw [if_neg c62] at H
                         exact absurd H (by simp)
                       ·rw [if_neg c61] at H
                        exact absurd H (by simp)
                      ·replace c60 := Bool.eq_false_iff.mpr c60
                       subst c60
                       have H1 := (if_neg (show ¬ (false = true) by decide)).symm.trans H
                       clear H
                       have H := H1
                       clear H1
                       have H' := Aside0.mk H
                       clear H
                       go_wp2
                       go_roundg kj57
                       case measure => have := HK1.out; have := HJ29.out; have := HK3.out; have := HJ46.out; have := HK5.out; have := HJ57.out; omega
                       case rel => exact ⟨(wrap64 (x8_3 + 1)), rF_, H', ⟨by have := HK1.out; have := HJ29.out; have := HK3.out; have := HJ46.out; have := HK5.out; have := HJ57.out; omega⟩, ⟨rHO_6_⟩, ⟨rHO_517000_⟩, ⟨rHO_517002_⟩, ⟨bK516_⟩, ⟨hS_⟩⟩
              ·rw [if_neg c45] at H
               exact absurd H (by simp)
             ·rw [if_neg c44] at H
              exact absurd H (by simp)
            ·rw [if_neg c43] at H
             exact absurd H (by simp)
           ·rw [if_neg c42] at H
            have c42b0 : decide (x8_3 < (t519.length : Int)) = false := decide_eq_false c42
            clear c42
            have H' := Aside0.mk H
            clear H
            go_wp2
            go_roundg k3
            case measure => have := HK1.out; have := HJ29.out; have := HK3.out; omega
            case rel => exact ⟨(wrap64 (x7_1 + 1)), rF_, H', ⟨by have := HK1.out; have := HJ29.out; have := HK3.out; omega⟩, ⟨rHO_6_⟩, ⟨rHO_517000_⟩, ⟨rHO_517002_⟩, ⟨bK516_⟩, ⟨hS_⟩⟩
     ·rw [if_neg c29] at H
      have c29b0 : decide (x7_1 < (t519.length : Int)) = false := decide_eq_false c29
      clear c29
      obtain rfl := Option.some.inj H
      obtain ⟨Ao79, co79, eo79⟩ := Kd.R_slice HO_6.out
      subst eo79
      go_wp2
      go_ret
      exact ⟨rG_, hS_⟩
/-- THE ONE PURE STATEMENT of laws_FnDominates: yours. -/
def laws_FnDominates.Pure : Prop := ∀ (l0 : List Int), l0.length ≤ maxLen → l0.length * 1 ≤ 140737488351232 → (∀ x ∈ l0, (Lit.int .u8 x).wf = true) → ∃ k, laws_FnDominates.f k l0 = some true
theorem laws_FnDominates.walk (P : laws_FnDominates.Pure) (a0 : Option Addr) (len0 cap0 : Nat) (z0 : List Int) (w : World) (w0 : (a0 = none ∧ len0 = 0 ∧ cap0 = 0 ∧ z0 = []) ∨ ∃ x, a0 = some x ∧ len0 ≤ cap0 ∧ cap0 ≤ maxLen ∧ z0.length = cap0 ∧ (∀ i, i < z0.length → w.cell? (x.add i) = some (.int .u8 (z0.getD i 0))) ∧ ∀ n ∈ z0, (Lit.int .u8 n).wf = true) (y0 : len0 * 1 ≤ 140737488351232) :
  Calls Try.prog 5 #[.slice a0 len0 cap0] w fun e w' => e = .returned (.bool true) ∧ Below w.heap.size w w' := by
 obtain ⟨l0, rfl, hr0, hm0, hw0, hc0⟩ := ReadsInt.ofRowC w0
 obtain ⟨k, h⟩ := P l0 hm0 y0 hw0
 refine (laws_FnDominates.calls k _ _ l0 true w (Kd.C_of_reads (d := (0 : Int)) (h1 := fun _ => rfl) hr0) hc0 h).mono ?_
 rintro e w' ⟨rfl, hd⟩
 exact ⟨rfl, hd⟩
end Go.Proofs.Ytjkbafcepblacaa.X
namespace Go.Proofs.Ytjkbafcepblacaa.X
set_option linter.unusedVariables false
set_option linter.unusedSimpArgs false
open Go.RowKit Go.Proofs.YtjkbafcepblacaaW.PrintWords Go.Proofs.YtjkbafcepblacaaW.PrintLast Go.Proofs.YtjkbafcepblacaaW.PrintMore
theorem Ev.succ {α : Type} {g : Nat → Option α} {r : α} (h : Ev (fun k => g (k + 1)) r) : Ev g r := Ev.step (f := fun k => g (k + 1)) (fun _ => rfl) h
theorem Ev.cst {α : Type} {o : Option α} {r : α} (h : o = some r) : Ev (fun _ => o) r := ⟨0, fun _ _ => h⟩
theorem Ev.ipos {α : Type} {c : Prop} [Decidable c] {f g : Nat → Option α} {r : α} (hc : c) (h : Ev f r) : Ev (fun k => if c then f k else g k) r := Ev.congr (fun _ => if_pos hc) h
theorem Ev.ineg {α : Type} {c : Prop} [Decidable c] {f g : Nat → Option α} {r : α} (hc : ¬ c) (h : Ev g r) : Ev (fun k => if c then f k else g k) r := Ev.congr (fun _ => if_neg hc) h
theorem Ev.rw {α : Type} {g : Nat → Option α} {r s : α} (h : Ev g r) (e : r = s) : Ev g s := e ▸ h
theorem w64 {x : Int} (h0 : -9223372036854775808 ≤ x) (h1 : x ≤ 9223372036854775807) : wrap64 x = x := by unfold wrap64; omega
theorem getD_at {α : Type} (l : List α) (z : α) (j : Nat) (h : j < l.length) : l.getD j z = l[j] := by simp [List.getD, List.getElem?_eq_getElem h]
end Go.Proofs.Ytjkbafcepblacaa.X
namespace Go.Proofs.Ytjkbafcepblacaa.X
set_option linter.unusedVariables false
set_option linter.unusedSimpArgs false
open Go.RowKit Go.Proofs.YtjkbafcepblacaaW.PrintWords Go.Proofs.YtjkbafcepblacaaW.PrintLast Go.Proofs.YtjkbafcepblacaaW.PrintMore
abbrev Block := S88
def len {α : Type} (l : List α) : Int := (l.length : Int)
def smI (l : List Int) : Prop := l.length ≤ 1048576
end Go.Proofs.Ytjkbafcepblacaa.X
namespace Go.Proofs.Ytjkbafcepblacaa.X
set_option linter.unusedVariables false
set_option linter.unusedSimpArgs false
open Go.RowKit Go.Proofs.YtjkbafcepblacaaW.PrintWords Go.Proofs.YtjkbafcepblacaaW.PrintLast Go.Proofs.YtjkbafcepblacaaW.PrintMore
theorem specIn_eq (a b c : Int) : spec_l1In.f a b c = some (decide (b ≤ a ∧ a ≤ c)) := by
  unfold spec_l1In.f
  by_cases h : a ≥ b
  · rw [if_pos h]; have h' : b ≤ a := h; simp [h']
  · rw [if_neg h]; have h' : ¬ b ≤ a := h; simp [h']
theorem specCopy_eq (l : List Int) (h : smI l) : spec_l1Copy.f l = some l := by
  unfold spec_l1Copy.f
  unfold smI at h
  simp only [Option.bind_some, List.length_nil, List.nil_append]
  rw [if_pos (by omega)]
theorem implIn_eq (a b c : Int) : impl_within.f a b c = some (decide (b ≤ a ∧ a ≤ c)) := by
  unfold impl_within.f
  by_cases h : a ≥ b
  · rw [if_pos h]; have h' : b ≤ a := h; simp [h']
  · rw [if_neg h]; have h' : ¬ b ≤ a := h; simp [h']
end Go.Proofs.Ytjkbafcepblacaa.X
namespace Go.Proofs.Ytjkbafcepblacaa.X
set_option linter.unusedVariables false
set_option linter.unusedSimpArgs false
open Go.RowKit Go.Proofs.YtjkbafcepblacaaW.PrintWords Go.Proofs.YtjkbafcepblacaaW.PrintLast Go.Proofs.YtjkbafcepblacaaW.PrintMore
/-- The places that are marked, from i on. -/
def idx : List Bool → Int → List Int
  | [], _ => []
  | x :: l, i => if x = true then i :: idx l (i + 1) else idx l (i + 1)
theorem idx_ge : ∀ (l : List Bool) (i n : Int), n ∈ idx l i → i ≤ n
  | [], i, n, h => by simp [idx] at h
  | x :: l, i, n, h => by
    simp only [idx] at h
    split at h
    · rcases List.mem_cons.1 h with rfl | h
      · omega
      · have := idx_ge l (i + 1) n h; omega
    · have := idx_ge l (i + 1) n h; omega
theorem mem_idx : ∀ (l : List Bool) (i : Int) (b : Nat), (i + b) ∈ idx l i ↔ l.getD b false = true
  | [], i, b => by simp [idx]
  | x :: l, i, 0 => by
    simp only [idx]
    have hn : ¬ (i ∈ idx l (i + 1)) := fun h => by have := idx_ge _ _ _ h; omega
    by_cases hx : x = true
    · simp [hx]
    · rw [if_neg hx]
      simp only [Int.natCast_zero, Int.add_zero, List.getD_cons_zero]
      exact ⟨fun h => absurd h hn, fun h => absurd h hx⟩
  | x :: l, i, b + 1 => by
    have ih := mem_idx l (i + 1) b
    rw [show i + 1 + (b : Int) = i + ((b + 1 : Nat) : Int) by push_cast; omega] at ih
    simp only [idx, List.getD_cons_succ]
    split
    · rw [List.mem_cons, ih]
      exact ⟨fun h => h.elim (fun h => by exfalso; push_cast at h; omega) id, .inr⟩
    · exact ih
theorem mem_idx0 (l : List Bool) (b : Int) (h : 0 ≤ b) : b ∈ idx l 0 ↔ l.getD b.toNat false = true := by
  have := mem_idx l 0 b.toNat
  rw [show (0 : Int) + (b.toNat : Int) = b by omega] at this
  exact this
theorem idx_length : ∀ (l : List Bool) (i : Int), (idx l i).length ≤ l.length
  | [], i => by simp [idx]
  | x :: l, i => by
    have := idx_length l (i + 1)
    simp only [idx]
    split <;> simp <;> omega
/-- A number put into a list of numbers that rise. -/
def putI (n : Int) : List Int → List Int
  | [] => [n]
  | x :: l => if x < n then x :: putI n l else n :: x :: l
theorem putI_ge (n : Int) : ∀ (l : List Int), (∀ x ∈ l, n ≤ x) → putI n l = n :: l
  | [], _ => rfl
  | x :: l, h => by simp only [putI]; rw [if_neg (by have := h x (by simp); omega)]
theorem idx_set : ∀ (l : List Bool) (i : Int) (b : Nat), b < l.length → l.getD b false = false → idx (l.set b true) i = putI (i + b) (idx l i)
  | [], i, b, h, _ => by simp at h
  | x :: l, i, 0, h, hx => by
    simp only [List.getD_cons_zero] at hx
    subst hx
    simp only [List.set_cons_zero, idx, if_true, Int.natCast_zero, Int.add_zero]
    rw [if_neg (by decide), putI_ge]
    intro y hy
    have := idx_ge _ _ _ hy; omega
  | x :: l, i, b + 1, h, hx => by
    have ih := idx_set l (i + 1) b (by simpa using h) (by simpa using hx)
    rw [show i + 1 + (b : Int) = i + ((b + 1 : Nat) : Int) by push_cast; omega] at ih
    simp only [List.set_cons_succ, idx, ih]
    split
    · simp only [putI]; rw [if_pos (by push_cast; omega)]
    · rfl
/-- Where a block leads. -/
def succsOf (b : Block) : List Int := if b.f2.f0 = 2 then [b.f2.f2] else if b.f2.f0 = 3 then [b.f2.f2, b.f2.f3] else []
theorem succsOf_len (b : Block) : (succsOf b).length ≤ 2 := by
  unfold succsOf
  split
  · simp
  · split <;> simp
/-- All ends lead to blocks, of which there are at most ten. -/
def There (l : List Block) : Prop := l.length ≤ 10 ∧ ∀ b ∈ l, ∀ s ∈ succsOf b, 0 ≤ s ∧ s < l.length
instance (l : List Block) : Decidable (There l) := by unfold There; infer_instance
def bfs (l : List Block) (w : Int) : Nat → List Int → List Bool → List Bool
  | 0, _, out => out
  | _ + 1, [], out => out
  | n + 1, b :: q, out => if b = w ∨ out.getD b.toNat false = true then bfs l w n q out else bfs l w n (q ++ succsOf (l.getD b.toNat z88)) (out.set b.toNat true)
theorem bfs_length (l : List Block) (w : Int) : ∀ (n : Nat) (q : List Int) (out : List Bool), (bfs l w n q out).length = out.length
  | 0, _, _ => rfl
  | _ + 1, [], _ => rfl
  | n + 1, b :: q, out => by
    simp only [bfs]
    split
    · exact bfs_length l w n q out
    · rw [bfs_length l w n _ _]; simp
/-- How many are not marked. -/
def off (out : List Bool) : Nat := out.count false
theorem off_set : ∀ (out : List Bool) (b : Nat), b < out.length → out.getD b false = false → off (out.set b true) + 1 = off out
  | [], b, h, _ => by simp at h
  | x :: l, 0, h, hx => by
    simp only [List.getD_cons_zero] at hx
    subst hx
    simp [off]
  | x :: l, b + 1, h, hx => by
    have ih := off_set l b (by simpa using h) (by simpa using hx)
    unfold off at ih ⊢
    simp only [List.set_cons_succ, List.count_cons]
    omega
/-- What may stand in the queue. -/
def okq (l : List Block) (q : List Int) : Prop := ∀ b ∈ q, 0 ≤ b ∧ b < (l.length : Int)
theorem okq_next {l : List Block} {b : Int} {q : List Int} (h : There l) (hq : okq l (b :: q)) : okq l (q ++ succsOf (l.getD b.toNat z88)) := by
  obtain ⟨h0, h1⟩ := hq b (by simp)
  have hlt : b.toNat < l.length := by omega
  intro c hc
  rcases List.mem_append.1 hc with hc | hc
  · exact hq c (by simp [hc])
  · rw [getD_at l _ _ hlt] at hc
    exact h.2 _ (List.getElem_mem hlt) c hc
/-- The blocks that are reached without w. -/
def reachB (l : List Block) (w : Int) : List Bool := bfs l w (3 * l.length + 1) [0] (List.replicate l.length false)
theorem reachB_length (l : List Block) (w : Int) : (reachB l w).length = l.length := by unfold reachB; rw [bfs_length]; simp
theorem off_replicate (n : Nat) : off (List.replicate n false) = n := by unfold off; simp
theorem idx_replicate : ∀ (n : Nat) (i : Int), idx (List.replicate n false) i = []
  | 0, _ => rfl
  | n + 1, i => by simp only [List.replicate_succ, idx]; rw [if_neg (by decide)]; exact idx_replicate n (i + 1)
def domB (l : List Block) (a b : Int) : Bool := (reachB l (-1)).getD b.toNat false && !((reachB l a).getD b.toNat false)
theorem has_l (l : List Int) (n : Int) (h : smI l) : ∀ (d i : Nat), i + d = l.length → Ev (fun k => spec_l1Has.l0 k l n i) (decide (n ∈ l.drop i)) := by
  unfold smI at h
  intro d
  induction d with
  | zero =>
    intro i hi
    refine Ev.step (fun k => rfl) (Ev.ineg (by omega) (Ev.rw (Ev.now _) ?_))
    rw [List.drop_of_length_le (by omega)]; simp
  | succ d ih =>
    intro i hi
    have hlt : i < l.length := by omega
    refine Ev.step (fun k => rfl) (Ev.ipos (by omega) (Ev.ipos (by omega) ?_))
    rw [show rd l (i : Int) = l[i] from getD_at l _ i hlt, List.drop_eq_getElem_cons hlt]
    by_cases c : l[i] = n
    · exact Ev.ipos c (Ev.rw (Ev.now _) (by simp [c]))
    · refine Ev.ineg c ?_
      rw [show wrap64 ((i : Int) + 1) = ((i + 1 : Nat) : Int) by rw [w64 (by omega) (by omega)]; rfl]
      refine Ev.rw (ih (i + 1) (by omega)) ?_
      rw [decide_eq_decide, List.mem_cons]
      exact ⟨.inr, fun h => h.elim (fun e => absurd e.symm c) id⟩
theorem has_ev (l : List Int) (n : Int) (h : smI l) : Ev (fun k => spec_l1Has.f k l n) (decide (n ∈ l)) := by
  have := has_l l n h l.length 0 (by omega)
  rw [List.drop_zero] at this
  exact this
theorem put_l (l : List Int) (n : Int) (h : smI l) (hn : n ∉ l) : ∀ (d i : Nat), i + d = l.length → Ev (fun k => spec_l1Put.l0 k l n i) (l.take i ++ putI n (l.drop i)) := by
  unfold smI at h
  intro d
  induction d with
  | zero =>
    intro i hi
    obtain rfl : i = l.length := by omega
    refine Ev.step (fun k => rfl) (Ev.ineg (by omega) ?_)
    rw [List.drop_of_length_le (Nat.le_refl _), List.take_of_length_le (Nat.le_refl _)]
    refine Ev.cst ?_
    simp only [Option.bind_some, Int.toNat_natCast, List.nil_append, List.length_nil, List.take_length, List.drop_length, List.append_nil]
    rw [if_pos (by omega), if_pos (by omega), if_pos (by omega), if_pos (by omega), if_pos (by simp; omega)]
    rfl
  | succ d ih =>
    intro i hi
    have hlt : i < l.length := by omega
    refine Ev.step (fun k => rfl) (Ev.ipos (by omega) (Ev.ipos (by omega) ?_))
    rw [show rd l (i : Int) = l[i] from getD_at l _ i hlt]
    by_cases c : l[i] < n
    · refine Ev.ipos c ?_
      rw [show wrap64 ((i : Int) + 1) = ((i + 1 : Nat) : Int) by rw [w64 (by omega) (by omega)]; rfl]
      refine Ev.rw (ih (i + 1) (by omega)) ?_
      rw [List.drop_eq_getElem_cons hlt, List.take_succ_eq_append_getElem hlt]
      simp only [putI]
      rw [if_pos c, List.append_assoc]; rfl
    · refine Ev.ineg c (Ev.ineg (fun e => hn (e ▸ List.getElem_mem hlt)) (Ev.cst ?_))
      simp only [Option.bind_some, Int.toNat_natCast, List.nil_append, List.length_nil]
      have hm : (List.take i l).length = i := by rw [List.length_take]; omega
      rw [if_pos (by omega), if_pos (by omega), if_pos (by omega), if_pos (by simp; omega)]
      have e : putI n (l.drop i) = n :: l.drop i := by
        rw [List.drop_eq_getElem_cons hlt]
        simp only [putI]
        rw [if_neg c]
      rw [e, List.append_assoc]; rfl
theorem put_ev (l : List Int) (n : Int) (h : smI l) (hn : n ∉ l) : Ev (fun k => spec_l1Put.f k l n) (putI n l) := by
  have := put_l l n h hn l.length 0 (by omega)
  rw [List.drop_zero, List.take_zero, List.nil_append] at this
  exact this
theorem implLeads_eq (b : Block) : impl_leadsTo.f b.f2.f0 b.f2.f1 b.f2.f2 b.f2.f3 = some (succsOf b) := by
  unfold impl_leadsTo.f succsOf
  by_cases c2 : b.f2.f0 = 2
  · rw [if_pos c2, if_pos c2]
  · rw [if_neg c2, if_neg c2]
    by_cases c3 : b.f2.f0 = 3
    · rw [if_pos c3, if_pos c3]
    · rw [if_neg c3, if_neg c3]
theorem specSuccs_eq (p : List Int) (r : Int) (l : List Block) (x : Int) (h0 : 0 ≤ x) (h1 : x < (l.length : Int)) : spec_l3Succs.f p r l x = some (succsOf (l.getD x.toNat z88)) := by
  have e : rd_T88 l x = l.getD x.toNat z88 := rfl
  unfold spec_l3Succs.f
  rw [if_pos h0, if_pos h1, e]
  generalize l.getD x.toNat z88 = b
  unfold succsOf
  by_cases c2 : b.f2.f0 = 2
  · rw [if_pos c2, if_pos c2]
  · rw [if_neg c2, if_neg c2]
    by_cases c3 : b.f2.f0 = 3
    · rw [if_pos c3, if_pos c3]
    · rw [if_neg c3, if_neg c3]
theorem okq_tail {l : List Block} {b : Int} {q : List Int} (hq : okq l (b :: q)) : okq l q := fun c hc => hq c (by simp [hc])
theorem implReach_l (p : List Int) (r : Int) (l : List Block) (w : Int) (ht : There l) : ∀ (n : Nat) (q : List Int) (out : List Bool), n ≤ 100 → okq l q → out.length = l.length → q.length + 3 * off out ≤ n → Ev (fun k => impl_reach.l0 k w out q p r l) (bfs l w n q out)
  | 0, [], out, _, _, _, _ => Ev.step (fun k => rfl) (Ev.ineg (by simp) (Ev.now _))
  | 0, b :: q, out, _, _, _, hm => by simp at hm
  | n + 1, [], out, _, _, _, _ => Ev.step (fun k => rfl) (Ev.ineg (by simp) (Ev.now _))
  | n + 1, b :: q, out, hn, hq, ho, hm => by
    obtain ⟨h0, h1⟩ := hq b (by simp)
    have hl : ((b :: q).length : Int) = (q.length : Int) + 1 := by simp
    simp only [List.length_cons] at hm
    refine Ev.step (fun k => rfl) (Ev.ipos (by omega) (Ev.ipos (by omega) (Ev.ipos (by omega) (Ev.bind (a := q) (Ev.cst rfl) ?_))))
    rw [show rd (b :: q) 0 = b from rfl]
    by_cases hb : b = w
    · refine Ev.ipos hb (Ev.rw (implReach_l p r l w ht n q out (by omega) (okq_tail hq) ho (by omega)) ?_)
      simp only [bfs]; rw [if_pos (Or.inl hb)]
    · refine Ev.ineg hb (Ev.ipos h0 (Ev.ipos (by omega) ?_))
      by_cases hv : out.getD b.toNat false = true
      · refine Ev.ipos hv (Ev.rw (implReach_l p r l w ht n q out (by omega) (okq_tail hq) ho (by omega)) ?_)
        simp only [bfs]; rw [if_pos (Or.inr hv)]
      · have hf : out.getD b.toNat false = false := by simpa using hv
        have hs := succsOf_len (l.getD b.toNat z88)
        have hd := off_set out b.toNat (by omega) hf
        refine Ev.ineg hv (Ev.ipos h1 (Ev.bind (Ev.cst (implLeads_eq _)) (Ev.ipos (by show q.length + (succsOf (l.getD b.toNat z88)).length < _; omega) ?_)))
        refine Ev.rw (implReach_l p r l w ht n (q ++ succsOf (l.getD b.toNat z88)) (out.set b.toNat true) (by omega) (okq_next ht hq) (by simpa using ho) (by rw [List.length_append]; omega)) ?_
        simp only [bfs]; rw [if_neg (fun h => h.elim hb hv)]
theorem smI_small {l : List Int} (h : l.length ≤ 200) : smI l := Nat.le_trans h (by decide)
theorem specReach_l (p : List Int) (r : Int) (l : List Block) (w : Int) (ht : There l) : ∀ (n : Nat) (q : List Int) (out : List Bool), n ≤ 100 → okq l q → out.length = l.length → q.length + 3 * off out ≤ n → Ev (fun k => spec_l3Reach.l0 k w (idx out 0) q p r l) (idx (bfs l w n q out) 0)
  | 0, [], out, _, _, _, _ => Ev.succ (by simp only [spec_l3Reach.l0]; exact Ev.ineg (by simp) (Ev.now _))
  | 0, b :: q, out, _, _, _, hm => by simp at hm
  | n + 1, [], out, _, _, _, _ => Ev.succ (by simp only [spec_l3Reach.l0]; exact Ev.ineg (by simp) (Ev.now _))
  | n + 1, b :: q, out, hn, hq, ho, hm => by
    obtain ⟨h0, h1⟩ := hq b (by simp)
    have hl : ((b :: q).length : Int) = (q.length : Int) + 1 := by simp
    simp only [List.length_cons] at hm
    have ht10 := ht.1
    have hi : smI (idx out 0) := smI_small (by have := idx_length out 0; omega)
    have hqs : smI q := smI_small (by omega)
    refine Ev.succ ?_
    simp only [spec_l3Reach.l0]
    refine Ev.ipos (by omega) (Ev.ipos (by omega) (Ev.ipos (by omega) (Ev.bind (a := q) (Ev.cst (specCopy_eq q hqs)) ?_)))
    rw [show rd (b :: q) 0 = b from rfl]
    have hj : ∀ x : Bool, x = true → Ev (fun k => spec_l3Reach.j1 k w (idx out 0) q b x p r l) (idx (bfs l w n q out) 0) := by
      intro x hx
      subst hx
      refine Ev.succ ?_
      simp only [spec_l3Reach.j1]
      exact Ev.ipos trivial (specReach_l p r l w ht n q out (by omega) (okq_tail hq) ho (by omega))
    by_cases hb : b = w
    · refine Ev.ipos hb (Ev.rw (hj true rfl) ?_)
      simp only [bfs]; rw [if_pos (Or.inl hb)]
    · refine Ev.ineg hb (Ev.bind (has_ev _ b hi) ?_)
      by_cases hv : out.getD b.toNat false = true
      · refine Ev.rw (hj _ (decide_eq_true ((mem_idx0 out b h0).2 hv))) ?_
        simp only [bfs]; rw [if_pos (Or.inr hv)]
      · have hf : out.getD b.toNat false = false := by simpa using hv
        have hs := succsOf_len (l.getD b.toNat z88)
        have hd := off_set out b.toNat (by omega) hf
        have hni : b ∉ idx out 0 := fun h => hv ((mem_idx0 out b h0).1 h)
        have hset : idx (out.set b.toNat true) 0 = putI b (idx out 0) := by
          have := idx_set out 0 b.toNat (by omega) hf
          rw [show (0 : Int) + (b.toNat : Int) = b by omega] at this
          exact this
        refine Ev.succ ?_
        simp only [spec_l3Reach.j1]
        rw [decide_eq_false hni]
        refine Ev.ineg (by decide) (Ev.bind (put_ev _ b hi hni) (Ev.bind (Ev.cst (specSuccs_eq p r l b h0 h1)) (Ev.ipos (by omega) ?_)))
        rw [← hset]
        refine Ev.rw (specReach_l p r l w ht n (q ++ succsOf (l.getD b.toNat z88)) (out.set b.toNat true) (by omega) (okq_next ht hq) (by simpa using ho) (by rw [List.length_append]; omega)) ?_
        simp only [bfs]; rw [if_neg (fun h => h.elim hb hv)]
theorem okq_first {l : List Block} (h : 0 < l.length) : okq l [0] := fun b hb => by
  obtain rfl : b = 0 := by simpa using hb
  omega
theorem implReach_ev (p : List Int) (r : Int) (l : List Block) (w : Int) (ht : There l) (h : 0 < l.length) : Ev (fun k => impl_reach.f k p r l w) (reachB l w) := by
  have ht10 := ht.1
  refine Ev.ipos (by omega) (Ev.ipos (by simp; omega) ?_)
  rw [show ((l.length : Int)).toNat = l.length from by simp]
  exact implReach_l p r l w ht (3 * l.length + 1) [0] _ (by omega) (okq_first h) (by simp) (by rw [off_replicate]; simp; omega)
theorem specReach_ev (p : List Int) (r : Int) (l : List Block) (w : Int) (ht : There l) (h : 0 < l.length) : Ev (fun k => spec_l3Reach.f k p r l w) (idx (reachB l w) 0) := by
  have ht10 := ht.1
  have hz := idx_replicate l.length 0
  refine Ev.bind (a := []) (Ev.cst rfl) ?_
  by_cases hw : w = 0
  · subst hw
    refine Ev.ipos rfl (Ev.rw (Ev.now _) ?_)
    unfold reachB
    rw [show 3 * l.length + 1 = (3 * l.length - 1 + 1) + 1 by omega]
    simp only [bfs]
    rw [if_pos (Or.inl trivial), hz]
  · refine Ev.ineg hw ?_
    have := specReach_l p r l w ht (3 * l.length + 1) [0] (List.replicate l.length false) (by omega) (okq_first h) (by simp) (by rw [off_replicate]; simp; omega)
    rw [hz] at this
    exact this
/-- All ends lead to blocks (any number of blocks). -/
def EndsOk (l : List Block) : Prop := ∀ b ∈ l, ∀ s ∈ succsOf b, 0 ≤ s ∧ s < (l.length : Int)
instance (l : List Block) : Decidable (EndsOk l) := by unfold EndsOk; infer_instance
theorem There_iff (l : List Block) : There l ↔ l.length ≤ 10 ∧ EndsOk l := Iff.rfl
theorem implGraph_eq (p : List Int) (r : Int) (l : List Block) (h : l.length ≤ 1048576) : impl_isGraph.f p r l = some (decide (1 ≤ l.length ∧ There l)) := by
  have hw : wrap64 ((l.length : Int) - 1) = (l.length : Int) - 1 := w64 (by omega) (by omega)
  unfold impl_isGraph.f
  congr 1
  have key : ∀ b : Block, ((impl_isGraph.ends b).any (impl_isGraph.far (l.length : Int)) = true) ↔ ∃ s ∈ succsOf b, ¬ (0 ≤ s ∧ s < (l.length : Int)) := by
    intro b
    rw [List.any_eq_true]
    constructor
    · rintro ⟨s, hs, hf⟩
      refine ⟨s, hs, ?_⟩
      unfold impl_isGraph.far at hf
      rw [hw] at hf
      simp at hf
      omega
    · rintro ⟨s, hs, hf⟩
      refine ⟨s, hs, ?_⟩
      unfold impl_isGraph.far
      rw [hw]
      simp
      omega
  have e : (!(l.any fun b => (impl_isGraph.ends b).any (impl_isGraph.far (l.length : Int)))) = decide (EndsOk l) := by
    rw [Bool.eq_iff_iff, decide_eq_true_eq, Bool.not_eq_true', List.any_eq_false]
    constructor
    · intro hh b hb s hs
      exact Classical.byContradiction fun c => hh b hb ((key b).2 ⟨s, hs, c⟩)
    · intro hh b hb hany
      obtain ⟨s, hs, c⟩ := (key b).1 hany
      exact c (hh b hb s hs)
  rw [e, Bool.eq_iff_iff, Bool.and_eq_true, decide_eq_true_eq, decide_eq_true_eq, decide_eq_true_eq, There_iff]
  constructor
  · rintro ⟨⟨h1, h2⟩, h3⟩; exact ⟨by omega, by omega, h3⟩
  · rintro ⟨h1, h2, h3⟩; exact ⟨⟨by omega, by omega⟩, h3⟩
theorem specThere_l1 (p : List Int) (r : Int) (l : List Block) (a : Int) (h : l.length ≤ 1048576) (i : Nat) (hil : i < l.length) (s : List Int) (hs : s.length ≤ 2) (R : Bool) (hR : Ev (fun k => spec_l3There.l0 k a (l.length : Int) ((i + 1 : Nat) : Int) p r l) R) :
    ∀ (d j : Nat), j + d = s.length → Ev (fun k => spec_l3There.l1 k a (l.length : Int) i s j p r l) (decide (∀ x ∈ s.drop j, 0 ≤ x ∧ x < (l.length : Int)) && R) := by
  have hw : wrap64 ((l.length : Int) - 1) = (l.length : Int) - 1 := w64 (by omega) (by omega)
  intro d
  induction d with
  | zero =>
    intro j hj
    refine Ev.succ ?_
    simp only [spec_l3There.l1]
    refine Ev.ineg (by omega) ?_
    rw [show wrap64 ((i : Int) + 1) = ((i + 1 : Nat) : Int) by rw [w64 (by omega) (by omega)]; rfl]
    refine Ev.rw hR ?_
    rw [List.drop_of_length_le (by omega)]; simp
  | succ d ih =>
    intro j hj
    have hlt : j < s.length := by omega
    refine Ev.succ ?_
    simp only [spec_l3There.l1]
    rw [hw, show rd s (j : Int) = s[j] from getD_at s _ j hlt]
    refine Ev.ipos (by omega) (Ev.ipos (by omega) (Ev.bind (Ev.cst (specIn_eq _ _ _)) ?_))
    rw [List.drop_eq_getElem_cons hlt]
    by_cases c : 0 ≤ s[j] ∧ s[j] ≤ (l.length : Int) - 1
    · refine Ev.ipos (decide_eq_true c) ?_
      rw [show wrap64 ((j : Int) + 1) = ((j + 1 : Nat) : Int) by rw [w64 (by omega) (by omega)]; rfl]
      refine Ev.rw (ih (j + 1) (by omega)) ?_
      congr 1
      rw [decide_eq_decide]
      simp only [List.mem_cons, forall_eq_or_imp]
      exact ⟨fun h => ⟨⟨c.1, by omega⟩, h⟩, fun h => h.2⟩
    · refine Ev.ineg (by rw [decide_eq_false c]; decide) (Ev.rw (Ev.now _) ?_)
      rw [decide_eq_false (fun h => c (by have := h _ List.mem_cons_self; exact ⟨this.1, by omega⟩))]; rfl
theorem specThere_l0 (p : List Int) (r : Int) (l : List Block) (a : Int) (h : l.length ≤ 1048576) : ∀ (d i : Nat), i + d = l.length →
    Ev (fun k => spec_l3There.l0 k a (l.length : Int) i p r l) (decide (∀ b ∈ l.drop i, ∀ s ∈ succsOf b, 0 ≤ s ∧ s < (l.length : Int)) && (decide (0 ≤ a ∧ a ≤ (l.length : Int) - 1) && decide ((l.length : Int) ≤ 10))) := by
  have hw : wrap64 ((l.length : Int) - 1) = (l.length : Int) - 1 := w64 (by omega) (by omega)
  intro d
  induction d with
  | zero =>
    intro i hi
    refine Ev.succ ?_
    simp only [spec_l3There.l0]
    rw [hw]
    refine Ev.ineg (by omega) (Ev.bind (Ev.cst (specIn_eq _ _ _)) ?_)
    rw [List.drop_of_length_le (by omega), show decide (∀ b ∈ ([] : List Block), ∀ s ∈ succsOf b, 0 ≤ s ∧ s < (l.length : Int)) = true by simp, Bool.true_and]
    by_cases c : 0 ≤ a ∧ a ≤ (l.length : Int) - 1
    · rw [decide_eq_true c, Bool.true_and]; exact Ev.ipos rfl (Ev.now _)
    · rw [decide_eq_false c, Bool.false_and]; exact Ev.ineg (by decide) (Ev.now _)
  | succ d ih =>
    intro i hi
    have hlt : i < l.length := by omega
    refine Ev.succ ?_
    simp only [spec_l3There.l0]
    refine Ev.ipos (by omega) (Ev.bind (Ev.cst (specSuccs_eq p r l i (by omega) (by omega))) ?_)
    rw [show (i : Int).toNat = i from rfl, getD_at l _ i hlt]
    refine Ev.rw (specThere_l1 p r l a h i hlt (succsOf l[i]) (succsOf_len _) _ (ih (i + 1) (by omega)) _ 0 (Nat.zero_add _)) ?_
    rw [List.drop_zero, ← Bool.and_assoc, ← Bool.decide_and]
    congr 1
    rw [decide_eq_decide, List.drop_eq_getElem_cons hlt]
    simp only [List.mem_cons, forall_eq_or_imp]
theorem specThere_ev (p : List Int) (r : Int) (l : List Block) (a : Int) (h : l.length ≤ 1048576) : Ev (fun k => spec_l3There.f k p r l a) (decide ((0 ≤ a ∧ a < (l.length : Int)) ∧ There l)) := by
  refine Ev.rw (specThere_l0 p r l a h l.length 0 (by omega)) ?_
  rw [List.drop_zero, ← Bool.decide_and, ← Bool.decide_and, decide_eq_decide, There_iff]
  unfold EndsOk
  exact ⟨fun h => ⟨by omega, by omega, h.1⟩, fun h => ⟨h.2.2, by omega, by omega⟩⟩
theorem implBlockOf_eq (p : List Int) (r : Int) (l : List Block) (a : Int) (h : l.length ≤ 1048576) : impl_isBlockOf.f p r l a = some (decide ((0 ≤ a ∧ a < (l.length : Int)) ∧ There l)) := by
  unfold impl_isBlockOf.f
  rw [implGraph_eq p r l h]
  simp only [Option.bind_some]
  rw [w64 (x := (l.length : Int) - 1) (by omega) (by omega), implIn_eq]
  simp only [Option.bind_some]
  by_cases c : 1 ≤ l.length ∧ There l
  · rw [if_pos (decide_eq_true c)]
    congr 1
    rw [decide_eq_decide]
    exact ⟨fun h => ⟨by omega, c.2⟩, fun h => by omega⟩
  · rw [if_neg (by rw [decide_eq_false c]; decide), decide_eq_false (fun h => c ⟨by omega, h.2⟩)]
end Go.Proofs.Ytjkbafcepblacaa.X
namespace Go.Proofs.Ytjkbafcepblacaa.X
set_option linter.unusedVariables false
set_option linter.unusedSimpArgs false
open Go.RowKit Go.Proofs.YtjkbafcepblacaaW.PrintWords Go.Proofs.YtjkbafcepblacaaW.PrintLast Go.Proofs.YtjkbafcepblacaaW.PrintMore
/-- Where the block of a number leads. -/
def nexts (l : List Block) (a : Int) : List Int := succsOf (l.getD a.toNat z88)
/-- Reached from the first block over blocks of which P holds. -/
inductive Re (l : List Block) (P : Int → Prop) : Int → Prop
  | first : P 0 → Re l P 0
  | next {a b : Int} : Re l P a → b ∈ nexts l a → P b → Re l P b
theorem Re.holds {l : List Block} {P : Int → Prop} {b : Int} (h : Re l P b) : P b := by
  cases h with
  | first h => exact h
  | next _ _ h => exact h
theorem Re.mono {l : List Block} {P Q : Int → Prop} (hpq : ∀ x, P x → Q x) {b : Int} (h : Re l P b) : Re l Q b := by
  induction h with
  | first h => exact .first (hpq _ h)
  | next _ hb h ih => exact .next ih hb (hpq _ h)
theorem Re.range {l : List Block} {P : Int → Prop} (ht : There l) (h0 : 0 < l.length) {b : Int} (h : Re l P b) : 0 ≤ b ∧ b < (l.length : Int) := by
  induction h with
  | first _ => omega
  | @next a b _ hb _ ih =>
    have hlt : a.toNat < l.length := by omega
    unfold nexts at hb
    rw [getD_at l _ _ hlt] at hb
    exact ht.2 _ (List.getElem_mem hlt) _ hb
/-- The marks: each marked block is reached; where a marked block leads is marked, or waits, or is w. -/
structure Marks (l : List Block) (w : Int) (q : List Int) (out : List Bool) : Prop where
  len : out.length = l.length
  okq : okq l q
  sound : ∀ b : Int, 0 ≤ b → out.getD b.toNat false = true → Re l (· ≠ w) b
  queue : ∀ b ∈ q, b = w ∨ Re l (· ≠ w) b
  closed : ∀ a : Int, 0 ≤ a → out.getD a.toNat false = true → ∀ b ∈ nexts l a, b = w ∨ out.getD b.toNat false = true ∨ b ∈ q
  start : (0 : Int) = w ∨ out.getD 0 false = true ∨ (0 : Int) ∈ q
theorem getD_set_ne (out : List Bool) (i j : Nat) (h : i ≠ j) : (out.set i true).getD j false = out.getD j false := by
  simp [List.getD, List.getElem?_set, h]
theorem getD_set_eq (out : List Bool) (i : Nat) (h : i < out.length) : (out.set i true).getD i false = true := by
  simp [List.getD, List.getElem?_set, h]
theorem getD_set_le (out : List Bool) (i j : Nat) (h : out.getD j false = true) : (out.set i true).getD j false = true := by
  by_cases e : i = j
  · subst e
    refine getD_set_eq out i ?_
    rcases Nat.lt_or_ge i out.length with h' | h'
    · exact h'
    · rw [List.getD_eq_getElem?_getD, List.getElem?_eq_none h'] at h; cases h
  · rw [getD_set_ne out i j e]; exact h
theorem bfs_marks (l : List Block) (w : Int) (ht : There l) : ∀ (n : Nat) (q : List Int) (out : List Bool), Marks l w q out → q.length + 3 * off out ≤ n → Marks l w [] (bfs l w n q out)
  | 0, [], out, h, _ => h
  | 0, b :: q, out, _, hm => by simp at hm
  | n + 1, [], out, h, _ => h
  | n + 1, b :: q, out, h, hm => by
    obtain ⟨h0, h1⟩ := h.okq b (by simp)
    simp only [List.length_cons] at hm
    have hlt : b.toNat < out.length := by rw [h.len]; omega
    simp only [bfs]
    by_cases hc : b = w ∨ out.getD b.toNat false = true
    · rw [if_pos hc]
      refine bfs_marks l w ht n q out ⟨h.len, okq_tail h.okq, h.sound, fun x hx => h.queue x (by simp [hx]), ?_, ?_⟩ (by omega)
      · intro a ha hv x hx
        rcases h.closed a ha hv x hx with e | e | e
        · exact .inl e
        · exact .inr (.inl e)
        · rcases List.mem_cons.1 e with rfl | e
          · rcases hc with hc | hc
            · exact .inl hc
            · exact .inr (.inl hc)
          · exact .inr (.inr e)
      · rcases h.start with e | e | e
        · exact .inl e
        · exact .inr (.inl e)
        · rcases List.mem_cons.1 e with rfl | e
          · rcases hc with hc | hc
            · exact .inl hc
            · exact .inr (.inl hc)
          · exact .inr (.inr e)
    · rw [if_neg hc]
      have hbw : b ≠ w := fun e => hc (.inl e)
      have hbv : out.getD b.toNat false = false := by
        have : ¬ out.getD b.toNat false = true := fun e => hc (.inr e)
        simpa using this
      have hre : Re l (· ≠ w) b := (h.queue b (by simp)).resolve_left hbw
      have hs := succsOf_len (l.getD b.toNat z88)
      have hd := off_set out b.toNat hlt hbv
      refine bfs_marks l w ht n _ _ ⟨by simpa using h.len, okq_next ht h.okq, ?_, ?_, ?_, ?_⟩ (by rw [List.length_append]; omega)
      · intro a ha hv
        by_cases e : b.toNat = a.toNat
        · have : a = b := by omega
          subst this; exact hre
        · rw [getD_set_ne out _ _ e] at hv
          exact h.sound a ha hv
      · intro x hx
        rcases List.mem_append.1 hx with hx | hx
        · exact h.queue x (by simp [hx])
        · by_cases e : x = w
          · exact .inl e
          · exact .inr (.next hre hx e)
      · intro a ha hv x hx
        by_cases e : b.toNat = a.toNat
        · have : a = b := by omega
          subst this
          exact .inr (.inr (List.mem_append.2 (.inr hx)))
        · rw [getD_set_ne out _ _ e] at hv
          rcases h.closed a ha hv x hx with e' | e' | e'
          · exact .inl e'
          · exact .inr (.inl (getD_set_le out _ _ e'))
          · rcases List.mem_cons.1 e' with rfl | e'
            · exact .inr (.inl (getD_set_eq out _ hlt))
            · exact .inr (.inr (List.mem_append.2 (.inl e')))
      · rcases h.start with e' | e' | e'
        · exact .inl e'
        · exact .inr (.inl (getD_set_le out _ _ e'))
        · rcases List.mem_cons.1 e' with rfl | e'
          · exact .inr (.inl (getD_set_eq out _ hlt))
          · exact .inr (.inr (List.mem_append.2 (.inl e')))
theorem reach_marks (l : List Block) (w : Int) (ht : There l) (h0 : 0 < l.length) : Marks l w [] (reachB l w) := by
  have hno : ∀ i : Nat, (List.replicate l.length false).getD i false = false := by
    intro i
    rw [List.getD_eq_getElem?_getD, List.getElem?_replicate]
    split <;> rfl
  refine bfs_marks l w ht _ _ _ ⟨by simp, okq_first h0, ?_, ?_, ?_, .inr (.inr (by simp))⟩ (by rw [off_replicate]; simp; omega)
  · intro b _ hv; rw [hno] at hv; cases hv
  · intro b hb
    obtain rfl : b = 0 := by simpa using hb
    by_cases e : (0 : Int) = w
    · exact .inl e
    · exact .inr (.first e)
  · intro a _ hv; rw [hno] at hv; cases hv
theorem reach_iff (l : List Block) (w : Int) (ht : There l) (h0 : 0 < l.length) (b : Int) (hb : 0 ≤ b) : (reachB l w).getD b.toNat false = true ↔ Re l (· ≠ w) b := by
  have hM := reach_marks l w ht h0
  refine ⟨hM.sound b hb, fun h => ?_⟩
  clear hb
  induction h with
  | first h =>
    rcases hM.start with e | e | e
    · exact absurd e h
    · exact e
    · cases e
  | next ha hx hn ih =>
    have hr := Re.range ht h0 ha
    rcases hM.closed _ hr.1 ih _ hx with e | e | e
    · exact absurd e hn
    · exact e
    · cases e
theorem Re.any {l : List Block} {P : Int → Prop} {b : Int} (ht : There l) (h0 : 0 < l.length) (h : Re l P b) : Re l (· ≠ -1) b := by
  induction h with
  | first _ => exact .first (by decide)
  | @next a b ha hx hp ih => exact .next ih hx (by have := (Re.range ht h0 (.next ha hx hp)).1; omega)
/-- a dominates b. -/
def Dm (l : List Block) (a b : Int) : Prop := Re l (· ≠ -1) b ∧ ¬ Re l (· ≠ a) b
theorem domB_iff (l : List Block) (ht : There l) (h0 : 0 < l.length) (a b : Int) (hb : 0 ≤ b) : domB l a b = true ↔ Dm l a b := by
  unfold domB Dm
  rw [Bool.and_eq_true, reach_iff l (-1) ht h0 b hb, Bool.not_eq_true', ← Bool.not_eq_true, reach_iff l a ht h0 b hb]
theorem Re.split {l : List Block} {P : Int → Prop} {b c : Int} (h : Re l P c) : Re l (fun x => P x ∧ x ≠ b) c ∨ Re l P b := by
  induction h with
  | first hp =>
    by_cases e : (0 : Int) = b
    · exact .inr (e ▸ .first hp)
    · exact .inl (.first ⟨hp, e⟩)
  | @next a c ha hx hp ih =>
    rcases ih with ih | ih
    · by_cases e : c = b
      · exact .inr (e ▸ .next ha hx hp)
      · exact .inl (.next ih hx ⟨hp, e⟩)
    · exact .inr ih
theorem Dm.self {l : List Block} {b : Int} (h : Re l (· ≠ -1) b) : Dm l b b := ⟨h, fun h => h.holds rfl⟩
theorem Dm.zero {l : List Block} {b : Int} (h : Re l (· ≠ -1) b) : Dm l 0 b := by
  refine ⟨h, fun h => ?_⟩
  have : ∀ x, Re l (· ≠ 0) x → False := by
    intro x hx
    induction hx with
    | first h => exact h rfl
    | next _ _ _ ih => exact ih
  exact this _ h
theorem Dm.reached {l : List Block} {a b : Int} (h : Dm l a b) : Re l (· ≠ -1) a := by
  rcases Re.split (b := a) h.1 with h' | h'
  · exact absurd (h'.mono fun _ hx => hx.2) h.2
  · exact h'
theorem Dm.trans {l : List Block} {a b c : Int} (h : Dm l a b) (k : Dm l b c) : Dm l a c := by
  refine ⟨k.1, fun hr => ?_⟩
  rcases Re.split (b := b) hr with h' | h'
  · exact k.2 (h'.mono fun _ hx => hx.2)
  · exact h.2 h'
theorem Dm.antisymm {l : List Block} {a b : Int} (h : Dm l a b) (k : Dm l b a) : a = b := by
  refine Classical.byContradiction fun hab => ?_
  have key : ∀ c, Re l (· ≠ -1) c → Re l (fun x => x ≠ a ∧ x ≠ b) c ∨ Re l (· ≠ b) a ∨ Re l (· ≠ a) b := by
    intro c hc
    induction hc with
    | first _ =>
      by_cases e : (0 : Int) = a
      · exact .inr (.inl (e ▸ .first (fun e' => hab (e.symm.trans e'))))
      · by_cases e' : (0 : Int) = b
        · exact .inr (.inr (e' ▸ .first e))
        · exact .inl (.first ⟨e, e'⟩)
    | @next x c ha hx _ ih =>
      rcases ih with ih | ih
      · by_cases e : c = a
        · exact .inr (.inl (e ▸ .next (ih.mono fun _ hx => hx.2) hx (fun e' => hab (e.symm.trans e'))))
        · by_cases e' : c = b
          · exact .inr (.inr (e' ▸ .next (ih.mono fun _ hx => hx.1) hx e))
          · exact .inl (.next ih hx ⟨e, e'⟩)
      · exact .inr ih
  rcases key a k.1 with h' | h' | h'
  · exact h'.holds.1 rfl
  · exact k.2 h'
  · exact h.2 h'
end Go.Proofs.Ytjkbafcepblacaa.X
namespace Go.Proofs.Ytjkbafcepblacaa.X
set_option linter.unusedVariables false
set_option linter.unusedSimpArgs false
open Go.RowKit Go.Proofs.YtjkbafcepblacaaW.PrintWords Go.Proofs.YtjkbafcepblacaaW.PrintLast Go.Proofs.YtjkbafcepblacaaW.PrintMore
theorem implReached_l (B : List Bool) (hB : B.length ≤ 1000) : ∀ (d i : Nat) (acc : List Int), i + d = B.length → acc.length ≤ i → Ev (fun k => impl_Reached.l0 k acc B (B.length : Int) i) (acc ++ idx (B.drop i) i) := by
  intro d
  induction d with
  | zero =>
    intro i acc hi ha
    refine Ev.step (fun k => rfl) (Ev.ineg (by omega) (Ev.rw (Ev.now _) ?_))
    rw [List.drop_of_length_le (by omega)]; simp [idx]
  | succ d ih =>
    intro i acc hi ha
    have hlt : i < B.length := by omega
    have hw : wrap64 ((i : Int) + 1) = ((i + 1 : Nat) : Int) := by rw [w64 (by omega) (by omega)]; rfl
    have hr : rdOf false B (i : Int) = B[i] := getD_at B false i hlt
    refine Ev.step (fun k => rfl) (Ev.ipos (by omega) (Ev.ipos (by omega) (Ev.ipos (by omega) ?_)))
    rw [hr, hw, List.drop_eq_getElem_cons hlt]
    simp only [idx]
    by_cases c : B[i] = true
    · rw [if_pos c]
      refine Ev.ipos c (Ev.ipos (by omega) (Ev.rw (ih (i + 1) (acc ++ [(i : Int)]) (by omega) (by simp; omega)) ?_))
      rw [List.append_assoc]; rfl
    · rw [if_neg c]
      exact Ev.ineg c (ih (i + 1) acc (by omega) (by omega))
/-- The blocks that are reached. -/
def reachedL (l : List Block) : List Int := if 1 ≤ l.length ∧ There l then idx (reachB l (-1)) 0 else []
theorem implReached_ev (p : List Int) (r : Int) (l : List Block) (h : l.length ≤ 1048576) : Ev (fun k => impl_Reached.f k p r l) (reachedL l) := by
  unfold reachedL
  refine Ev.bind (Ev.cst (implGraph_eq p r l h)) ?_
  by_cases c : 1 ≤ l.length ∧ There l
  · rw [if_pos c]
    have h10 := c.2.1
    have hl := reachB_length l (-1)
    refine Ev.ipos (decide_eq_true c) (Ev.bind (implReach_ev p r l (-1) c.2 (by omega)) ?_)
    have := implReached_l (reachB l (-1)) (by omega) (reachB l (-1)).length 0 [] (by omega) (Nat.le_refl _)
    rw [List.drop_zero, List.nil_append] at this
    exact this
  · rw [if_neg c]
    exact Ev.ineg (by rw [decide_eq_false c]; decide) (Ev.now _)
theorem idx_lt : ∀ (B : List Bool) (i : Int), (idx B i).Pairwise (· < ·)
  | [], i => by simp [idx]
  | x :: B, i => by
    simp only [idx]
    split
    · refine List.pairwise_cons.2 ⟨fun y hy => ?_, idx_lt B (i + 1)⟩
      have := idx_ge _ _ _ hy; omega
    · exact idx_lt B (i + 1)
theorem mem_reachedL {l : List Block} {x : Int} (h : x ∈ reachedL l) : There l ∧ (0 ≤ x ∧ x < (l.length : Int)) ∧ Re l (· ≠ -1) x := by
  unfold reachedL at h
  by_cases c : 1 ≤ l.length ∧ There l
  · rw [if_pos c] at h
    have h0 := idx_ge _ _ _ h
    have hr := (reach_iff l (-1) c.2 (by omega) x h0).1 ((mem_idx0 _ x h0).1 h)
    exact ⟨c.2, hr.range c.2 (by omega), hr⟩
  · rw [if_neg c] at h; cases h
theorem reachedL_inj {l : List Block} {i j : Nat} (hi : i < (reachedL l).length) (hj : j < (reachedL l).length) (e : (reachedL l)[i] = (reachedL l)[j]) : i = j := by
  have hp : (reachedL l).Pairwise (· < ·) := by
    unfold reachedL
    split
    · exact idx_lt _ _
    · exact List.Pairwise.nil
  rw [List.pairwise_iff_getElem] at hp
  rcases Nat.lt_trichotomy i j with c | c | c
  · have := hp i j hi hj c; omega
  · exact c
  · have := hp j i hj hi c; omega
theorem reachedL_len (l : List Block) : (reachedL l).length ≤ 10 := by
  unfold reachedL
  split
  · rename_i c
    have := idx_length (reachB l (-1)) 0
    rw [reachB_length] at this
    have := c.2.1
    omega
  · simp
end Go.Proofs.Ytjkbafcepblacaa.X
