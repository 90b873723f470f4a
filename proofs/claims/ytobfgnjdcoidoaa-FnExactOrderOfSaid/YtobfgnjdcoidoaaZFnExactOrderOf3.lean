/- PROVED HERE: what the functions that the law FnExactOrderOf reaches do in memory, each as a plain Lean function, and what these tell: part 4 of 6 of the proof of that law; no condition beyond those written out at each theorem. -/
import Derived.Deep.Slices
import Derived.ProofKit
import Derived.Test.YtobfgnjdcoidoaaZFnExactOrderOf0
import Derived.Test.YtobfgnjdcoidoaaZFnExactOrderOf1
import Derived.Test.YtobfgnjdcoidoaaZFnExactOrderOf2
namespace Go.Proofs.Ytobfgnjdcoidoaa.X
open Go.RowKit Go.Proofs.YtobfgnjdcoidoaaW.PrintWords Go.Proofs.YtobfgnjdcoidoaaW.PrintLast Go.Proofs.YtobfgnjdcoidoaaW.PrintMore
theorem pk_ {p : Prop} (h : p := by first | exact hk_ | exact hk_.1 | exact hk_.2 | exact hk_.1.1 | exact hk_.1.2 | exact hk_.2.1 | exact hk_.2.2 | exact hk_.1.1.1 | exact hk_.1.1.2 | exact hk_.1.2.1 | exact hk_.1.2.2 | exact hk_.2.1.1 | exact hk_.2.1.2 | exact hk_.2.2.1 | exact hk_.2.2.2 | exact hk_.1.1.1.1 | exact hk_.1.1.1.2 | exact hk_.1.1.2.1 | exact hk_.1.1.2.2 | exact hk_.1.2.1.1 | exact hk_.1.2.1.2 | exact hk_.1.2.2.1 | exact hk_.1.2.2.2 | exact hk_.2.1.1.1 | exact hk_.2.1.1.2 | exact hk_.2.1.2.1 | exact hk_.2.1.2.2 | exact hk_.2.2.1.1 | exact hk_.2.2.1.2 | exact hk_.2.2.2.1 | exact hk_.2.2.2.2 | exact hk_.1.1.1.1.1 | exact hk_.1.1.1.1.2 | exact hk_.1.1.1.2.1 | exact hk_.1.1.1.2.2 | exact hk_.1.1.2.1.1 | exact hk_.1.1.2.1.2 | exact hk_.1.1.2.2.1 | exact hk_.1.1.2.2.2 | exact hk_.1.2.1.1.1 | exact hk_.1.2.1.1.2 | exact hk_.1.2.1.2.1 | exact hk_.1.2.1.2.2 | exact hk_.1.2.2.1.1 | exact hk_.1.2.2.1.2 | exact hk_.1.2.2.2.1 | exact hk_.1.2.2.2.2 | exact hk_.2.1.1.1.1 | exact hk_.2.1.1.1.2 | exact hk_.2.1.1.2.1 | exact hk_.2.1.1.2.2 | exact hk_.2.1.2.1.1 | exact hk_.2.1.2.1.2 | exact hk_.2.1.2.2.1 | exact hk_.2.1.2.2.2 | exact hk_.2.2.1.1.1 | exact hk_.2.2.1.1.2 | exact hk_.2.2.1.2.1 | exact hk_.2.2.1.2.2 | exact hk_.2.2.2.1.1 | exact hk_.2.2.2.1.2 | exact hk_.2.2.2.2.1 | exact hk_.2.2.2.2.2 | exact hk_.1.1.1.1.1.2 | exact hk_.1.1.1.1.1.1.2 | exact hk_.1.1.1.1.1.1.1.2 | exact hk_.1.1.1.1.1.1.1.1.2 | exact hk_.1.1.1.1.1.1.1.1.1.2 | exact hk_.1.1.1.1.1.1.1.1.1.1.2 | exact hk_.1.1.1.1.1.1.1.1.1.1.1.2 | exact hk_.1.1.1.1.1.1.1.1.1.1.1.1.2 | exact hk_.1.1.1.1.1.1.1.1.1.1.1.1.1.2) : p := h
attribute [local go_sem] max2_int min2_int max_two min_two max_three min_three max_four min_four   -- for this text's walks alone
set_option linter.unusedVariables false
set_option linter.unusedSimpArgs false
/-! ### laws_FnExactOrderOf: function 4 -/
def laws_FnExactOrderOf.j0 : Nat → List Int → List Int → Bool → List Int → Int → List (S74) → Option (Bool)
 | 0, _, _, _, _, _, _ => none
 | k + 1, x4, x6, x42, x452000, x452001, x452002 => if x42 = true then (some false) else ((laws_markInt64S.f k x6 1).bind fun bt485 => ((laws_heldInt64S.f k bt485.2 1).bind fun t487 => (if t487 < 0 then (some false) else (if t487 = bt485.1 then ((laws_toFunc.f k x452000 x452001 x452002).bind fun bt488 => ((impl_OrderOf.f k bt488.1 bt488.2.1 bt488.2.2).bind fun t495 => ((laws_eqInt64S.f k t495 x4).bind fun t498 => (if t498 = true then ((laws_heldInt64S.f k bt485.2 1).bind fun t499 => (if t499 < 0 then (some false) else (if t499 = bt485.1 then (some true) else (some false)))) else (some false))))) else (some false)))))
def laws_FnExactOrderOf.f (k : Nat) (l0_0 : List Int) (a0_1 : Int) (l0_2 : List (S74)) : Option (Bool) := (laws_szFunc.f k l0_0 a0_1 l0_2 1048576).bind fun t452 => (if t452 < 0 then (some true) else ((laws_toFunc.f k l0_0 a0_1 l0_2).bind fun bt453 => ((spec_OrderOf.f k bt453.1 bt453.2.1 bt453.2.2).bind fun t460 => ((laws_toFunc.f k l0_0 a0_1 l0_2).bind fun bt463 => ((impl_OrderOf.f k bt463.1 bt463.2.1 bt463.2.2).bind fun t471 => ((laws_eqInt64S.f k t471 t460).bind fun t474 => (if t474 = true then ((laws_toFunc.f k l0_0 a0_1 l0_2).bind fun bt475 => ((laws_eqFunc.f k bt463.1 bt463.2.1 bt463.2.2 bt475.1 bt475.2.1 bt475.2.2).bind fun t482 => (if t482 = true then ((laws_markFunc.f bt463.1 bt463.2.1 bt463.2.2 1).bind fun t483 => (if t483 < 0 then (laws_FnExactOrderOf.j0 k t460 t471 true l0_0 a0_1 l0_2) else ((laws_eqInt64S.f k t471 t460).bind fun t484 => (laws_FnExactOrderOf.j0 k t460 t471 (!t484) l0_0 a0_1 l0_2)))) else (some false)))) else (some false))))))))
theorem laws_FnExactOrderOf.mono_l : ∀ k, (∀ y0 y1 y2 y3 y4 y5, LeO (laws_FnExactOrderOf.j0 k y0 y1 y2 y3 y4 y5) (laws_FnExactOrderOf.j0 (k + 1) y0 y1 y2 y3 y4 y5))
 | 0 => fun _ _ _ _ _ _ r h => by simp [laws_FnExactOrderOf.j0] at h
 | k + 1 => by
  have ih0 := laws_FnExactOrderOf.mono_l k
  ·intro y0 y1 y2 y3 y4 y5
   unfold laws_FnExactOrderOf.j0
   repeat' first
   | (with_reducible exact ih0 _ _ _ _ _ _)
   | (with_reducible exact impl_OrderOf.mono _ _ _ _)
   | (with_reducible exact laws_eqFunc.mono _ _ _ _ _ _ _)
   | (with_reducible exact laws_eqInt64S.mono _ _ _)
   | (with_reducible exact laws_heldInt64S.mono _ _ _)
   | (with_reducible exact laws_markInt64S.mono _ _ _)
   | (with_reducible exact laws_szFunc.mono _ _ _ _ _)
   | (with_reducible exact laws_toFunc.mono _ _ _ _)
   | (with_reducible exact spec_OrderOf.mono _ _ _ _)
   | (with_reducible exact LeO.refl _)
   | (with_reducible exact LeO.none _)
   | (with_reducible refine LeO.ite ?_ ?_)
   | (with_reducible refine LeO.bind ?_ (fun _ => ?_))
   | exact ih0 _ _ _ _ _ _
   | exact impl_OrderOf.mono _ _ _ _
   | exact laws_eqFunc.mono _ _ _ _ _ _ _
   | exact laws_eqInt64S.mono _ _ _
   | exact laws_heldInt64S.mono _ _ _
   | exact laws_markInt64S.mono _ _ _
   | exact laws_szFunc.mono _ _ _ _ _
   | exact laws_toFunc.mono _ _ _ _
   | exact spec_OrderOf.mono _ _ _ _
   | exact LeO.none _
   | refine LeO.ite ?_ ?_
   | refine LeO.bind ?_ (fun _ => ?_)
theorem laws_FnExactOrderOf.mono : ∀ a0 a1 a2 k, LeO (laws_FnExactOrderOf.f k a0 a1 a2) (laws_FnExactOrderOf.f (k + 1) a0 a1 a2) := by
 intro a0 a1 a2 k
 have ih0 := laws_FnExactOrderOf.mono_l k
 unfold laws_FnExactOrderOf.f
 repeat' first
   | (with_reducible exact ih0 _ _ _ _ _ _)
   | (with_reducible exact impl_OrderOf.mono _ _ _ _)
   | (with_reducible exact laws_eqFunc.mono _ _ _ _ _ _ _)
   | (with_reducible exact laws_eqInt64S.mono _ _ _)
   | (with_reducible exact laws_heldInt64S.mono _ _ _)
   | (with_reducible exact laws_markInt64S.mono _ _ _)
   | (with_reducible exact laws_szFunc.mono _ _ _ _ _)
   | (with_reducible exact laws_toFunc.mono _ _ _ _)
   | (with_reducible exact spec_OrderOf.mono _ _ _ _)
   | (with_reducible exact LeO.refl _)
   | (with_reducible exact LeO.none _)
   | (with_reducible refine LeO.ite ?_ ?_)
   | (with_reducible refine LeO.bind ?_ (fun _ => ?_))
   | exact ih0 _ _ _ _ _ _
   | exact impl_OrderOf.mono _ _ _ _
   | exact laws_eqFunc.mono _ _ _ _ _ _ _
   | exact laws_eqInt64S.mono _ _ _
   | exact laws_heldInt64S.mono _ _ _
   | exact laws_markInt64S.mono _ _ _
   | exact laws_szFunc.mono _ _ _ _ _
   | exact laws_toFunc.mono _ _ _ _
   | exact spec_OrderOf.mono _ _ _ _
   | exact LeO.none _
   | refine LeO.ite ?_ ?_
   | refine LeO.bind ?_ (fun _ => ?_)
set_option maxHeartbeats 8000000 in
set_option maxRecDepth 100000 in
theorem laws_FnExactOrderOf.calls (k : Nat) (A0_0 : Option Addr) (c0_0 : Nat) (l0_0 : List Int) (a0_1 : Int) (A0_2 : Option Addr) (c0_2 : Nat) (l0_2 : List (S74)) (r : Bool) (w : World) (hr0_0 : Kd.C (Kd.int .i64) w A0_0 l0_0.length l0_0) (hc0_0 : l0_0.length ≤ c0_0) (hr0_2 : Kd.C k74 w A0_2 l0_2.length l0_2) (hc0_2 : l0_2.length ≤ c0_2) (h : laws_FnExactOrderOf.f k l0_0 a0_1 l0_2 = some r) :
  Calls Try.prog 4 #[.agg #[.slice A0_0 l0_0.length c0_0, .int .i64 a0_1, .slice A0_2 l0_2.length c0_2]] w fun e w' => e = .returned (.bool r) ∧ Below w.heap.size w w' := by
 have hu25 := Try.underlying25
 have hu30 := Try.underlying30
 have HR0_0 := Aside0.mk hr0_0
 have HC0_0 := Aside0.mk hc0_0
 clear hr0_0 hc0_0
 have HR0_2 := Aside0.mk hr0_2
 have HC0_2 := Aside0.mk hc0_2
 clear hr0_2 hc0_2
 have HB := Aside0.mk (Below.refl w.heap.size w)
 have H : ((laws_szFunc.f k l0_0 a0_1 l0_2 1048576).bind fun t452 => (if t452 < 0 then (some true) else ((laws_toFunc.f k l0_0 a0_1 l0_2).bind fun bt453 => ((spec_OrderOf.f k bt453.1 bt453.2.1 bt453.2.2).bind fun t460 => ((laws_toFunc.f k l0_0 a0_1 l0_2).bind fun bt463 => ((impl_OrderOf.f k bt463.1 bt463.2.1 bt463.2.2).bind fun t471 => ((laws_eqInt64S.f k t471 t460).bind fun t474 => (if t474 = true then ((laws_toFunc.f k l0_0 a0_1 l0_2).bind fun bt475 => ((laws_eqFunc.f k bt463.1 bt463.2.1 bt463.2.2 bt475.1 bt475.2.1 bt475.2.2).bind fun t482 => (if t482 = true then ((laws_markFunc.f bt463.1 bt463.2.1 bt463.2.2 1).bind fun t483 => (if t483 < 0 then (laws_FnExactOrderOf.j0 k t460 t471 true l0_0 a0_1 l0_2) else ((laws_eqInt64S.f k t471 t460).bind fun t484 => (laws_FnExactOrderOf.j0 k t460 t471 (!t484) l0_0 a0_1 l0_2)))) else (some false)))) else (some false))))))))) = some r := h
 clear h
 replace H := Option.bind_eq_some_iff.mp H
 obtain ⟨t452, A20, H⟩ := H
 replace H : (if t452 < 0 then (some true) else ((laws_toFunc.f k l0_0 a0_1 l0_2).bind fun bt453 => ((spec_OrderOf.f k bt453.1 bt453.2.1 bt453.2.2).bind fun t460 => ((laws_toFunc.f k l0_0 a0_1 l0_2).bind fun bt463 => ((impl_OrderOf.f k bt463.1 bt463.2.1 bt463.2.2).bind fun t471 => ((laws_eqInt64S.f k t471 t460).bind fun t474 => (if t474 = true then ((laws_toFunc.f k l0_0 a0_1 l0_2).bind fun bt475 => ((laws_eqFunc.f k bt463.1 bt463.2.1 bt463.2.2 bt475.1 bt475.2.1 bt475.2.2).bind fun t482 => (if t482 = true then ((laws_markFunc.f bt463.1 bt463.2.1 bt463.2.2 1).bind fun t483 => (if t483 < 0 then (laws_FnExactOrderOf.j0 k t460 t471 true l0_0 a0_1 l0_2) else ((laws_eqInt64S.f k t471 t460).bind fun t484 => (laws_FnExactOrderOf.j0 k t460 t471 (!t484) l0_0 a0_1 l0_2)))) else (some false)))) else (some false)))))))) = some r := H
 have A2 := Aside0.mk A20
 clear A20
 by_cases c3 : t452 < 0
 ·rw [if_pos c3] at H
  have c3b0 : decide (t452 < 0) = true := decide_eq_true c3
  clear c3
  obtain rfl := Option.some.inj H
  go_enter Try.func4, Try.ntmps4
  go_wp2_with (first | ((with_reducible refine gate_dst (N := 1) rfl ?_); refine box_event ?hg (N := 1) ?hd (cs := #[.slice A0_0 l0_0.length c0_0, .int .i64 a0_1, .slice A0_2 l0_2.length c0_2]) (t := 25) ?hr ?_; (case hd => rfl); (case hg => rfl); (case hr => first | (go_simp; done) | (go_simp; rfl)); intro gb451 hg w4 hbox hb; have n0_ := Aside0.mk (below_step hB_ hb); have n1_ := Aside0.mk (hbox); have n2_ := Aside0.mk ((sz_ hg (below_size hB_) : w.heap.size ≤ gb451)); have n3_ := Aside0.mk ((sz_ hg (below_size hB_) : w.heap.size ≤ gb451)); clear HB; have HB := n0_; have BK451 := n1_; have GW451 := n2_; have GE451 := n3_; clear n0_ n1_ n2_ n3_; clear hb hbox hg; obtain ⟨hcz5_0, hcz5_1, hcz5_2, hfz5_0, hfz5_1, hfz5_2⟩ := blkc3_ BK451.out) | ((with_reducible refine gate_callee (f := 7) rfl ?_); refine gL_ (some 13) Try.func7 #[.agg #[.slice A0_0 l0_0.length c0_0, .int .i64 a0_1, .slice A0_2 l0_2.length c0_2], .int .i64 1048576] ?_; (with_reducible refine (laws_szFunc.calls k _ _ l0_0 a0_1 _ _ l0_2 1048576 t452 _ ?side1 ?side2 ?side3 ?side4 A2.out).mono ?_); (case side1 => exact cHR0_0_); (case side2 => exact HC0_0.out); (case side3 => exact cHR0_2_); (case side4 => exact HC0_2.out); rintro e w6 ⟨rfl, hb⟩; refine ⟨_, rfl, ?_⟩; have n0_ := Aside0.mk (blk_below (g := gb451) (o := .cells #[.slice A0_0 l0_0.length c0_0, .int .i64 a0_1, .slice A0_2 l0_2.length c0_2] 25 (0, 0)) bK451_ hb); have n1_ := Aside0.mk (below_step hS_ hb); clear BK451; clear HB; have BK451 := n0_; have HB := n1_; clear n0_ n1_; (try clear hb); (try clear hb2); (try clear hk); (try clear hi)))
  go_ret
  exact ⟨rG_, hS_⟩
 ·rw [if_neg c3] at H
  have c3b0 : decide (t452 < 0) = false := decide_eq_false c3
  clear c3
  replace H := Option.bind_eq_some_iff.mp H
  obtain ⟨⟨t453, t456, t457⟩, A70, H⟩ := H
  replace H : ((spec_OrderOf.f k t453 t456 t457).bind fun t460 => ((laws_toFunc.f k l0_0 a0_1 l0_2).bind fun bt463 => ((impl_OrderOf.f k bt463.1 bt463.2.1 bt463.2.2).bind fun t471 => ((laws_eqInt64S.f k t471 t460).bind fun t474 => (if t474 = true then ((laws_toFunc.f k l0_0 a0_1 l0_2).bind fun bt475 => ((laws_eqFunc.f k bt463.1 bt463.2.1 bt463.2.2 bt475.1 bt475.2.1 bt475.2.2).bind fun t482 => (if t482 = true then ((laws_markFunc.f bt463.1 bt463.2.1 bt463.2.2 1).bind fun t483 => (if t483 < 0 then (laws_FnExactOrderOf.j0 k t460 t471 true l0_0 a0_1 l0_2) else ((laws_eqInt64S.f k t471 t460).bind fun t484 => (laws_FnExactOrderOf.j0 k t460 t471 (!t484) l0_0 a0_1 l0_2)))) else (some false)))) else (some false)))))) = some r := H
  have A7 := Aside0.mk A70
  clear A70
  replace H := Option.bind_eq_some_iff.mp H
  obtain ⟨t460, A80, H⟩ := H
  replace H : ((laws_toFunc.f k l0_0 a0_1 l0_2).bind fun bt463 => ((impl_OrderOf.f k bt463.1 bt463.2.1 bt463.2.2).bind fun t471 => ((laws_eqInt64S.f k t471 t460).bind fun t474 => (if t474 = true then ((laws_toFunc.f k l0_0 a0_1 l0_2).bind fun bt475 => ((laws_eqFunc.f k bt463.1 bt463.2.1 bt463.2.2 bt475.1 bt475.2.1 bt475.2.2).bind fun t482 => (if t482 = true then ((laws_markFunc.f bt463.1 bt463.2.1 bt463.2.2 1).bind fun t483 => (if t483 < 0 then (laws_FnExactOrderOf.j0 k t460 t471 true l0_0 a0_1 l0_2) else ((laws_eqInt64S.f k t471 t460).bind fun t484 => (laws_FnExactOrderOf.j0 k t460 t471 (!t484) l0_0 a0_1 l0_2)))) else (some false)))) else (some false))))) = some r := H
  have A8 := Aside0.mk A80
  clear A80
  replace H := Option.bind_eq_some_iff.mp H
  obtain ⟨⟨t463, t466, t467⟩, A90, H⟩ := H
  replace H : ((impl_OrderOf.f k t463 t466 t467).bind fun t471 => ((laws_eqInt64S.f k t471 t460).bind fun t474 => (if t474 = true then ((laws_toFunc.f k l0_0 a0_1 l0_2).bind fun bt475 => ((laws_eqFunc.f k t463 t466 t467 bt475.1 bt475.2.1 bt475.2.2).bind fun t482 => (if t482 = true then ((laws_markFunc.f t463 t466 t467 1).bind fun t483 => (if t483 < 0 then (laws_FnExactOrderOf.j0 k t460 t471 true l0_0 a0_1 l0_2) else ((laws_eqInt64S.f k t471 t460).bind fun t484 => (laws_FnExactOrderOf.j0 k t460 t471 (!t484) l0_0 a0_1 l0_2)))) else (some false)))) else (some false)))) = some r := H
  have A9 := Aside0.mk A90
  clear A90
  replace H := Option.bind_eq_some_iff.mp H
  obtain ⟨t471, A100, H⟩ := H
  replace H : ((laws_eqInt64S.f k t471 t460).bind fun t474 => (if t474 = true then ((laws_toFunc.f k l0_0 a0_1 l0_2).bind fun bt475 => ((laws_eqFunc.f k t463 t466 t467 bt475.1 bt475.2.1 bt475.2.2).bind fun t482 => (if t482 = true then ((laws_markFunc.f t463 t466 t467 1).bind fun t483 => (if t483 < 0 then (laws_FnExactOrderOf.j0 k t460 t471 true l0_0 a0_1 l0_2) else ((laws_eqInt64S.f k t471 t460).bind fun t484 => (laws_FnExactOrderOf.j0 k t460 t471 (!t484) l0_0 a0_1 l0_2)))) else (some false)))) else (some false))) = some r := H
  have A10 := Aside0.mk A100
  clear A100
  replace H := Option.bind_eq_some_iff.mp H
  obtain ⟨t474, A110, H⟩ := H
  replace H : (if t474 = true then ((laws_toFunc.f k l0_0 a0_1 l0_2).bind fun bt475 => ((laws_eqFunc.f k t463 t466 t467 bt475.1 bt475.2.1 bt475.2.2).bind fun t482 => (if t482 = true then ((laws_markFunc.f t463 t466 t467 1).bind fun t483 => (if t483 < 0 then (laws_FnExactOrderOf.j0 k t460 t471 true l0_0 a0_1 l0_2) else ((laws_eqInt64S.f k t471 t460).bind fun t484 => (laws_FnExactOrderOf.j0 k t460 t471 (!t484) l0_0 a0_1 l0_2)))) else (some false)))) else (some false)) = some r := H
  have A11 := Aside0.mk A110
  clear A110
  by_cases c12 : t474 = true
  ·subst c12
   have H1 := (if_pos rfl).symm.trans H
   clear H
   have H := H1
   clear H1
   replace H := Option.bind_eq_some_iff.mp H
   obtain ⟨⟨t475, t478, t479⟩, A130, H⟩ := H
   replace H : ((laws_eqFunc.f k t463 t466 t467 t475 t478 t479).bind fun t482 => (if t482 = true then ((laws_markFunc.f t463 t466 t467 1).bind fun t483 => (if t483 < 0 then (laws_FnExactOrderOf.j0 k t460 t471 true l0_0 a0_1 l0_2) else ((laws_eqInt64S.f k t471 t460).bind fun t484 => (laws_FnExactOrderOf.j0 k t460 t471 (!t484) l0_0 a0_1 l0_2)))) else (some false))) = some r := H
   have A13 := Aside0.mk A130
   clear A130
   replace H := Option.bind_eq_some_iff.mp H
   obtain ⟨t482, A140, H⟩ := H
   replace H : (if t482 = true then ((laws_markFunc.f t463 t466 t467 1).bind fun t483 => (if t483 < 0 then (laws_FnExactOrderOf.j0 k t460 t471 true l0_0 a0_1 l0_2) else ((laws_eqInt64S.f k t471 t460).bind fun t484 => (laws_FnExactOrderOf.j0 k t460 t471 (!t484) l0_0 a0_1 l0_2)))) else (some false)) = some r := H
   have A14 := Aside0.mk A140
   clear A140
   by_cases c15 : t482 = true
   ·subst c15
    have H1 := (if_pos rfl).symm.trans H
    clear H
    have H := H1
    clear H1
    replace H := Option.bind_eq_some_iff.mp H
    obtain ⟨t483, A160, H⟩ := H
    replace H : (if t483 < 0 then (laws_FnExactOrderOf.j0 k t460 t471 true l0_0 a0_1 l0_2) else ((laws_eqInt64S.f k t471 t460).bind fun t484 => (laws_FnExactOrderOf.j0 k t460 t471 (!t484) l0_0 a0_1 l0_2))) = some r := H
    have A16 := Aside0.mk A160
    clear A160
    have HC17 := Aside0.mk H
    clear H
    go_enter Try.func4, Try.ntmps4
    try go_wp2_with (first | ((with_reducible refine gate_dst (N := 1) rfl ?_); refine box_event ?hg (N := 1) ?hd (cs := #[.slice A0_0 l0_0.length c0_0, .int .i64 a0_1, .slice A0_2 l0_2.length c0_2]) (t := 25) ?hr ?_; (case hd => rfl); (case hg => rfl); (case hr => first | (go_simp; done) | (go_simp; rfl)); intro gb451 hg w18 hbox hb; have n0_ := Aside0.mk (below_step hB_ hb); have n1_ := Aside0.mk (hbox); have n2_ := Aside0.mk ((sz_ hg (below_size hB_) : w.heap.size ≤ gb451)); have n3_ := Aside0.mk ((sz_ hg (below_size hB_) : w.heap.size ≤ gb451)); clear HB; have HB := n0_; have BK451 := n1_; have GW451 := n2_; have GE451 := n3_; clear n0_ n1_ n2_ n3_; clear hb hbox hg; obtain ⟨hcz19_0, hcz19_1, hcz19_2, hfz19_0, hfz19_1, hfz19_2⟩ := blkc3_ BK451.out) | ((with_reducible refine gate_callee (f := 7) rfl ?_); refine gL_ (some 13) Try.func7 #[.agg #[.slice A0_0 l0_0.length c0_0, .int .i64 a0_1, .slice A0_2 l0_2.length c0_2], .int .i64 1048576] ?_; (with_reducible refine (laws_szFunc.calls k _ _ l0_0 a0_1 _ _ l0_2 1048576 t452 _ ?side1 ?side2 ?side3 ?side4 A2.out).mono ?_); (case side1 => exact cHR0_0_); (case side2 => exact HC0_0.out); (case side3 => exact cHR0_2_); (case side4 => exact HC0_2.out); rintro e w20 ⟨rfl, hb⟩; refine ⟨_, rfl, ?_⟩; have n0_ := Aside0.mk (blk_below (g := gb451) (o := .cells #[.slice A0_0 l0_0.length c0_0, .int .i64 a0_1, .slice A0_2 l0_2.length c0_2] 25 (0, 0)) bK451_ hb); have n1_ := Aside0.mk (below_step hS_ hb); clear BK451; clear HB; have BK451 := n0_; have HB := n1_; clear n0_ n1_; (try clear hb); (try clear hb2); (try clear hk); (try clear hi); obtain ⟨hcz21_0, hcz21_1, hcz21_2, hfz21_0, hfz21_1, hfz21_2⟩ := blkc3_ BK451.out) | ((with_reducible refine gate_callee (f := 9) rfl ?_); refine gL_ (some 17) Try.func9 #[.agg #[.slice A0_0 l0_0.length c0_0, .int .i64 a0_1, .slice A0_2 l0_2.length c0_2]] ?_; (with_reducible refine (laws_toFunc.calls k _ _ l0_0 a0_1 _ _ l0_2 t453 t456 t457 _ ?side1 ?side2 ?side3 ?side4 A7.out).mono ?_); (case side1 => exact cHR0_0_); (case side2 => exact HC0_0.out); (case side3 => exact cHR0_2_); (case side4 => exact HC0_2.out); rintro e w22 ⟨v454, v458, rfl, ho0, ho1, hb⟩; refine ⟨_, rfl, ?_⟩; have n0_ := Aside0.mk (Kd.R_lower ho0 (below_size hS_)); have n1_ := Aside0.mk (Kd.R_lower ho1 (below_size hS_)); have n2_ := Aside0.mk (blk_below (g := gb451) (o := .cells #[.slice A0_0 l0_0.length c0_0, .int .i64 a0_1, .slice A0_2 l0_2.length c0_2] 25 (0, 0)) bK451_ hb); have n3_ := Aside0.mk (below_step hS_ hb); clear BK451; clear HB; have HO455 := n0_; have HO459 := n1_; have BK451 := n2_; have HB := n3_; clear n0_ n1_ n2_ n3_; (try clear hb); (try clear hb2); (try clear hk); (try clear hi); (try clear ho0); (try clear ho1); obtain ⟨Ao23, co23, eo23⟩ := Kd.R_slice HO455.out; subst eo23; obtain ⟨Ao24, co24, eo24⟩ := Kd.R_slice HO459.out; subst eo24) | ((with_reducible refine gate_callee (f := 16) rfl ?_); refine gL_ (some 18) Try.func16 #[.agg #[.slice Ao23 t453.length co23, .int .i64 t456, .slice Ao24 t457.length co24]] ?_; (with_reducible refine (spec_OrderOf.calls k _ _ t453 t456 _ _ t457 t460 _ ?side1 ?side2 ?side3 ?side4 A8.out).mono ?_); (case side1 => repeat (first | exact (Kd.R_reads' HO455.out).2.2 | (with_reducible refine Kd.C_alloc ?_ _) | (with_reducible refine Kd.C_drewN ?_ _) | (with_reducible refine Kd.C_drew ?_))); (case side2 => exact (Kd.R_reads' HO455.out).2.1); (case side3 => repeat (first | exact (Kd.R_reads' HO459.out).2.2 | (with_reducible refine Kd.C_alloc ?_ _) | (with_reducible refine Kd.C_drewN ?_ _) | (with_reducible refine Kd.C_drew ?_))); (case side4 => exact (Kd.R_reads' HO459.out).2.1); rintro e w25 ⟨v461, rfl, ho0, hb⟩; refine ⟨_, rfl, ?_⟩; have n0_ := Aside0.mk (Kd.R_elder' rHO455_ (Kd.R_base ho0) hb); have n1_ := Aside0.mk (Kd.R_elder' rHO459_ (Kd.R_base ho0) hb); have n2_ := Aside0.mk (Kd.R_lower (Kd.R_new' ho0 (Kd.R_lt rHO455_)) (below_size hS_)); have n3_ := Aside0.mk (blk_below (g := gb451) (o := .cells #[.slice A0_0 l0_0.length c0_0, .int .i64 a0_1, .slice A0_2 l0_2.length c0_2] 25 (0, 0)) bK451_ hb); have n4_ := Aside0.mk (below_step hS_ hb); clear HO455; clear HO459; clear BK451; clear HB; have HO455 := n0_; have HO459 := n1_; have HO462 := n2_; have BK451 := n3_; have HB := n4_; clear n0_ n1_ n2_ n3_ n4_; (try clear hb); (try clear hb2); (try clear hk); (try clear hi); (try clear ho0); obtain ⟨hcz26_0, hcz26_1, hcz26_2, hfz26_0, hfz26_1, hfz26_2⟩ := blkc3_ BK451.out) | ((with_reducible refine gate_callee (f := 9) rfl ?_); refine gL_ (some 20) Try.func9 #[.agg #[.slice A0_0 l0_0.length c0_0, .int .i64 a0_1, .slice A0_2 l0_2.length c0_2]] ?_; (with_reducible refine (laws_toFunc.calls k _ _ l0_0 a0_1 _ _ l0_2 t463 t466 t467 _ ?side1 ?side2 ?side3 ?side4 A9.out).mono ?_); (case side1 => exact cHR0_0_); (case side2 => exact HC0_0.out); (case side3 => exact cHR0_2_); (case side4 => exact HC0_2.out); rintro e w27 ⟨v464, v468, rfl, ho0, ho1, hb⟩; refine ⟨_, rfl, ?_⟩; have n0_ := Aside0.mk (Kd.R_elder' rHO455_ (Kd.R_base ho0) hb); have n1_ := Aside0.mk (Kd.R_mono (Kd.R_told (Kd.R_told (Kd.R_old rHO459_ hb) (Kd.R_base ho0)) (Kd.R_base ho1)) (fun _ h_ => h_.1)); have n2_ := Aside0.mk (Kd.R_elder' rHO462_ (Kd.R_base ho0) hb); have n3_ := Aside0.mk (Kd.R_lower (Kd.R_new' (Kd.R_new' ho0 (Kd.R_lt rHO455_)) (Kd.R_lt rHO462_)) (below_size hS_)); have n4_ := Aside0.mk (Kd.R_lower (Kd.R_new' (Kd.R_new' (Kd.R_new' ho1 (Kd.R_lt rHO455_)) (Kd.R_lt rHO459_)) (Kd.R_lt rHO462_)) (below_size hS_)); have n5_ := Aside0.mk (blk_below (g := gb451) (o := .cells #[.slice A0_0 l0_0.length c0_0, .int .i64 a0_1, .slice A0_2 l0_2.length c0_2] 25 (0, 0)) bK451_ hb); have n6_ := Aside0.mk (below_step hS_ hb); clear HO455; clear HO459; clear HO462; clear BK451; clear HB; have HO455 := n0_; have HO459 := n1_; have HO462 := n2_; have HO465 := n3_; have HO469 := n4_; have BK451 := n5_; have HB := n6_; clear n0_ n1_ n2_ n3_ n4_ n5_ n6_; (try clear hb); (try clear hb2); (try clear hk); (try clear hi); (try clear ho0); (try clear ho1)) | ((with_reducible refine gate_dst (N := 5) rfl ?_); refine box_event ?hg (N := 5) ?hd (cs := #[.slice none 0 0, .int .i64 0, .slice none 0 0]) (t := 30) ?hr ?_; (case hd => rfl); (case hg => rfl); (case hr => first | (go_simp; done) | (go_simp; rfl)); intro gb470 hg w28 hbox hb; have n0_ := Aside0.mk (Kd.R_below rHO455_ hb); have n1_ := Aside0.mk (Kd.R_below rHO459_ hb); have n2_ := Aside0.mk (Kd.R_below rHO462_ hb); have n3_ := Aside0.mk (Kd.R_below rHO465_ hb); have n4_ := Aside0.mk (Kd.R_below rHO469_ hb); have n5_ := Aside0.mk (blk_below (g := gb451) (o := .cells #[.slice A0_0 l0_0.length c0_0, .int .i64 a0_1, .slice A0_2 l0_2.length c0_2] 25 (0, 0)) bK451_ hb); have n6_ := Aside0.mk (below_step hS_ hb); have n7_ := Aside0.mk (hbox); have n8_ := Aside0.mk ((sz_ hg (below_size hS_) : w.heap.size ≤ gb470)); have n9_ := Aside0.mk ((sz_ hg (below_size hS_) : w.heap.size ≤ gb470)); have n10_ := Aside0.mk ((by rw [hg]; exact Nat.ne_of_lt (blk_lt (g := gb451) (o := .cells #[.slice A0_0 l0_0.length c0_0, .int .i64 a0_1, .slice A0_2 l0_2.length c0_2] 25 (0, 0)) bK451_) : gb451 ≠ gb470)); have n11_ := Aside0.mk ((by rw [hg]; exact Nat.ne_of_gt (blk_lt (g := gb451) (o := .cells #[.slice A0_0 l0_0.length c0_0, .int .i64 a0_1, .slice A0_2 l0_2.length c0_2] 25 (0, 0)) bK451_) : gb470 ≠ gb451)); clear HO455; clear HO459; clear HO462; clear HO465; clear HO469; clear BK451; clear HB; have HO455 := n0_; have HO459 := n1_; have HO462 := n2_; have HO465 := n3_; have HO469 := n4_; have BK451 := n5_; have HB := n6_; have BK470 := n7_; have GW470 := n8_; have GE470 := n9_; have NB451_470 := n10_; have NB470_451 := n11_; clear n0_ n1_ n2_ n3_ n4_ n5_ n6_ n7_ n8_ n9_ n10_ n11_; clear hb hbox hg; obtain ⟨Ao29, co29, eo29⟩ := Kd.R_slice HO465.out; subst eo29; have hnb30 := NB470_451.out; have hnc30 := NB451_470.out; obtain ⟨hcz31_0, hcz31_1, hcz31_2, hfz31_0, hfz31_1, hfz31_2⟩ := blkc3_ BK470.out; obtain ⟨Ao32, co32, eo32⟩ := Kd.R_slice HO469.out; subst eo32) | ((with_reducible refine gate_callee (f := 17) rfl ?_); refine gL_ (some 22) Try.func17 #[.agg #[.slice Ao29 t463.length co29, .int .i64 t466, .slice Ao32 t467.length co32]] ?_; (with_reducible refine (impl_OrderOf.calls k _ _ t463 t466 _ _ t467 t471 _ ?side1 ?side2 ?side3 ?side4 A10.out).mono ?_); (case side1 => refine (Kd.R_reads' (e := 2) (base := w.heap.size) (ok := fun k_ => ((True ∧ some k_ ≠ (.slice Ao23 t453.length co23 : Value).ownBlock) ∧ some k_ ≠ (v461 : Value).ownBlock)) (n := t463.length) (c := co29) ?_).2.2; exact (by (with_reducible repeat (first | apply Kd.R_alloc | apply Kd.R_drewN | apply Kd.R_drew)); exact (rf3_ HO465.out BK470.out (by decide) (.slice Ao29 t463.length co29) (.int .i64 t466) (.slice Ao32 t467.length co32)))); (case side2 => exact (Kd.R_reads' HO465.out).2.1); (case side3 => refine (Kd.R_reads' (e := 80) (base := w.heap.size) (ok := fun k_ => (((some k_ ≠ (.slice Ao29 t463.length co29 : Value).ownBlock ∧ some k_ ≠ (.slice Ao23 t453.length co23 : Value).ownBlock) ∧ some k_ ≠ (.slice Ao24 t457.length co24 : Value).ownBlock) ∧ some k_ ≠ (v461 : Value).ownBlock)) (n := t467.length) (c := co32) ?_).2.2; exact (by (with_reducible repeat (first | apply Kd.R_alloc | apply Kd.R_drewN | apply Kd.R_drew)); exact (rf3_ HO469.out BK470.out (by decide) (.slice Ao29 t463.length co29) (.int .i64 t466) (.slice Ao32 t467.length co32)))); (case side4 => exact (Kd.R_reads' HO469.out).2.1); rintro e w33 ⟨v472, rfl, ho0, hb⟩; refine ⟨_, rfl, ?_⟩; have n0_ := Aside0.mk (Kd.R_elder' (by (with_reducible repeat (first | apply Kd.R_alloc | apply Kd.R_drewN | apply Kd.R_drew)); exact (rf3_ HO455.out BK470.out (by decide) (.slice Ao29 t463.length co29) (.int .i64 t466) (.slice Ao32 t467.length co32))) (Kd.R_base ho0) hb); have n1_ := Aside0.mk (Kd.R_elder' (by (with_reducible repeat (first | apply Kd.R_alloc | apply Kd.R_drewN | apply Kd.R_drew)); exact (rf3_ HO459.out BK470.out (by decide) (.slice Ao29 t463.length co29) (.int .i64 t466) (.slice Ao32 t467.length co32))) (Kd.R_base ho0) hb); have n2_ := Aside0.mk (Kd.R_elder' (by (with_reducible repeat (first | apply Kd.R_alloc | apply Kd.R_drewN | apply Kd.R_drew)); exact (rf3_ HO462.out BK470.out (by decide) (.slice Ao29 t463.length co29) (.int .i64 t466) (.slice Ao32 t467.length co32))) (Kd.R_base ho0) hb); have n3_ := Aside0.mk (Kd.R_elder' (by (with_reducible repeat (first | apply Kd.R_alloc | apply Kd.R_drewN | apply Kd.R_drew)); exact (rf3_ HO465.out BK470.out (by decide) (.slice Ao29 t463.length co29) (.int .i64 t466) (.slice Ao32 t467.length co32))) (Kd.R_base ho0) hb); have n4_ := Aside0.mk (Kd.R_elder' (by (with_reducible repeat (first | apply Kd.R_alloc | apply Kd.R_drewN | apply Kd.R_drew)); exact (rf3_ HO469.out BK470.out (by decide) (.slice Ao29 t463.length co29) (.int .i64 t466) (.slice Ao32 t467.length co32))) (Kd.R_base ho0) hb); have n5_ := Aside0.mk (Kd.R_lower (Kd.R_new' (Kd.R_new' (Kd.R_new' ho0 (Kd.R_lt (by (with_reducible repeat (first | apply Kd.R_alloc | apply Kd.R_drewN | apply Kd.R_drew)); exact (rf3_ HO455.out BK470.out (by decide) (.slice Ao29 t463.length co29) (.int .i64 t466) (.slice Ao32 t467.length co32))))) (Kd.R_lt (by (with_reducible repeat (first | apply Kd.R_alloc | apply Kd.R_drewN | apply Kd.R_drew)); exact (rf3_ HO462.out BK470.out (by decide) (.slice Ao29 t463.length co29) (.int .i64 t466) (.slice Ao32 t467.length co32))))) (Kd.R_lt (by (with_reducible repeat (first | apply Kd.R_alloc | apply Kd.R_drewN | apply Kd.R_drew)); exact (rf3_ HO465.out BK470.out (by decide) (.slice Ao29 t463.length co29) (.int .i64 t466) (.slice Ao32 t467.length co32))))) (below_size hS_)); have n6_ := Aside0.mk (blk_below (g := gb451) (o := .cells #[.slice A0_0 l0_0.length c0_0, .int .i64 a0_1, .slice A0_2 l0_2.length c0_2] 25 (0, 0)) fK451_ hb); have n7_ := Aside0.mk (blk_below (g := gb470) (o := .cells #[.slice Ao29 t463.length co29, .int .i64 t466, .slice Ao32 t467.length co32] 30 (0, 0)) (by (with_reducible repeat (first | refine blk_drewN ?_ _ | refine blk_drew ?_ | refine blk_alloc ?_ _)); refine blk_put (cs := #[.slice Ao29 t463.length co29, .int .i64 t466, .slice none 0 0]) ?_ 2 _ rfl; (with_reducible repeat (first | refine blk_drewN ?_ _ | refine blk_drew ?_ | refine blk_alloc ?_ _)); refine blk_put (cs := #[.slice Ao29 t463.length co29, .int .i64 0, .slice none 0 0]) ?_ 1 _ rfl; (with_reducible repeat (first | refine blk_drewN ?_ _ | refine blk_drew ?_ | refine blk_alloc ?_ _)); refine blk_put (cs := #[.slice none 0 0, .int .i64 0, .slice none 0 0]) ?_ 0 _ rfl; (with_reducible repeat (first | refine blk_drewN ?_ _ | refine blk_drew ?_ | refine blk_alloc ?_ _)); exact BK470.out) hb); have n8_ := Aside0.mk (below_step hS_ hb); clear HO455; clear HO459; clear HO462; clear HO465; clear HO469; clear BK451; clear BK470; clear HB; have HO455 := n0_; have HO459 := n1_; have HO462 := n2_; have HO465 := n3_; have HO469 := n4_; have HO473 := n5_; have BK451 := n6_; have BK470 := n7_; have HB := n8_; clear n0_ n1_ n2_ n3_ n4_ n5_ n6_ n7_ n8_; (try clear hb); (try clear hb2); (try clear hk); (try clear hi); (try clear ho0); obtain ⟨Ao34, co34, eo34⟩ := Kd.R_slice HO473.out; subst eo34; obtain ⟨Ao35, co35, eo35⟩ := Kd.R_slice HO462.out; subst eo35) | ((with_reducible refine gate_callee (f := 11) rfl ?_); refine gL_ (some 25) Try.func11 #[.slice Ao34 t471.length co34, .slice Ao35 t460.length co35] ?_; (with_reducible refine (laws_eqInt64S.calls k _ _ t471 _ _ t460 true _ ?side1 ?side2 ?side3 ?side4 A11.out).mono ?_); (case side1 => repeat (first | exact (Kd.R_reads' HO473.out).2.2 | (with_reducible refine Kd.C_alloc ?_ _) | (with_reducible refine Kd.C_drewN ?_ _) | (with_reducible refine Kd.C_drew ?_))); (case side2 => exact (Kd.R_reads' HO473.out).2.1); (case side3 => repeat (first | exact (Kd.R_reads' HO462.out).2.2 | (with_reducible refine Kd.C_alloc ?_ _) | (with_reducible refine Kd.C_drewN ?_ _) | (with_reducible refine Kd.C_drew ?_))); (case side4 => exact (Kd.R_reads' HO462.out).2.1); rintro e w' ⟨rfl, ⟨nd, rfl⟩⟩; refine ⟨_, rfl, ?_⟩))
    (try (rw [drewN_self w33]; generalize hq_ : World.drewN w33 _ = w33; have n0_ : Aside0 (Kd.R (Kd.int .i64) 2 w33 w.heap.size (fun k_ => some k_ ≠ (.slice Ao35 t460.length co35 : Value).ownBlock ∧ some k_ ≠ (.slice Ao29 t463.length co29 : Value).ownBlock ∧ some k_ ≠ (.slice Ao34 t471.length co34 : Value).ownBlock) (.slice Ao23 t453.length co23) t453) := ⟨by rw [← hq_]; exact (by (with_reducible repeat (first | apply Kd.R_alloc | apply Kd.R_drewN | apply Kd.R_drew)); exact Kd.R_mono HO455.out (fun _ hk => ⟨hk.1.1.2, ⟨hk.1.2, hk.2⟩⟩))⟩; have n1_ : Aside0 (Kd.R k80 80 w33 w.heap.size (fun k_ => some k_ ≠ (.slice Ao23 t453.length co23 : Value).ownBlock ∧ some k_ ≠ (.slice Ao35 t460.length co35 : Value).ownBlock ∧ some k_ ≠ (.slice Ao29 t463.length co29 : Value).ownBlock ∧ some k_ ≠ (.slice Ao32 t467.length co32 : Value).ownBlock ∧ some k_ ≠ (.slice Ao34 t471.length co34 : Value).ownBlock) (.slice Ao24 t457.length co24) t457) := ⟨by rw [← hq_]; exact (by (with_reducible repeat (first | apply Kd.R_alloc | apply Kd.R_drewN | apply Kd.R_drew)); exact Kd.R_mono HO459.out (fun _ hk => ⟨hk.1.1.1.1, ⟨hk.1.1.1.2, ⟨hk.1.1.2, ⟨hk.1.2, hk.2⟩⟩⟩⟩))⟩; have n2_ : Aside0 (Kd.R (Kd.int .i64) 2 w33 w.heap.size (fun k_ => some k_ ≠ (.slice Ao23 t453.length co23 : Value).ownBlock ∧ some k_ ≠ (.slice Ao29 t463.length co29 : Value).ownBlock ∧ some k_ ≠ (.slice Ao34 t471.length co34 : Value).ownBlock) (.slice Ao35 t460.length co35) t460) := ⟨by rw [← hq_]; exact (by (with_reducible repeat (first | apply Kd.R_alloc | apply Kd.R_drewN | apply Kd.R_drew)); exact Kd.R_mono HO462.out (fun _ hk => ⟨hk.1.1.2, ⟨hk.1.2, hk.2⟩⟩))⟩; have n3_ : Aside0 (Kd.R (Kd.int .i64) 2 w33 w.heap.size (fun k_ => some k_ ≠ (.slice Ao23 t453.length co23 : Value).ownBlock ∧ some k_ ≠ (.slice Ao35 t460.length co35 : Value).ownBlock ∧ some k_ ≠ (.slice Ao34 t471.length co34 : Value).ownBlock) (.slice Ao29 t463.length co29) t463) := ⟨by rw [← hq_]; exact (by (with_reducible repeat (first | apply Kd.R_alloc | apply Kd.R_drewN | apply Kd.R_drew)); exact Kd.R_mono HO465.out (fun _ hk => ⟨hk.1.1.2, ⟨hk.1.2, hk.2⟩⟩))⟩; have n4_ : Aside0 (Kd.R k80 80 w33 w.heap.size (fun k_ => some k_ ≠ (.slice Ao23 t453.length co23 : Value).ownBlock ∧ some k_ ≠ (.slice Ao24 t457.length co24 : Value).ownBlock ∧ some k_ ≠ (.slice Ao35 t460.length co35 : Value).ownBlock ∧ some k_ ≠ (.slice Ao29 t463.length co29 : Value).ownBlock ∧ some k_ ≠ (.slice Ao34 t471.length co34 : Value).ownBlock) (.slice Ao32 t467.length co32) t467) := ⟨by rw [← hq_]; exact (by (with_reducible repeat (first | apply Kd.R_alloc | apply Kd.R_drewN | apply Kd.R_drew)); exact Kd.R_mono HO469.out (fun _ hk => ⟨hk.1.1.1.2, ⟨hk.1.1.2, ⟨hk.1.2, ⟨hk.1.1.1.1, hk.2⟩⟩⟩⟩))⟩; have n5_ : Aside0 (Kd.R (Kd.int .i64) 2 w33 w.heap.size (fun k_ => some k_ ≠ (.slice Ao23 t453.length co23 : Value).ownBlock ∧ some k_ ≠ (.slice Ao35 t460.length co35 : Value).ownBlock ∧ some k_ ≠ (.slice Ao29 t463.length co29 : Value).ownBlock) (.slice Ao34 t471.length co34) t471) := ⟨by rw [← hq_]; exact (by (with_reducible repeat (first | apply Kd.R_alloc | apply Kd.R_drewN | apply Kd.R_drew)); exact Kd.R_mono HO473.out (fun _ hk => ⟨hk.1.1.2, ⟨hk.1.2, hk.2⟩⟩))⟩; have n6_ : Aside0 (w33.heap[gb451]? = some (.cells #[.slice A0_0 l0_0.length c0_0, .int .i64 a0_1, .slice A0_2 l0_2.length c0_2] 25 (0, 0))) := ⟨by rw [← hq_]; exact bK451_⟩; have n7_ : Aside0 (w33.heap[gb470]? = some (.cells #[.slice Ao29 t463.length co29, .int .i64 t466, .slice Ao32 t467.length co32] 30 (0, 0))) := ⟨by rw [← hq_]; exact bK470_⟩; have n8_ : Aside0 (Below w.heap.size w w33) := ⟨by rw [← hq_]; exact hS_⟩; clear HO455 HO459 HO462 HO465 HO469 HO473 BK451 BK470 HB hq_; have HO455 := n0_; have HO459 := n1_; have HO462 := n2_; have HO465 := n3_; have HO469 := n4_; have HO473 := n5_; have BK451 := n6_; have BK470 := n7_; have HB := n8_; clear n0_ n1_ n2_ n3_ n4_ n5_ n6_ n7_ n8_))
    have n0_ := Aside0.mk (Kd.R_drew HO455.out)
    have n1_ := Aside0.mk (Kd.R_drew HO459.out)
    have n2_ := Aside0.mk (Kd.R_drew HO462.out)
    have n3_ := Aside0.mk (Kd.R_drew HO465.out)
    have n4_ := Aside0.mk (Kd.R_drew HO469.out)
    have n5_ := Aside0.mk (Kd.R_drew HO473.out)
    have n6_ := Aside0.mk (blk_drew BK451.out)
    have n7_ := Aside0.mk (blk_drew BK470.out)
    have n8_ := Aside0.mk (below_drew1 HB.out)
    clear HO455
    clear HO459
    clear HO462
    clear HO465
    clear HO469
    clear HO473
    clear BK451
    clear BK470
    clear HB
    have HO455 := n0_
    have HO459 := n1_
    have HO462 := n2_
    have HO465 := n3_
    have HO469 := n4_
    have HO473 := n5_
    have BK451 := n6_
    have BK470 := n7_
    have HB := n8_
    clear n0_ n1_ n2_ n3_ n4_ n5_ n6_ n7_ n8_
    refine start_ (n := 5) (S := fun w' => w'.cell? ⟨gb470, 0, none⟩ = some (.slice Ao29 t463.length co29) ∧ w'.cell? ⟨gb470, 1, none⟩ = some (.int .i64 t466) ∧ w'.cell? ⟨gb470, 2, none⟩ = some (.slice Ao32 t467.length co32) ∧ w'.cell? ⟨gb451, 0, none⟩ = some (.slice A0_0 l0_0.length c0_0) ∧ w'.cell? ⟨gb451, 1, none⟩ = some (.int .i64 a0_1) ∧ w'.cell? ⟨gb451, 2, none⟩ = some (.slice A0_2 l0_2.length c0_2)) (ds := []) #[false, false, false, false, false] (by kernel_rfl) rfl rfl ⟨(blk_cell BK470.out 0).trans rfl, (blk_cell BK470.out 1).trans rfl, (blk_cell BK470.out 2).trans rfl, (blk_cell BK451.out 0).trans rfl, (blk_cell BK451.out 1).trans rfl, (blk_cell BK451.out 2).trans rfl⟩ (fun hHeld => ?_)
    generalize w33.drew = w36 at HO455 HO459 HO462 HO465 HO469 HO473 BK451 BK470 HB hHeld ⊢
    refine take_ (i := 0) (N := some 27) (v := ?_) (a' := ?_) #[true, false, false, false, false] rfl rfl (by kernel_rfl) (fun _ _ _ h => h) (Or.inl ⟨by rfl, ?_⟩) hHeld ?_ ?_
    rotate_left
    ·rintro w' ⟨s0, s1, s2, s3, s4, s5⟩
     go_simp
     with_reducible rfl
    rotate_left
    ·simp only [Act.put, List.setIfInBounds_toArray, List.set_cons_zero, List.set_cons_succ, i64_w, i32_w]
     rfl
    refine take_ (i := 1) (N := some 28) (v := ?_) (a' := ?_) #[true, true, false, false, false] rfl rfl (by kernel_rfl) (fun _ _ _ h => h) (Or.inl ⟨by rfl, ?_⟩) hHeld ?_ ?_
    rotate_left
    ·rintro w' ⟨s0, s1, s2, s3, s4, s5⟩
     go_simp
     with_reducible rfl
    rotate_left
    ·simp only [Act.put, List.setIfInBounds_toArray, List.set_cons_zero, List.set_cons_succ, i64_w, i32_w]
     rfl
    refine one_ (i := 2) (N := some 29) #[true, true, true, false, false] rfl rfl (by kernel_rfl) (by decide) (fun K hK => ?_)
    refine goes_ Try.func9 (by kernel_rfl) rfl #[.agg #[.slice A0_0 l0_0.length c0_0, .int .i64 a0_1, .slice A0_2 l0_2.length c0_2]] (by rfl) rfl rfl (by (try simp only [List.map_toArray, List.map_cons, List.map_nil]); first | done | rfl | (simp only [List.length_drop, List.length_take]; rfl)) ?_
    with_reducible refine (laws_toFunc.calls k _ _ l0_0 a0_1 _ _ l0_2 t475 t478 t479 _ ?side1 ?side2 ?side3 ?side4 A13.out).mono ?_
    (case side1 => exact cHR0_0_)
    (case side2 => exact HC0_0.out)
    (case side3 => exact cHR0_2_)
    (case side4 => exact HC0_2.out)
    rintro e w37 ⟨v476, v480, rfl, ho0, ho1, hb⟩
    refine ⟨_, rfl, ?_⟩
    have n0_ := Aside0.mk (Kd.R_elder' rHO455_ (Kd.R_base ho0) hb)
    have n1_ := Aside0.mk (Kd.R_mono (Kd.R_told (Kd.R_told (Kd.R_old rHO459_ hb) (Kd.R_base ho0)) (Kd.R_base ho1)) (fun _ h_ => h_.1))
    have n2_ := Aside0.mk (Kd.R_elder' rHO462_ (Kd.R_base ho0) hb)
    have n3_ := Aside0.mk (Kd.R_elder' rHO465_ (Kd.R_base ho0) hb)
    have n4_ := Aside0.mk (Kd.R_mono (Kd.R_told (Kd.R_told (Kd.R_old rHO469_ hb) (Kd.R_base ho0)) (Kd.R_base ho1)) (fun _ h_ => h_.1))
    have n5_ := Aside0.mk (Kd.R_elder' rHO473_ (Kd.R_base ho0) hb)
    have n6_ := Aside0.mk (Kd.R_lower (Kd.R_new' (Kd.R_new' (Kd.R_new' (Kd.R_new' ho0 (Kd.R_lt rHO455_)) (Kd.R_lt rHO462_)) (Kd.R_lt rHO465_)) (Kd.R_lt rHO473_)) (below_size hS_))
    have n7_ := Aside0.mk (Kd.R_lower (Kd.R_new' (Kd.R_new' (Kd.R_new' (Kd.R_new' (Kd.R_new' (Kd.R_new' ho1 (Kd.R_lt rHO455_)) (Kd.R_lt rHO459_)) (Kd.R_lt rHO462_)) (Kd.R_lt rHO465_)) (Kd.R_lt rHO469_)) (Kd.R_lt rHO473_)) (below_size hS_))
    have n8_ := Aside0.mk (blk_below (g := gb451) (o := .cells #[.slice A0_0 l0_0.length c0_0, .int .i64 a0_1, .slice A0_2 l0_2.length c0_2] 25 (0, 0)) bK451_ hb)
    have n9_ := Aside0.mk (blk_below (g := gb470) (o := .cells #[.slice Ao29 t463.length co29, .int .i64 t466, .slice Ao32 t467.length co32] 30 (0, 0)) bK470_ hb)
    have n10_ := Aside0.mk (below_step hS_ hb)
    clear HO455
    clear HO459
    clear HO462
    clear HO465
    clear HO469
    clear HO473
    clear BK451
    clear BK470
    clear HB
    have HO455 := n0_
    have HO459 := n1_
    have HO462 := n2_
    have HO465 := n3_
    have HO469 := n4_
    have HO473 := n5_
    have HO477 := n6_
    have HO481 := n7_
    have BK451 := n8_
    have BK470 := n9_
    have HB := n10_
    clear n0_ n1_ n2_ n3_ n4_ n5_ n6_ n7_ n8_ n9_ n10_
    (try clear hb)
    (try clear hb2)
    (try clear hk)
    (try clear hi)
    (try clear ho0)
    (try clear ho1)
    obtain ⟨Ao38, co38, eo38⟩ := Kd.R_slice HO477.out
    (first | subst eo38 | (injection eo38 with f1_ f2_ f3_; have f4_ := f1_.symm; have f5_ := f3_.symm; clear f1_ f2_ f3_; subst f4_; subst f5_))
    obtain ⟨Ao39, co39, eo39⟩ := Kd.R_slice HO481.out
    (first | subst eo39 | (injection eo39 with f1_ f2_ f3_; have f4_ := f1_.symm; have f5_ := f3_.symm; clear f1_ f2_ f3_; subst f4_; subst f5_))
    refine hK.out _ _ ⟨(blk_cell BK470.out 0).trans rfl, (blk_cell BK470.out 1).trans rfl, (blk_cell BK470.out 2).trans rfl, (blk_cell BK451.out 0).trans rfl, (blk_cell BK451.out 1).trans rfl, (blk_cell BK451.out 2).trans rfl⟩ (fun hHeld => ?_)
    clear hK K
    refine norm_ (a' := ?_) ?_ ?_
    rotate_left
    ·show Act.put _ (some 29) _ = _
     simp only [Act.put, List.setIfInBounds_toArray, List.set_cons_zero, List.set_cons_succ, i64_w, i32_w]
     rfl
    refine one_ (i := 3) (N := some 30) #[true, true, true, true, false] rfl rfl (by kernel_rfl) (by decide) (fun K hK => ?_)
    refine goes_ Try.func12 (by kernel_rfl) rfl #[.agg #[.slice Ao29 t463.length co29, .int .i64 t466, .slice Ao32 t467.length co32], .agg #[.slice Ao38 t475.length co38, .int .i64 t478, .slice Ao39 t479.length co39]] (by rfl) rfl rfl (by (try simp only [List.map_toArray, List.map_cons, List.map_nil]); first | done | rfl | (simp only [List.length_drop, List.length_take]; rfl)) ?_
    with_reducible refine (laws_eqFunc.calls k _ _ t463 t466 _ _ t467 _ _ t475 t478 _ _ t479 true _ ?side1 ?side2 ?side3 ?side4 ?side5 ?side6 ?side7 ?side8 A14.out).mono ?_
    (case side1 => repeat (first | exact (Kd.R_reads' HO465.out).2.2 | (with_reducible refine Kd.C_alloc ?_ _) | (with_reducible refine Kd.C_drewN ?_ _) | (with_reducible refine Kd.C_drew ?_)))
    (case side2 => exact (Kd.R_reads' HO465.out).2.1)
    (case side3 => repeat (first | exact (Kd.R_reads' HO469.out).2.2 | (with_reducible refine Kd.C_alloc ?_ _) | (with_reducible refine Kd.C_drewN ?_ _) | (with_reducible refine Kd.C_drew ?_)))
    (case side4 => exact (Kd.R_reads' HO469.out).2.1)
    (case side5 => repeat (first | exact (Kd.R_reads' HO477.out).2.2 | (with_reducible refine Kd.C_alloc ?_ _) | (with_reducible refine Kd.C_drewN ?_ _) | (with_reducible refine Kd.C_drew ?_)))
    (case side6 => exact (Kd.R_reads' HO477.out).2.1)
    (case side7 => repeat (first | exact (Kd.R_reads' HO481.out).2.2 | (with_reducible refine Kd.C_alloc ?_ _) | (with_reducible refine Kd.C_drewN ?_ _) | (with_reducible refine Kd.C_drew ?_)))
    (case side8 => exact (Kd.R_reads' HO481.out).2.1)
    rintro e w40 ⟨rfl, hb⟩
    refine ⟨_, rfl, ?_⟩
    have n0_ := Aside0.mk (Kd.R_below rHO455_ hb)
    have n1_ := Aside0.mk (Kd.R_below rHO459_ hb)
    have n2_ := Aside0.mk (Kd.R_below rHO462_ hb)
    have n3_ := Aside0.mk (Kd.R_below rHO465_ hb)
    have n4_ := Aside0.mk (Kd.R_below rHO469_ hb)
    have n5_ := Aside0.mk (Kd.R_below rHO473_ hb)
    have n6_ := Aside0.mk (Kd.R_below rHO477_ hb)
    have n7_ := Aside0.mk (Kd.R_below rHO481_ hb)
    have n8_ := Aside0.mk (blk_below (g := gb451) (o := .cells #[.slice A0_0 l0_0.length c0_0, .int .i64 a0_1, .slice A0_2 l0_2.length c0_2] 25 (0, 0)) bK451_ hb)
    have n9_ := Aside0.mk (blk_below (g := gb470) (o := .cells #[.slice Ao29 t463.length co29, .int .i64 t466, .slice Ao32 t467.length co32] 30 (0, 0)) bK470_ hb)
    have n10_ := Aside0.mk (below_step hS_ hb)
    clear HO455
    clear HO459
    clear HO462
    clear HO465
    clear HO469
    clear HO473
    clear HO477
    clear HO481
    clear BK451
    clear BK470
    clear HB
    have HO455 := n0_
    have HO459 := n1_
    have HO462 := n2_
    have HO465 := n3_
    have HO469 := n4_
    have HO473 := n5_
    have HO477 := n6_
    have HO481 := n7_
    have BK451 := n8_
    have BK470 := n9_
    have HB := n10_
    clear n0_ n1_ n2_ n3_ n4_ n5_ n6_ n7_ n8_ n9_ n10_
    (try clear hb)
    (try clear hb2)
    (try clear hk)
    (try clear hi)
    refine hK.out _ _ ⟨(blk_cell BK470.out 0).trans rfl, (blk_cell BK470.out 1).trans rfl, (blk_cell BK470.out 2).trans rfl, (blk_cell BK451.out 0).trans rfl, (blk_cell BK451.out 1).trans rfl, (blk_cell BK451.out 2).trans rfl⟩ (fun hHeld => ?_)
    clear hK K
    refine norm_ (a' := ?_) ?_ ?_
    rotate_left
    ·show Act.put _ (some 30) _ = _
     simp only [Act.put, List.setIfInBounds_toArray, List.set_cons_zero, List.set_cons_succ, i64_w, i32_w]
     rfl
    refine pure_ (i := 4) (N := some 31) (v := ?_) (a' := ?_) #[true, true, true, true, true] rfl rfl (by kernel_rfl) (fun _ _ _ h => h) (Or.inl ⟨by rfl, ?_⟩) ?_ ?_
    rotate_left
    ·intro w'
     go_simp
     with_reducible rfl
    rotate_left
    ·simp only [Act.put, List.setIfInBounds_toArray, List.set_cons_zero, List.set_cons_succ, i64_w, i32_w]
     rfl
    refine done_ (by kernel_rfl) ?_
    obtain ⟨hcz41_0, hcz41_1, hcz41_2, hfz41_0, hfz41_1, hfz41_2⟩ := blkc3_ BK470.out
    go_upto_region 14 with (first | ((with_reducible refine gate_callee (f := 13) rfl ?_); refine gL_ (some 34) Try.func13 #[.agg #[.slice Ao29 t463.length co29, .int .i64 t466, .slice Ao32 t467.length co32], .int .i64 1] ?_; (with_reducible refine (laws_markFunc.calls (fun k_ => some k_ = (.slice Ao29 t463.length co29 : Value).ownBlock) (.slice Ao29 t463.length co29) t463 t466 ?pp_ (.slice Ao32 t467.length co32) t467 1 t483 w _ ?side1 ?side2 ?side3 A16.out).mono ?_); (case side1 => repeat (first | (with_reducible first | exact HB.out | apply below_alloc | apply pw_below_drewN | apply below_drew1 | refine below_set ?_ GE451.out | refine below_set ?_ GE470.out) | exact HB.out)); (case side2 => exact Kd.R_tight rfl HO465.out); (case side3 => exact Kd.R_bound HO469.out); rintro e w42 ⟨rfl, hb, hkp⟩; refine ⟨_, rfl, ?_⟩; have n0_ := Aside0.mk (blk_kept bK451_ hkp (fun hs_ => Or.elim hs_ (fun e_ => (fun e_ => (Kd.R_ne HO465.out BK451.out (by decide)) e_) e_) (fun e_ => mk_box BK451.out e_ (by decide)))); have n1_ := Aside0.mk (Kd.R_mono (ok' := fun k_ => some k_ ≠ (.slice Ao35 t460.length co35 : Value).ownBlock ∧ some k_ ≠ (.slice Ao34 t471.length co34 : Value).ownBlock ∧ some k_ ≠ (.slice Ao38 t475.length co38 : Value).ownBlock) (mk_row HO455.out rfl hkp (fun k_ hf_ hs_ => Or.elim hs_ (fun e_ => by have a_ := HO455.out.1 k_ hf_.symm; have b_ := HO465.out.1 k_ e_.symm; first | (simp only [hf_, ne_eq, not_true_eq_false, and_false, false_and] at b_) | (simp only [e_, ne_eq, not_true_eq_false, and_false, false_and] at a_)) (fun e_ => by have b_ := e_.1; simp only [hf_, ne_eq, not_true_eq_false, and_false, false_and] at b_))) (fun k_ hk_ => ⟨pk_, pk_, pk_⟩)); have n3_ := Aside0.mk (Kd.R_mono (ok' := fun k_ => some k_ ≠ (.slice Ao23 t453.length co23 : Value).ownBlock ∧ some k_ ≠ (.slice Ao34 t471.length co34 : Value).ownBlock ∧ some k_ ≠ (.slice Ao38 t475.length co38 : Value).ownBlock) (mk_row HO462.out rfl hkp (fun k_ hf_ hs_ => Or.elim hs_ (fun e_ => by have a_ := HO462.out.1 k_ hf_.symm; have b_ := HO465.out.1 k_ e_.symm; first | (simp only [hf_, ne_eq, not_true_eq_false, and_false, false_and] at b_) | (simp only [e_, ne_eq, not_true_eq_false, and_false, false_and] at a_)) (fun e_ => by have b_ := e_.1; simp only [hf_, ne_eq, not_true_eq_false, and_false, false_and] at b_))) (fun k_ hk_ => ⟨pk_, pk_, pk_⟩)); have n4_ := Aside0.mk (blk_kept bK470_ hkp (fun hs_ => Or.elim hs_ (fun e_ => (fun e_ => (Kd.R_ne HO465.out BK470.out (by decide)) e_) e_) (fun e_ => mk_box BK470.out e_ (by decide)))); have n5_ := Aside0.mk (Kd.R_mono (ok' := fun k_ => some k_ ≠ (.slice Ao23 t453.length co23 : Value).ownBlock ∧ some k_ ≠ (.slice Ao35 t460.length co35 : Value).ownBlock ∧ some k_ ≠ (.slice Ao38 t475.length co38 : Value).ownBlock) (mk_row HO473.out rfl hkp (fun k_ hf_ hs_ => Or.elim hs_ (fun e_ => by have a_ := HO473.out.1 k_ hf_.symm; have b_ := HO465.out.1 k_ e_.symm; first | (simp only [hf_, ne_eq, not_true_eq_false, and_false, false_and] at b_) | (simp only [e_, ne_eq, not_true_eq_false, and_false, false_and] at a_)) (fun e_ => by have b_ := e_.1; simp only [hf_, ne_eq, not_true_eq_false, and_false, false_and] at b_))) (fun k_ hk_ => ⟨pk_, pk_, pk_⟩)); have n6_ := Aside0.mk (Kd.R_mono (ok' := fun k_ => some k_ ≠ (.slice Ao23 t453.length co23 : Value).ownBlock ∧ some k_ ≠ (.slice Ao35 t460.length co35 : Value).ownBlock ∧ some k_ ≠ (.slice Ao34 t471.length co34 : Value).ownBlock) (mk_row HO477.out rfl hkp (fun k_ hf_ hs_ => Or.elim hs_ (fun e_ => by have a_ := HO477.out.1 k_ hf_.symm; have b_ := HO465.out.1 k_ e_.symm; first | (simp only [hf_, ne_eq, not_true_eq_false, and_false, false_and] at b_) | (simp only [e_, ne_eq, not_true_eq_false, and_false, false_and] at a_)) (fun e_ => by have b_ := e_.1; simp only [hf_, ne_eq, not_true_eq_false, and_false, false_and] at b_))) (fun k_ hk_ => ⟨pk_, pk_, pk_⟩)); have n8_ := Aside0.mk (hb); clear BK451; clear HO455; clear HO459; clear HO462; clear BK470; clear HO473; clear HO477; clear HO481; clear HB; clear HO465; clear HO469; have BK451 := n0_; have HO455 := n1_; have HO462 := n3_; have BK470 := n4_; have HO473 := n5_; have HO477 := n6_; have HB := n8_; clear n0_ n1_ n3_ n4_ n5_ n6_ n8_; (try clear hb); (try clear hkp)))
    (try simp only [Act.put, List.setIfInBounds_toArray, List.set_cons_zero, List.set_cons_succ])
    go_cut [42] (fun v42 wc => ∃ (kq : Nat) (x42_16 : Bool), v42 = .bool x42_16 ∧ Aside0 (laws_FnExactOrderOf.j0 kq t460 t471 x42_16 l0_0 a0_1 l0_2 = some r) ∧ Aside0 (kq ≤ k) ∧ Aside0 (Kd.R (Kd.int .i64) 2 wc w.heap.size (fun k_ => some k_ ≠ ((.slice Ao34 t471.length co34) : Value).ownBlock) (.slice Ao35 t460.length co35) t460) ∧ Aside0 (Kd.R (Kd.int .i64) 2 wc w.heap.size (fun k_ => some k_ ≠ ((.slice Ao35 t460.length co35) : Value).ownBlock) (.slice Ao34 t471.length co34) t471) ∧ Aside0 (wc.heap[gb451]? = some (.cells #[(.slice A0_0 l0_0.length c0_0), .int .i64 a0_1, (.slice A0_2 l0_2.length c0_2)] 25 (0, 0))) ∧ Aside0 (Below w.heap.size w wc))
    case first =>
     have H := HC17.out
     clear HC17
     by_cases c43 : t483 < 0
     ·rw [if_pos c43] at H
      have c43b0 : decide (t483 < 0) = true := decide_eq_true c43
      clear c43
      (first | rw [c43b0] | (simp only [i64_w, i32_w]; rw [c43b0]) | skip)
      have H' := Aside0.mk H
      clear H
      go_wp2
      go_meet
      case rel => exact ⟨_, (true), rF_, H', ⟨by first | omega | exact Nat.le_refl _⟩, ⟨by (with_reducible repeat (first | apply Kd.R_alloc | apply Kd.R_drewN | apply Kd.R_drew)); exact Kd.R_mono HO462.out (fun _ hk => hk.2.1)⟩, ⟨by (with_reducible repeat (first | apply Kd.R_alloc | apply Kd.R_drewN | apply Kd.R_drew)); exact Kd.R_mono HO473.out (fun _ hk => hk.2.1)⟩, ⟨bK451_⟩, ⟨hS_⟩⟩
     ·rw [if_neg c43] at H
      have c43b0 : decide (t483 < 0) = false := decide_eq_false c43
      clear c43
      (first | rw [c43b0] | (simp only [i64_w, i32_w]; rw [c43b0]) | skip)
      replace H := Option.bind_eq_some_iff.mp H
      obtain ⟨t484, A440, H⟩ := H
      replace H : (laws_FnExactOrderOf.j0 k t460 t471 (!t484) l0_0 a0_1 l0_2) = some r := H
      have A44 := Aside0.mk A440
      clear A440
      have H' := Aside0.mk H
      clear H
      go_wp2_with (first | (go_at_call 11; (with_reducible refine (laws_eqInt64S.calls k _ _ t471 _ _ t460 t484 _ ?side1 ?side2 ?side3 ?side4 A44.out).mono ?_); (case side1 => repeat (first | exact (Kd.R_reads' HO473.out).2.2 | (with_reducible refine Kd.C_alloc ?_ _) | (with_reducible refine Kd.C_drewN ?_ _) | (with_reducible refine Kd.C_drew ?_))); (case side2 => exact (Kd.R_reads' HO473.out).2.1); (case side3 => repeat (first | exact (Kd.R_reads' HO462.out).2.2 | (with_reducible refine Kd.C_alloc ?_ _) | (with_reducible refine Kd.C_drewN ?_ _) | (with_reducible refine Kd.C_drew ?_))); (case side4 => exact (Kd.R_reads' HO462.out).2.1); rintro e w' ⟨rfl, ⟨nd, rfl⟩⟩))
      go_meet
      case rel => exact ⟨_, (!t484), rF_, H', ⟨by first | omega | exact Nat.le_refl _⟩, ⟨by (with_reducible repeat (first | apply Kd.R_alloc | apply Kd.R_drewN | apply Kd.R_drew)); exact Kd.R_mono HO462.out (fun _ hk => hk.2.1)⟩, ⟨by (with_reducible repeat (first | apply Kd.R_alloc | apply Kd.R_drewN | apply Kd.R_drew)); exact Kd.R_mono HO473.out (fun _ hk => hk.2.1)⟩, ⟨bK451_⟩, ⟨hS_⟩⟩
    case rest =>
     clear HC17
     try clear c1
     try clear p2
     try clear c3
     try clear c3b0
     try clear c4
     try clear c7
     try clear c9
     try clear c11
     try clear c12
     try clear c13
     try clear c15
     try clear c16
     try clear c17
     try clear c30
     try clear c43
     try clear c43b0
     try clear hcz19_0 hcz19_1 hcz19_2 hfz19_0 hfz19_1 hfz19_2
     try clear hcz21_0 hcz21_1 hcz21_2 hfz21_0 hfz21_1 hfz21_2
     try clear hcz26_0 hcz26_1 hcz26_2 hfz26_0 hfz26_1 hfz26_2
     try clear hcz31_0 hcz31_1 hcz31_2 hfz31_0 hfz31_1 hfz31_2
     try clear hcz41_0 hcz41_1 hcz41_2 hfz41_0 hfz41_1 hfz41_2
     try clear hcz5_0 hcz5_1 hcz5_2 hfz5_0 hfz5_1 hfz5_2
     obtain ⟨kq, x42_16, rfl, HA, HJ16, HO_4, HO_6, BK451, HB⟩ := hcut
     cases kq with
     | zero => exact absurd HA.out (by simp [laws_FnExactOrderOf.j0])
     | succ kj16 =>
      have H := HA.out
      clear HA
      simp only [laws_FnExactOrderOf.j0] at H
      by_cases c45 : x42_16 = true
      ·subst c45
       have H1 := (if_pos rfl).symm.trans H
       clear H
       have H := H1
       clear H1
       obtain rfl := Option.some.inj H
       go_wp2
       go_ret
       exact ⟨rG_, hS_⟩
      ·replace c45 := Bool.eq_false_iff.mpr c45
       subst c45
       have H1 := (if_neg (show ¬ (false = true) by decide)).symm.trans H
       clear H
       have H := H1
       clear H1
       replace H := Option.bind_eq_some_iff.mp H
       obtain ⟨⟨t485, t486⟩, A460, H⟩ := H
       replace H : ((laws_heldInt64S.f kj16 t486 1).bind fun t487 => (if t487 < 0 then (some false) else (if t487 = t485 then ((laws_toFunc.f kj16 l0_0 a0_1 l0_2).bind fun bt488 => ((impl_OrderOf.f kj16 bt488.1 bt488.2.1 bt488.2.2).bind fun t495 => ((laws_eqInt64S.f kj16 t495 t460).bind fun t498 => (if t498 = true then ((laws_heldInt64S.f kj16 t486 1).bind fun t499 => (if t499 < 0 then (some false) else (if t499 = t485 then (some true) else (some false)))) else (some false))))) else (some false)))) = some r := H
       have A46 := Aside0.mk A460
       clear A460
       replace H := Option.bind_eq_some_iff.mp H
       obtain ⟨t487, A470, H⟩ := H
       replace H : (if t487 < 0 then (some false) else (if t487 = t485 then ((laws_toFunc.f kj16 l0_0 a0_1 l0_2).bind fun bt488 => ((impl_OrderOf.f kj16 bt488.1 bt488.2.1 bt488.2.2).bind fun t495 => ((laws_eqInt64S.f kj16 t495 t460).bind fun t498 => (if t498 = true then ((laws_heldInt64S.f kj16 t486 1).bind fun t499 => (if t499 < 0 then (some false) else (if t499 = t485 then (some true) else (some false)))) else (some false))))) else (some false))) = some r := H
       have A47 := Aside0.mk A470
       clear A470
       by_cases c48 : t487 < 0
       ·rw [if_pos c48] at H
        have c48b0 : decide (t487 < 0) = true := decide_eq_true c48
        clear c48
        obtain rfl := Option.some.inj H
        go_wp2_with (first | ((with_reducible refine gate_callee (f := 14) rfl ?_); refine gL_ (some 45) Try.func14 #[.slice Ao34 t471.length co34, .int .i64 1] ?_; (with_reducible refine (laws_markInt64S.calls kj16 (fun k_ => some k_ = (.slice Ao34 t471.length co34 : Value).ownBlock) (.slice Ao34 t471.length co34) t471 1 t485 t486 w _ ?side1 ?side2 A46.out).mono ?_); (case side1 => repeat (first | (with_reducible first | exact HB.out | apply below_alloc | apply pw_below_drewN | apply below_drew1 | refine below_set ?_ GE451.out) | exact HB.out)); (case side2 => exact Kd.R_tight rfl HO_6.out); rintro e w49 ⟨rfl, hy0, hb, hkp⟩; refine ⟨_, rfl, ?_⟩; have n0_ := Aside0.mk (Kd.R_mono (ok' := fun k_ => some k_ ≠ (.slice Ao34 t471.length co34 : Value).ownBlock) (Kd.R_keptB (HO_4.out) hkp (fun k_ hk_ hs_ => (hk_) hs_)) (fun k_ hk_ => hk_.1)); have n1_ := Aside0.mk (Kd.R_reok rfl hy0 (fun k_ e_ => HO_6.out.1 k_ e_)); have n2_ := Aside0.mk (blk_kept bK451_ hkp (fun hs_ => (fun e_ => (Kd.R_ne HO_6.out BK451.out (by decide)) e_) hs_)); have n3_ := Aside0.mk (hb); clear HO_4; clear HO_6; clear BK451; clear HB; have HO_4 := n0_; have HO_6 := n1_; have BK451 := n2_; have HB := n3_; clear n0_ n1_ n2_ n3_; (try clear hb); (try clear hkp); (try clear hy0)) | ((with_reducible refine gate_callee (f := 15) rfl ?_); refine goesL_ (some 48) rfl rfl Try.func15 (by kernel_rfl) rfl #[.slice Ao34 t486.length co34, .int .i64 1] rfl (by (try simp only [List.map_toArray, List.map_cons, List.map_nil]); first | done | (rw [show t486.length = t471.length from (Kd.R_reads' HO_6.out).1.symm] <;> rfl) | rfl | (simp only [List.length_drop, List.length_take]; rfl)) ?_; (with_reducible refine (laws_heldInt64S.calls kj16 _ _ t486 1 t487 _ ?side1 ?side2 A47.out).mono ?_); (case side1 => repeat (first | exact (Kd.R_reads' HO_6.out).2.2 | (with_reducible refine Kd.C_alloc ?_ _) | (with_reducible refine Kd.C_drewN ?_ _) | (with_reducible refine Kd.C_drew ?_))); (case side2 => rw [show t486.length = t471.length from (Kd.R_reads' HO_6.out).1.symm]; exact (Kd.R_reads' HO_6.out).2.1); rintro e w' ⟨rfl, ⟨nd, rfl⟩⟩; refine ⟨_, rfl, ?_⟩))
        go_ret
        exact ⟨rG_, hS_⟩
       ·rw [if_neg c48] at H
        have c48b0 : decide (t487 < 0) = false := decide_eq_false c48
        clear c48
        by_cases c50 : t487 = t485
        ·rw [if_pos c50] at H
         have c50b0 : (t487 == t485) = true := beq_iff_eq.mpr c50
         have c50b1 : (t487 != t485) = false := bne_eq_false_iff_eq.mpr c50
         clear c50
         replace H := Option.bind_eq_some_iff.mp H
         obtain ⟨⟨t488, t491, t492⟩, A510, H⟩ := H
         replace H : ((impl_OrderOf.f kj16 t488 t491 t492).bind fun t495 => ((laws_eqInt64S.f kj16 t495 t460).bind fun t498 => (if t498 = true then ((laws_heldInt64S.f kj16 t486 1).bind fun t499 => (if t499 < 0 then (some false) else (if t499 = t485 then (some true) else (some false)))) else (some false)))) = some r := H
         have A51 := Aside0.mk A510
         clear A510
         replace H := Option.bind_eq_some_iff.mp H
         obtain ⟨t495, A520, H⟩ := H
         replace H : ((laws_eqInt64S.f kj16 t495 t460).bind fun t498 => (if t498 = true then ((laws_heldInt64S.f kj16 t486 1).bind fun t499 => (if t499 < 0 then (some false) else (if t499 = t485 then (some true) else (some false)))) else (some false))) = some r := H
         have A52 := Aside0.mk A520
         clear A520
         replace H := Option.bind_eq_some_iff.mp H
         obtain ⟨t498, A530, H⟩ := H
         replace H : (if t498 = true then ((laws_heldInt64S.f kj16 t486 1).bind fun t499 => (if t499 < 0 then (some false) else (if t499 = t485 then (some true) else (some false)))) else (some false)) = some r := H
         have A53 := Aside0.mk A530
         clear A530
         by_cases c54 : t498 = true
         ·subst c54
          have H1 := (if_pos rfl).symm.trans H
          clear H
          have H := H1
          clear H1
          replace H := Option.bind_eq_some_iff.mp H
          obtain ⟨t499, A550, H⟩ := H
          replace H : (if t499 < 0 then (some false) else (if t499 = t485 then (some true) else (some false))) = some r := H
          have A55 := Aside0.mk A550
          clear A550
          by_cases c56 : t499 < 0
          ·rw [if_pos c56] at H
           have c56b0 : decide (t499 < 0) = true := decide_eq_true c56
           clear c56
           obtain rfl := Option.some.inj H
           go_wp2_with (first | ((with_reducible refine gate_callee (f := 14) rfl ?_); refine gL_ (some 45) Try.func14 #[.slice Ao34 t471.length co34, .int .i64 1] ?_; (with_reducible refine (laws_markInt64S.calls kj16 (fun k_ => some k_ = (.slice Ao34 t471.length co34 : Value).ownBlock) (.slice Ao34 t471.length co34) t471 1 t485 t486 w _ ?side1 ?side2 A46.out).mono ?_); (case side1 => repeat (first | (with_reducible first | exact HB.out | apply below_alloc | apply pw_below_drewN | apply below_drew1 | refine below_set ?_ GE451.out) | exact HB.out)); (case side2 => exact Kd.R_tight rfl HO_6.out); rintro e w57 ⟨rfl, hy0, hb, hkp⟩; refine ⟨_, rfl, ?_⟩; have n0_ := Aside0.mk (Kd.R_mono (ok' := fun k_ => some k_ ≠ (.slice Ao34 t471.length co34 : Value).ownBlock) (Kd.R_keptB (HO_4.out) hkp (fun k_ hk_ hs_ => (hk_) hs_)) (fun k_ hk_ => hk_.1)); have n1_ := Aside0.mk (Kd.R_reok rfl hy0 (fun k_ e_ => HO_6.out.1 k_ e_)); have n2_ := Aside0.mk (blk_kept bK451_ hkp (fun hs_ => (fun e_ => (Kd.R_ne HO_6.out BK451.out (by decide)) e_) hs_)); have n3_ := Aside0.mk (hb); clear HO_4; clear HO_6; clear BK451; clear HB; have HO_4 := n0_; have HO_6 := n1_; have BK451 := n2_; have HB := n3_; clear n0_ n1_ n2_ n3_; (try clear hb); (try clear hkp); (try clear hy0)) | ((with_reducible refine gate_callee (f := 15) rfl ?_); refine goesL_ (some 48) rfl rfl Try.func15 (by kernel_rfl) rfl #[.slice Ao34 t486.length co34, .int .i64 1] rfl (by (try simp only [List.map_toArray, List.map_cons, List.map_nil]); first | done | (rw [show t486.length = t471.length from (Kd.R_reads' HO_6.out).1.symm] <;> rfl) | rfl | (simp only [List.length_drop, List.length_take]; rfl)) ?_; (with_reducible refine (laws_heldInt64S.calls kj16 _ _ t486 1 t487 _ ?side1 ?side2 A47.out).mono ?_); (case side1 => repeat (first | exact (Kd.R_reads' HO_6.out).2.2 | (with_reducible refine Kd.C_alloc ?_ _) | (with_reducible refine Kd.C_drewN ?_ _) | (with_reducible refine Kd.C_drew ?_))); (case side2 => rw [show t486.length = t471.length from (Kd.R_reads' HO_6.out).1.symm]; exact (Kd.R_reads' HO_6.out).2.1); rintro e w' ⟨rfl, ⟨nd, rfl⟩⟩; refine ⟨_, rfl, ?_⟩; obtain ⟨hcz58_0, hcz58_1, hcz58_2, hfz58_0, hfz58_1, hfz58_2⟩ := blkc3_ BK451.out) | ((with_reducible refine gate_callee (f := 9) rfl ?_); refine gL_ (some 55) Try.func9 #[.agg #[.slice A0_0 l0_0.length c0_0, .int .i64 a0_1, .slice A0_2 l0_2.length c0_2]] ?_; (with_reducible refine (laws_toFunc.calls kj16 _ _ l0_0 a0_1 _ _ l0_2 t488 t491 t492 _ ?side1 ?side2 ?side3 ?side4 A51.out).mono ?_); (case side1 => repeat (first | exact (Kd.C_below HR0_0.out hS_) | (with_reducible refine Kd.C_alloc ?_ _) | (with_reducible refine Kd.C_drewN ?_ _) | (with_reducible refine Kd.C_drew ?_))); (case side2 => exact HC0_0.out); (case side3 => repeat (first | exact (Kd.C_below HR0_2.out hS_) | (with_reducible refine Kd.C_alloc ?_ _) | (with_reducible refine Kd.C_drewN ?_ _) | (with_reducible refine Kd.C_drew ?_))); (case side4 => exact HC0_2.out); rintro e w59 ⟨v489, v493, rfl, ho0, ho1, hb⟩; refine ⟨_, rfl, ?_⟩; have n0_ := Aside0.mk (Kd.R_elder' rHO_4_ (Kd.R_base ho0) hb); have n1_ := Aside0.mk (Kd.R_elder' rHO_6_ (Kd.R_base ho0) hb); have n2_ := Aside0.mk (Kd.R_lower (Kd.R_new' (Kd.R_new' ho0 (Kd.R_lt rHO_4_)) (Kd.R_lt rHO_6_)) (below_size hS_)); have n3_ := Aside0.mk (Kd.R_lower (Kd.R_new' (Kd.R_new' ho1 (Kd.R_lt rHO_4_)) (Kd.R_lt rHO_6_)) (below_size hS_)); have n4_ := Aside0.mk (blk_below (g := gb451) (o := .cells #[.slice A0_0 l0_0.length c0_0, .int .i64 a0_1, .slice A0_2 l0_2.length c0_2] 25 (0, 0)) bK451_ hb); have n5_ := Aside0.mk (below_step hS_ hb); clear HO_4; clear HO_6; clear BK451; clear HB; have HO_4 := n0_; have HO_6 := n1_; have HO490 := n2_; have HO494 := n3_; have BK451 := n4_; have HB := n5_; clear n0_ n1_ n2_ n3_ n4_ n5_; (try clear hb); (try clear hb2); (try clear hk); (try clear hi); (try clear ho0); (try clear ho1); obtain ⟨Ao60, co60, eo60⟩ := Kd.R_slice HO490.out; subst eo60; obtain ⟨Ao61, co61, eo61⟩ := Kd.R_slice HO494.out; subst eo61) | ((with_reducible refine gate_callee (f := 17) rfl ?_); refine gL_ (some 56) Try.func17 #[.agg #[.slice Ao60 t488.length co60, .int .i64 t491, .slice Ao61 t492.length co61]] ?_; (with_reducible refine (impl_OrderOf.calls kj16 _ _ t488 t491 _ _ t492 t495 _ ?side1 ?side2 ?side3 ?side4 A52.out).mono ?_); (case side1 => repeat (first | exact (Kd.R_reads' HO490.out).2.2 | (with_reducible refine Kd.C_alloc ?_ _) | (with_reducible refine Kd.C_drewN ?_ _) | (with_reducible refine Kd.C_drew ?_))); (case side2 => exact (Kd.R_reads' HO490.out).2.1); (case side3 => repeat (first | exact (Kd.R_reads' HO494.out).2.2 | (with_reducible refine Kd.C_alloc ?_ _) | (with_reducible refine Kd.C_drewN ?_ _) | (with_reducible refine Kd.C_drew ?_))); (case side4 => exact (Kd.R_reads' HO494.out).2.1); rintro e w62 ⟨v496, rfl, ho0, hb⟩; refine ⟨_, rfl, ?_⟩; have n0_ := Aside0.mk (Kd.R_elder' rHO_4_ (Kd.R_base ho0) hb); have n1_ := Aside0.mk (Kd.R_elder' rHO_6_ (Kd.R_base ho0) hb); have n2_ := Aside0.mk (Kd.R_elder' rHO490_ (Kd.R_base ho0) hb); have n3_ := Aside0.mk (Kd.R_elder' rHO494_ (Kd.R_base ho0) hb); have n4_ := Aside0.mk (Kd.R_lower (Kd.R_new' (Kd.R_new' (Kd.R_new' ho0 (Kd.R_lt rHO_4_)) (Kd.R_lt rHO_6_)) (Kd.R_lt rHO490_)) (below_size hS_)); have n5_ := Aside0.mk (blk_below (g := gb451) (o := .cells #[.slice A0_0 l0_0.length c0_0, .int .i64 a0_1, .slice A0_2 l0_2.length c0_2] 25 (0, 0)) bK451_ hb); have n6_ := Aside0.mk (below_step hS_ hb); clear HO_4; clear HO_6; clear HO490; clear HO494; clear BK451; clear HB; have HO_4 := n0_; have HO_6 := n1_; have HO490 := n2_; have HO494 := n3_; have HO497 := n4_; have BK451 := n5_; have HB := n6_; clear n0_ n1_ n2_ n3_ n4_ n5_ n6_; (try clear hb); (try clear hb2); (try clear hk); (try clear hi); (try clear ho0); obtain ⟨Ao63, co63, eo63⟩ := Kd.R_slice HO497.out; subst eo63) | ((with_reducible refine gate_callee (f := 11) rfl ?_); refine gL_ (some 59) Try.func11 #[.slice Ao63 t495.length co63, .slice Ao35 t460.length co35] ?_; (with_reducible refine (laws_eqInt64S.calls kj16 _ _ t495 _ _ t460 true _ ?side1 ?side2 ?side3 ?side4 A53.out).mono ?_); (case side1 => repeat (first | exact (Kd.R_reads' HO497.out).2.2 | (with_reducible refine Kd.C_alloc ?_ _) | (with_reducible refine Kd.C_drewN ?_ _) | (with_reducible refine Kd.C_drew ?_))); (case side2 => exact (Kd.R_reads' HO497.out).2.1); (case side3 => repeat (first | exact (Kd.R_reads' HO_4.out).2.2 | (with_reducible refine Kd.C_alloc ?_ _) | (with_reducible refine Kd.C_drewN ?_ _) | (with_reducible refine Kd.C_drew ?_))); (case side4 => exact (Kd.R_reads' HO_4.out).2.1); rintro e w' ⟨rfl, ⟨nd, rfl⟩⟩; refine ⟨_, rfl, ?_⟩) | ((with_reducible refine gate_callee (f := 15) rfl ?_); refine goesL_ (some 63) rfl rfl Try.func15 (by kernel_rfl) rfl #[.slice Ao34 t486.length co34, .int .i64 1] rfl (by (try simp only [List.map_toArray, List.map_cons, List.map_nil]); first | done | (rw [show t486.length = t471.length from (Kd.R_reads' HO_6.out).1.symm] <;> rfl) | rfl | (simp only [List.length_drop, List.length_take]; rfl)) ?_; (with_reducible refine (laws_heldInt64S.calls kj16 _ _ t486 1 t499 _ ?side1 ?side2 A55.out).mono ?_); (case side1 => repeat (first | exact (Kd.R_reads' HO_6.out).2.2 | (with_reducible refine Kd.C_alloc ?_ _) | (with_reducible refine Kd.C_drewN ?_ _) | (with_reducible refine Kd.C_drew ?_))); (case side2 => rw [show t486.length = t471.length from (Kd.R_reads' HO_6.out).1.symm]; exact (Kd.R_reads' HO_6.out).2.1); rintro e w' ⟨rfl, ⟨nd, rfl⟩⟩; refine ⟨_, rfl, ?_⟩))
           go_ret
           exact ⟨rG_, hS_⟩
          ·rw [if_neg c56] at H
           have c56b0 : decide (t499 < 0) = false := decide_eq_false c56
           clear c56
           by_cases c64 : t499 = t485
           ·rw [if_pos c64] at H
            have c64b0 : (t499 == t485) = true := beq_iff_eq.mpr c64
            have c64b1 : (t499 != t485) = false := bne_eq_false_iff_eq.mpr c64
            clear c64
            obtain rfl := Option.some.inj H
            go_wp2_with (first | ((with_reducible refine gate_callee (f := 14) rfl ?_); refine gL_ (some 45) Try.func14 #[.slice Ao34 t471.length co34, .int .i64 1] ?_; (with_reducible refine (laws_markInt64S.calls kj16 (fun k_ => some k_ = (.slice Ao34 t471.length co34 : Value).ownBlock) (.slice Ao34 t471.length co34) t471 1 t485 t486 w _ ?side1 ?side2 A46.out).mono ?_); (case side1 => repeat (first | (with_reducible first | exact HB.out | apply below_alloc | apply pw_below_drewN | apply below_drew1 | refine below_set ?_ GE451.out) | exact HB.out)); (case side2 => exact Kd.R_tight rfl HO_6.out); rintro e w65 ⟨rfl, hy0, hb, hkp⟩; refine ⟨_, rfl, ?_⟩; have n0_ := Aside0.mk (Kd.R_mono (ok' := fun k_ => some k_ ≠ (.slice Ao34 t471.length co34 : Value).ownBlock) (Kd.R_keptB (HO_4.out) hkp (fun k_ hk_ hs_ => (hk_) hs_)) (fun k_ hk_ => hk_.1)); have n1_ := Aside0.mk (Kd.R_reok rfl hy0 (fun k_ e_ => HO_6.out.1 k_ e_)); have n2_ := Aside0.mk (blk_kept bK451_ hkp (fun hs_ => (fun e_ => (Kd.R_ne HO_6.out BK451.out (by decide)) e_) hs_)); have n3_ := Aside0.mk (hb); clear HO_4; clear HO_6; clear BK451; clear HB; have HO_4 := n0_; have HO_6 := n1_; have BK451 := n2_; have HB := n3_; clear n0_ n1_ n2_ n3_; (try clear hb); (try clear hkp); (try clear hy0)) | ((with_reducible refine gate_callee (f := 15) rfl ?_); refine goesL_ (some 48) rfl rfl Try.func15 (by kernel_rfl) rfl #[.slice Ao34 t486.length co34, .int .i64 1] rfl (by (try simp only [List.map_toArray, List.map_cons, List.map_nil]); first | done | (rw [show t486.length = t471.length from (Kd.R_reads' HO_6.out).1.symm] <;> rfl) | rfl | (simp only [List.length_drop, List.length_take]; rfl)) ?_; (with_reducible refine (laws_heldInt64S.calls kj16 _ _ t486 1 t487 _ ?side1 ?side2 A47.out).mono ?_); (case side1 => repeat (first | exact (Kd.R_reads' HO_6.out).2.2 | (with_reducible refine Kd.C_alloc ?_ _) | (with_reducible refine Kd.C_drewN ?_ _) | (with_reducible refine Kd.C_drew ?_))); (case side2 => rw [show t486.length = t471.length from (Kd.R_reads' HO_6.out).1.symm]; exact (Kd.R_reads' HO_6.out).2.1); rintro e w' ⟨rfl, ⟨nd, rfl⟩⟩; refine ⟨_, rfl, ?_⟩; obtain ⟨hcz66_0, hcz66_1, hcz66_2, hfz66_0, hfz66_1, hfz66_2⟩ := blkc3_ BK451.out) | ((with_reducible refine gate_callee (f := 9) rfl ?_); refine gL_ (some 55) Try.func9 #[.agg #[.slice A0_0 l0_0.length c0_0, .int .i64 a0_1, .slice A0_2 l0_2.length c0_2]] ?_; (with_reducible refine (laws_toFunc.calls kj16 _ _ l0_0 a0_1 _ _ l0_2 t488 t491 t492 _ ?side1 ?side2 ?side3 ?side4 A51.out).mono ?_); (case side1 => repeat (first | exact (Kd.C_below HR0_0.out hS_) | (with_reducible refine Kd.C_alloc ?_ _) | (with_reducible refine Kd.C_drewN ?_ _) | (with_reducible refine Kd.C_drew ?_))); (case side2 => exact HC0_0.out); (case side3 => repeat (first | exact (Kd.C_below HR0_2.out hS_) | (with_reducible refine Kd.C_alloc ?_ _) | (with_reducible refine Kd.C_drewN ?_ _) | (with_reducible refine Kd.C_drew ?_))); (case side4 => exact HC0_2.out); rintro e w67 ⟨v489, v493, rfl, ho0, ho1, hb⟩; refine ⟨_, rfl, ?_⟩; have n0_ := Aside0.mk (Kd.R_elder' rHO_4_ (Kd.R_base ho0) hb); have n1_ := Aside0.mk (Kd.R_elder' rHO_6_ (Kd.R_base ho0) hb); have n2_ := Aside0.mk (Kd.R_lower (Kd.R_new' (Kd.R_new' ho0 (Kd.R_lt rHO_4_)) (Kd.R_lt rHO_6_)) (below_size hS_)); have n3_ := Aside0.mk (Kd.R_lower (Kd.R_new' (Kd.R_new' ho1 (Kd.R_lt rHO_4_)) (Kd.R_lt rHO_6_)) (below_size hS_)); have n4_ := Aside0.mk (blk_below (g := gb451) (o := .cells #[.slice A0_0 l0_0.length c0_0, .int .i64 a0_1, .slice A0_2 l0_2.length c0_2] 25 (0, 0)) bK451_ hb); have n5_ := Aside0.mk (below_step hS_ hb); clear HO_4; clear HO_6; clear BK451; clear HB; have HO_4 := n0_; have HO_6 := n1_; have HO490 := n2_; have HO494 := n3_; have BK451 := n4_; have HB := n5_; clear n0_ n1_ n2_ n3_ n4_ n5_; (try clear hb); (try clear hb2); (try clear hk); (try clear hi); (try clear ho0); (try clear ho1); obtain ⟨Ao68, co68, eo68⟩ := Kd.R_slice HO490.out; subst eo68; obtain ⟨Ao69, co69, eo69⟩ := Kd.R_slice HO494.out; subst eo69) | ((with_reducible refine gate_callee (f := 17) rfl ?_); refine gL_ (some 56) Try.func17 #[.agg #[.slice Ao68 t488.length co68, .int .i64 t491, .slice Ao69 t492.length co69]] ?_; (with_reducible refine (impl_OrderOf.calls kj16 _ _ t488 t491 _ _ t492 t495 _ ?side1 ?side2 ?side3 ?side4 A52.out).mono ?_); (case side1 => repeat (first | exact (Kd.R_reads' HO490.out).2.2 | (with_reducible refine Kd.C_alloc ?_ _) | (with_reducible refine Kd.C_drewN ?_ _) | (with_reducible refine Kd.C_drew ?_))); (case side2 => exact (Kd.R_reads' HO490.out).2.1); (case side3 => repeat (first | exact (Kd.R_reads' HO494.out).2.2 | (with_reducible refine Kd.C_alloc ?_ _) | (with_reducible refine Kd.C_drewN ?_ _) | (with_reducible refine Kd.C_drew ?_))); (case side4 => exact (Kd.R_reads' HO494.out).2.1); rintro e w70 ⟨v496, rfl, ho0, hb⟩; refine ⟨_, rfl, ?_⟩; have n0_ := Aside0.mk (Kd.R_elder' rHO_4_ (Kd.R_base ho0) hb); have n1_ := Aside0.mk (Kd.R_elder' rHO_6_ (Kd.R_base ho0) hb); have n2_ := Aside0.mk (Kd.R_elder' rHO490_ (Kd.R_base ho0) hb); have n3_ := Aside0.mk (Kd.R_elder' rHO494_ (Kd.R_base ho0) hb); have n4_ := Aside0.mk (Kd.R_lower (Kd.R_new' (Kd.R_new' (Kd.R_new' ho0 (Kd.R_lt rHO_4_)) (Kd.R_lt rHO_6_)) (Kd.R_lt rHO490_)) (below_size hS_)); have n5_ := Aside0.mk (blk_below (g := gb451) (o := .cells #[.slice A0_0 l0_0.length c0_0, .int .i64 a0_1, .slice A0_2 l0_2.length c0_2] 25 (0, 0)) bK451_ hb); have n6_ := Aside0.mk (below_step hS_ hb); clear HO_4; clear HO_6; clear HO490; clear HO494; clear BK451; clear HB; have HO_4 := n0_; have HO_6 := n1_; have HO490 := n2_; have HO494 := n3_; have HO497 := n4_; have BK451 := n5_; have HB := n6_; clear n0_ n1_ n2_ n3_ n4_ n5_ n6_; (try clear hb); (try clear hb2); (try clear hk); (try clear hi); (try clear ho0); obtain ⟨Ao71, co71, eo71⟩ := Kd.R_slice HO497.out; subst eo71) | ((with_reducible refine gate_callee (f := 11) rfl ?_); refine gL_ (some 59) Try.func11 #[.slice Ao71 t495.length co71, .slice Ao35 t460.length co35] ?_; (with_reducible refine (laws_eqInt64S.calls kj16 _ _ t495 _ _ t460 true _ ?side1 ?side2 ?side3 ?side4 A53.out).mono ?_); (case side1 => repeat (first | exact (Kd.R_reads' HO497.out).2.2 | (with_reducible refine Kd.C_alloc ?_ _) | (with_reducible refine Kd.C_drewN ?_ _) | (with_reducible refine Kd.C_drew ?_))); (case side2 => exact (Kd.R_reads' HO497.out).2.1); (case side3 => repeat (first | exact (Kd.R_reads' HO_4.out).2.2 | (with_reducible refine Kd.C_alloc ?_ _) | (with_reducible refine Kd.C_drewN ?_ _) | (with_reducible refine Kd.C_drew ?_))); (case side4 => exact (Kd.R_reads' HO_4.out).2.1); rintro e w' ⟨rfl, ⟨nd, rfl⟩⟩; refine ⟨_, rfl, ?_⟩) | ((with_reducible refine gate_callee (f := 15) rfl ?_); refine goesL_ (some 63) rfl rfl Try.func15 (by kernel_rfl) rfl #[.slice Ao34 t486.length co34, .int .i64 1] rfl (by (try simp only [List.map_toArray, List.map_cons, List.map_nil]); first | done | (rw [show t486.length = t471.length from (Kd.R_reads' HO_6.out).1.symm] <;> rfl) | rfl | (simp only [List.length_drop, List.length_take]; rfl)) ?_; (with_reducible refine (laws_heldInt64S.calls kj16 _ _ t486 1 t499 _ ?side1 ?side2 A55.out).mono ?_); (case side1 => repeat (first | exact (Kd.R_reads' HO_6.out).2.2 | (with_reducible refine Kd.C_alloc ?_ _) | (with_reducible refine Kd.C_drewN ?_ _) | (with_reducible refine Kd.C_drew ?_))); (case side2 => rw [show t486.length = t471.length from (Kd.R_reads' HO_6.out).1.symm]; exact (Kd.R_reads' HO_6.out).2.1); rintro e w' ⟨rfl, ⟨nd, rfl⟩⟩; refine ⟨_, rfl, ?_⟩))
            go_ret
            exact ⟨rG_, hS_⟩
           ·rw [if_neg c64] at H
            have c64b0 : (t499 == t485) = false := beq_eq_false_iff_ne.mpr c64
            have c64b1 : (t499 != t485) = true := bne_iff_ne.mpr c64
            obtain rfl := Option.some.inj H
            go_wp2_with (first | ((with_reducible refine gate_callee (f := 14) rfl ?_); refine gL_ (some 45) Try.func14 #[.slice Ao34 t471.length co34, .int .i64 1] ?_; (with_reducible refine (laws_markInt64S.calls kj16 (fun k_ => some k_ = (.slice Ao34 t471.length co34 : Value).ownBlock) (.slice Ao34 t471.length co34) t471 1 t485 t486 w _ ?side1 ?side2 A46.out).mono ?_); (case side1 => repeat (first | (with_reducible first | exact HB.out | apply below_alloc | apply pw_below_drewN | apply below_drew1 | refine below_set ?_ GE451.out) | exact HB.out)); (case side2 => exact Kd.R_tight rfl HO_6.out); rintro e w72 ⟨rfl, hy0, hb, hkp⟩; refine ⟨_, rfl, ?_⟩; have n0_ := Aside0.mk (Kd.R_mono (ok' := fun k_ => some k_ ≠ (.slice Ao34 t471.length co34 : Value).ownBlock) (Kd.R_keptB (HO_4.out) hkp (fun k_ hk_ hs_ => (hk_) hs_)) (fun k_ hk_ => hk_.1)); have n1_ := Aside0.mk (Kd.R_reok rfl hy0 (fun k_ e_ => HO_6.out.1 k_ e_)); have n2_ := Aside0.mk (blk_kept bK451_ hkp (fun hs_ => (fun e_ => (Kd.R_ne HO_6.out BK451.out (by decide)) e_) hs_)); have n3_ := Aside0.mk (hb); clear HO_4; clear HO_6; clear BK451; clear HB; have HO_4 := n0_; have HO_6 := n1_; have BK451 := n2_; have HB := n3_; clear n0_ n1_ n2_ n3_; (try clear hb); (try clear hkp); (try clear hy0)) | ((with_reducible refine gate_callee (f := 15) rfl ?_); refine goesL_ (some 48) rfl rfl Try.func15 (by kernel_rfl) rfl #[.slice Ao34 t486.length co34, .int .i64 1] rfl (by (try simp only [List.map_toArray, List.map_cons, List.map_nil]); first | done | (rw [show t486.length = t471.length from (Kd.R_reads' HO_6.out).1.symm] <;> rfl) | rfl | (simp only [List.length_drop, List.length_take]; rfl)) ?_; (with_reducible refine (laws_heldInt64S.calls kj16 _ _ t486 1 t487 _ ?side1 ?side2 A47.out).mono ?_); (case side1 => repeat (first | exact (Kd.R_reads' HO_6.out).2.2 | (with_reducible refine Kd.C_alloc ?_ _) | (with_reducible refine Kd.C_drewN ?_ _) | (with_reducible refine Kd.C_drew ?_))); (case side2 => rw [show t486.length = t471.length from (Kd.R_reads' HO_6.out).1.symm]; exact (Kd.R_reads' HO_6.out).2.1); rintro e w' ⟨rfl, ⟨nd, rfl⟩⟩; refine ⟨_, rfl, ?_⟩; obtain ⟨hcz73_0, hcz73_1, hcz73_2, hfz73_0, hfz73_1, hfz73_2⟩ := blkc3_ BK451.out) | ((with_reducible refine gate_callee (f := 9) rfl ?_); refine gL_ (some 55) Try.func9 #[.agg #[.slice A0_0 l0_0.length c0_0, .int .i64 a0_1, .slice A0_2 l0_2.length c0_2]] ?_; (with_reducible refine (laws_toFunc.calls kj16 _ _ l0_0 a0_1 _ _ l0_2 t488 t491 t492 _ ?side1 ?side2 ?side3 ?side4 A51.out).mono ?_); (case side1 => repeat (first | exact (Kd.C_below HR0_0.out hS_) | (with_reducible refine Kd.C_alloc ?_ _) | (with_reducible refine Kd.C_drewN ?_ _) | (with_reducible refine Kd.C_drew ?_))); (case side2 => exact HC0_0.out); (case side3 => repeat (first | exact (Kd.C_below HR0_2.out hS_) | (with_reducible refine Kd.C_alloc ?_ _) | (with_reducible refine Kd.C_drewN ?_ _) | (with_reducible refine Kd.C_drew ?_))); (case side4 => exact HC0_2.out); rintro e w74 ⟨v489, v493, rfl, ho0, ho1, hb⟩; refine ⟨_, rfl, ?_⟩; have n0_ := Aside0.mk (Kd.R_elder' rHO_4_ (Kd.R_base ho0) hb); have n1_ := Aside0.mk (Kd.R_elder' rHO_6_ (Kd.R_base ho0) hb); have n2_ := Aside0.mk (Kd.R_lower (Kd.R_new' (Kd.R_new' ho0 (Kd.R_lt rHO_4_)) (Kd.R_lt rHO_6_)) (below_size hS_)); have n3_ := Aside0.mk (Kd.R_lower (Kd.R_new' (Kd.R_new' ho1 (Kd.R_lt rHO_4_)) (Kd.R_lt rHO_6_)) (below_size hS_)); have n4_ := Aside0.mk (blk_below (g := gb451) (o := .cells #[.slice A0_0 l0_0.length c0_0, .int .i64 a0_1, .slice A0_2 l0_2.length c0_2] 25 (0, 0)) bK451_ hb); have n5_ := Aside0.mk (below_step hS_ hb); clear HO_4; clear HO_6; clear BK451; clear HB; have HO_4 := n0_; have HO_6 := n1_; have HO490 := n2_; have HO494 := n3_; have BK451 := n4_; have HB := n5_; clear n0_ n1_ n2_ n3_ n4_ n5_; (try clear hb); (try clear hb2); (try clear hk); (try clear hi); (try clear ho0); (try clear ho1); obtain ⟨Ao75, co75, eo75⟩ := Kd.R_slice HO490.out; subst eo75; obtain ⟨Ao76, co76, eo76⟩ := Kd.R_slice HO494.out; subst eo76) | ((with_reducible refine gate_callee (f := 17) rfl ?_); refine gL_ (some 56) Try.func17 #[.agg #[.slice Ao75 t488.length co75, .int .i64 t491, .slice Ao76 t492.length co76]] ?_; (with_reducible refine (impl_OrderOf.calls kj16 _ _ t488 t491 _ _ t492 t495 _ ?side1 ?side2 ?side3 ?side4 A52.out).mono ?_); (case side1 => repeat (first | exact (Kd.R_reads' HO490.out).2.2 | (with_reducible refine Kd.C_alloc ?_ _) | (with_reducible refine Kd.C_drewN ?_ _) | (with_reducible refine Kd.C_drew ?_))); (case side2 => exact (Kd.R_reads' HO490.out).2.1); (case side3 => repeat (first | exact (Kd.R_reads' HO494.out).2.2 | (with_reducible refine Kd.C_alloc ?_ _) | (with_reducible refine Kd.C_drewN ?_ _) | (with_reducible refine Kd.C_drew ?_))); (case side4 => exact (Kd.R_reads' HO494.out).2.1); rintro e w77 ⟨v496, rfl, ho0, hb⟩; refine ⟨_, rfl, ?_⟩; have n0_ := Aside0.mk (Kd.R_elder' rHO_4_ (Kd.R_base ho0) hb); have n1_ := Aside0.mk (Kd.R_elder' rHO_6_ (Kd.R_base ho0) hb); have n2_ := Aside0.mk (Kd.R_elder' rHO490_ (Kd.R_base ho0) hb); have n3_ := Aside0.mk (Kd.R_elder' rHO494_ (Kd.R_base ho0) hb); have n4_ := Aside0.mk (Kd.R_lower (Kd.R_new' (Kd.R_new' (Kd.R_new' ho0 (Kd.R_lt rHO_4_)) (Kd.R_lt rHO_6_)) (Kd.R_lt rHO490_)) (below_size hS_)); have n5_ := Aside0.mk (blk_below (g := gb451) (o := .cells #[.slice A0_0 l0_0.length c0_0, .int .i64 a0_1, .slice A0_2 l0_2.length c0_2] 25 (0, 0)) bK451_ hb); have n6_ := Aside0.mk (below_step hS_ hb); clear HO_4; clear HO_6; clear HO490; clear HO494; clear BK451; clear HB; have HO_4 := n0_; have HO_6 := n1_; have HO490 := n2_; have HO494 := n3_; have HO497 := n4_; have BK451 := n5_; have HB := n6_; clear n0_ n1_ n2_ n3_ n4_ n5_ n6_; (try clear hb); (try clear hb2); (try clear hk); (try clear hi); (try clear ho0); obtain ⟨Ao78, co78, eo78⟩ := Kd.R_slice HO497.out; subst eo78) | ((with_reducible refine gate_callee (f := 11) rfl ?_); refine gL_ (some 59) Try.func11 #[.slice Ao78 t495.length co78, .slice Ao35 t460.length co35] ?_; (with_reducible refine (laws_eqInt64S.calls kj16 _ _ t495 _ _ t460 true _ ?side1 ?side2 ?side3 ?side4 A53.out).mono ?_); (case side1 => repeat (first | exact (Kd.R_reads' HO497.out).2.2 | (with_reducible refine Kd.C_alloc ?_ _) | (with_reducible refine Kd.C_drewN ?_ _) | (with_reducible refine Kd.C_drew ?_))); (case side2 => exact (Kd.R_reads' HO497.out).2.1); (case side3 => repeat (first | exact (Kd.R_reads' HO_4.out).2.2 | (with_reducible refine Kd.C_alloc ?_ _) | (with_reducible refine Kd.C_drewN ?_ _) | (with_reducible refine Kd.C_drew ?_))); (case side4 => exact (Kd.R_reads' HO_4.out).2.1); rintro e w' ⟨rfl, ⟨nd, rfl⟩⟩; refine ⟨_, rfl, ?_⟩) | ((with_reducible refine gate_callee (f := 15) rfl ?_); refine goesL_ (some 63) rfl rfl Try.func15 (by kernel_rfl) rfl #[.slice Ao34 t486.length co34, .int .i64 1] rfl (by (try simp only [List.map_toArray, List.map_cons, List.map_nil]); first | done | (rw [show t486.length = t471.length from (Kd.R_reads' HO_6.out).1.symm] <;> rfl) | rfl | (simp only [List.length_drop, List.length_take]; rfl)) ?_; (with_reducible refine (laws_heldInt64S.calls kj16 _ _ t486 1 t499 _ ?side1 ?side2 A55.out).mono ?_); (case side1 => repeat (first | exact (Kd.R_reads' HO_6.out).2.2 | (with_reducible refine Kd.C_alloc ?_ _) | (with_reducible refine Kd.C_drewN ?_ _) | (with_reducible refine Kd.C_drew ?_))); (case side2 => rw [show t486.length = t471.length from (Kd.R_reads' HO_6.out).1.symm]; exact (Kd.R_reads' HO_6.out).2.1); rintro e w' ⟨rfl, ⟨nd, rfl⟩⟩; refine ⟨_, rfl, ?_⟩))
            go_ret
            exact ⟨rG_, hS_⟩
         ·replace c54 := Bool.eq_false_iff.mpr c54
          subst c54
          have H1 := (if_neg (show ¬ (false = true) by decide)).symm.trans H
          clear H
          have H := H1
          clear H1
          obtain rfl := Option.some.inj H
          go_wp2_with (first | ((with_reducible refine gate_callee (f := 14) rfl ?_); refine gL_ (some 45) Try.func14 #[.slice Ao34 t471.length co34, .int .i64 1] ?_; (with_reducible refine (laws_markInt64S.calls kj16 (fun k_ => some k_ = (.slice Ao34 t471.length co34 : Value).ownBlock) (.slice Ao34 t471.length co34) t471 1 t485 t486 w _ ?side1 ?side2 A46.out).mono ?_); (case side1 => repeat (first | (with_reducible first | exact HB.out | apply below_alloc | apply pw_below_drewN | apply below_drew1 | refine below_set ?_ GE451.out) | exact HB.out)); (case side2 => exact Kd.R_tight rfl HO_6.out); rintro e w79 ⟨rfl, hy0, hb, hkp⟩; refine ⟨_, rfl, ?_⟩; have n0_ := Aside0.mk (Kd.R_mono (ok' := fun k_ => some k_ ≠ (.slice Ao34 t471.length co34 : Value).ownBlock) (Kd.R_keptB (HO_4.out) hkp (fun k_ hk_ hs_ => (hk_) hs_)) (fun k_ hk_ => hk_.1)); have n1_ := Aside0.mk (Kd.R_reok rfl hy0 (fun k_ e_ => HO_6.out.1 k_ e_)); have n2_ := Aside0.mk (blk_kept bK451_ hkp (fun hs_ => (fun e_ => (Kd.R_ne HO_6.out BK451.out (by decide)) e_) hs_)); have n3_ := Aside0.mk (hb); clear HO_4; clear HO_6; clear BK451; clear HB; have HO_4 := n0_; have HO_6 := n1_; have BK451 := n2_; have HB := n3_; clear n0_ n1_ n2_ n3_; (try clear hb); (try clear hkp); (try clear hy0)) | ((with_reducible refine gate_callee (f := 15) rfl ?_); refine goesL_ (some 48) rfl rfl Try.func15 (by kernel_rfl) rfl #[.slice Ao34 t486.length co34, .int .i64 1] rfl (by (try simp only [List.map_toArray, List.map_cons, List.map_nil]); first | done | (rw [show t486.length = t471.length from (Kd.R_reads' HO_6.out).1.symm] <;> rfl) | rfl | (simp only [List.length_drop, List.length_take]; rfl)) ?_; (with_reducible refine (laws_heldInt64S.calls kj16 _ _ t486 1 t487 _ ?side1 ?side2 A47.out).mono ?_); (case side1 => repeat (first | exact (Kd.R_reads' HO_6.out).2.2 | (with_reducible refine Kd.C_alloc ?_ _) | (with_reducible refine Kd.C_drewN ?_ _) | (with_reducible refine Kd.C_drew ?_))); (case side2 => rw [show t486.length = t471.length from (Kd.R_reads' HO_6.out).1.symm]; exact (Kd.R_reads' HO_6.out).2.1); rintro e w' ⟨rfl, ⟨nd, rfl⟩⟩; refine ⟨_, rfl, ?_⟩; obtain ⟨hcz80_0, hcz80_1, hcz80_2, hfz80_0, hfz80_1, hfz80_2⟩ := blkc3_ BK451.out) | ((with_reducible refine gate_callee (f := 9) rfl ?_); refine gL_ (some 55) Try.func9 #[.agg #[.slice A0_0 l0_0.length c0_0, .int .i64 a0_1, .slice A0_2 l0_2.length c0_2]] ?_; (with_reducible refine (laws_toFunc.calls kj16 _ _ l0_0 a0_1 _ _ l0_2 t488 t491 t492 _ ?side1 ?side2 ?side3 ?side4 A51.out).mono ?_); (case side1 => repeat (first | exact (Kd.C_below HR0_0.out hS_) | (with_reducible refine Kd.C_alloc ?_ _) | (with_reducible refine Kd.C_drewN ?_ _) | (with_reducible refine Kd.C_drew ?_))); (case side2 => exact HC0_0.out); (case side3 => repeat (first | exact (Kd.C_below HR0_2.out hS_) | (with_reducible refine Kd.C_alloc ?_ _) | (with_reducible refine Kd.C_drewN ?_ _) | (with_reducible refine Kd.C_drew ?_))); (case side4 => exact HC0_2.out); rintro e w81 ⟨v489, v493, rfl, ho0, ho1, hb⟩; refine ⟨_, rfl, ?_⟩; have n0_ := Aside0.mk (Kd.R_elder' rHO_4_ (Kd.R_base ho0) hb); have n1_ := Aside0.mk (Kd.R_elder' rHO_6_ (Kd.R_base ho0) hb); have n2_ := Aside0.mk (Kd.R_lower (Kd.R_new' (Kd.R_new' ho0 (Kd.R_lt rHO_4_)) (Kd.R_lt rHO_6_)) (below_size hS_)); have n3_ := Aside0.mk (Kd.R_lower (Kd.R_new' (Kd.R_new' ho1 (Kd.R_lt rHO_4_)) (Kd.R_lt rHO_6_)) (below_size hS_)); have n4_ := Aside0.mk (blk_below (g := gb451) (o := .cells #[.slice A0_0 l0_0.length c0_0, .int .i64 a0_1, .slice A0_2 l0_2.length c0_2] 25 (0, 0)) bK451_ hb); have n5_ := Aside0.mk (below_step hS_ hb); clear HO_4; clear HO_6; clear BK451; clear HB; have HO_4 := n0_; have HO_6 := n1_; have HO490 := n2_; have HO494 := n3_; have BK451 := n4_; have HB := n5_; clear n0_ n1_ n2_ n3_ n4_ n5_; (try clear hb); (try clear hb2); (try clear hk); (try clear hi); (try clear ho0); (try clear ho1); obtain ⟨Ao82, co82, eo82⟩ := Kd.R_slice HO490.out; subst eo82; obtain ⟨Ao83, co83, eo83⟩ := Kd.R_slice HO494.out; subst eo83) | ((with_reducible refine gate_callee (f := 17) rfl ?_); refine gL_ (some 56) Try.func17 #[.agg #[.slice Ao82 t488.length co82, .int .i64 t491, .slice Ao83 t492.length co83]] ?_; (with_reducible refine (impl_OrderOf.calls kj16 _ _ t488 t491 _ _ t492 t495 _ ?side1 ?side2 ?side3 ?side4 A52.out).mono ?_); (case side1 => repeat (first | exact (Kd.R_reads' HO490.out).2.2 | (with_reducible refine Kd.C_alloc ?_ _) | (with_reducible refine Kd.C_drewN ?_ _) | (with_reducible refine Kd.C_drew ?_))); (case side2 => exact (Kd.R_reads' HO490.out).2.1); (case side3 => repeat (first | exact (Kd.R_reads' HO494.out).2.2 | (with_reducible refine Kd.C_alloc ?_ _) | (with_reducible refine Kd.C_drewN ?_ _) | (with_reducible refine Kd.C_drew ?_))); (case side4 => exact (Kd.R_reads' HO494.out).2.1); rintro e w84 ⟨v496, rfl, ho0, hb⟩; refine ⟨_, rfl, ?_⟩; have n0_ := Aside0.mk (Kd.R_elder' rHO_4_ (Kd.R_base ho0) hb); have n1_ := Aside0.mk (Kd.R_elder' rHO_6_ (Kd.R_base ho0) hb); have n2_ := Aside0.mk (Kd.R_elder' rHO490_ (Kd.R_base ho0) hb); have n3_ := Aside0.mk (Kd.R_elder' rHO494_ (Kd.R_base ho0) hb); have n4_ := Aside0.mk (Kd.R_lower (Kd.R_new' (Kd.R_new' (Kd.R_new' ho0 (Kd.R_lt rHO_4_)) (Kd.R_lt rHO_6_)) (Kd.R_lt rHO490_)) (below_size hS_)); have n5_ := Aside0.mk (blk_below (g := gb451) (o := .cells #[.slice A0_0 l0_0.length c0_0, .int .i64 a0_1, .slice A0_2 l0_2.length c0_2] 25 (0, 0)) bK451_ hb); have n6_ := Aside0.mk (below_step hS_ hb); clear HO_4; clear HO_6; clear HO490; clear HO494; clear BK451; clear HB; have HO_4 := n0_; have HO_6 := n1_; have HO490 := n2_; have HO494 := n3_; have HO497 := n4_; have BK451 := n5_; have HB := n6_; clear n0_ n1_ n2_ n3_ n4_ n5_ n6_; (try clear hb); (try clear hb2); (try clear hk); (try clear hi); (try clear ho0); obtain ⟨Ao85, co85, eo85⟩ := Kd.R_slice HO497.out; subst eo85) | ((with_reducible refine gate_callee (f := 11) rfl ?_); refine gL_ (some 59) Try.func11 #[.slice Ao85 t495.length co85, .slice Ao35 t460.length co35] ?_; (with_reducible refine (laws_eqInt64S.calls kj16 _ _ t495 _ _ t460 false _ ?side1 ?side2 ?side3 ?side4 A53.out).mono ?_); (case side1 => repeat (first | exact (Kd.R_reads' HO497.out).2.2 | (with_reducible refine Kd.C_alloc ?_ _) | (with_reducible refine Kd.C_drewN ?_ _) | (with_reducible refine Kd.C_drew ?_))); (case side2 => exact (Kd.R_reads' HO497.out).2.1); (case side3 => repeat (first | exact (Kd.R_reads' HO_4.out).2.2 | (with_reducible refine Kd.C_alloc ?_ _) | (with_reducible refine Kd.C_drewN ?_ _) | (with_reducible refine Kd.C_drew ?_))); (case side4 => exact (Kd.R_reads' HO_4.out).2.1); rintro e w' ⟨rfl, ⟨nd, rfl⟩⟩; refine ⟨_, rfl, ?_⟩))
          go_ret
          exact ⟨rG_, hS_⟩
        ·rw [if_neg c50] at H
         have c50b0 : (t487 == t485) = false := beq_eq_false_iff_ne.mpr c50
         have c50b1 : (t487 != t485) = true := bne_iff_ne.mpr c50
         obtain rfl := Option.some.inj H
         go_wp2_with (first | ((with_reducible refine gate_callee (f := 14) rfl ?_); refine gL_ (some 45) Try.func14 #[.slice Ao34 t471.length co34, .int .i64 1] ?_; (with_reducible refine (laws_markInt64S.calls kj16 (fun k_ => some k_ = (.slice Ao34 t471.length co34 : Value).ownBlock) (.slice Ao34 t471.length co34) t471 1 t485 t486 w _ ?side1 ?side2 A46.out).mono ?_); (case side1 => repeat (first | (with_reducible first | exact HB.out | apply below_alloc | apply pw_below_drewN | apply below_drew1 | refine below_set ?_ GE451.out) | exact HB.out)); (case side2 => exact Kd.R_tight rfl HO_6.out); rintro e w86 ⟨rfl, hy0, hb, hkp⟩; refine ⟨_, rfl, ?_⟩; have n0_ := Aside0.mk (Kd.R_mono (ok' := fun k_ => some k_ ≠ (.slice Ao34 t471.length co34 : Value).ownBlock) (Kd.R_keptB (HO_4.out) hkp (fun k_ hk_ hs_ => (hk_) hs_)) (fun k_ hk_ => hk_.1)); have n1_ := Aside0.mk (Kd.R_reok rfl hy0 (fun k_ e_ => HO_6.out.1 k_ e_)); have n2_ := Aside0.mk (blk_kept bK451_ hkp (fun hs_ => (fun e_ => (Kd.R_ne HO_6.out BK451.out (by decide)) e_) hs_)); have n3_ := Aside0.mk (hb); clear HO_4; clear HO_6; clear BK451; clear HB; have HO_4 := n0_; have HO_6 := n1_; have BK451 := n2_; have HB := n3_; clear n0_ n1_ n2_ n3_; (try clear hb); (try clear hkp); (try clear hy0)) | ((with_reducible refine gate_callee (f := 15) rfl ?_); refine goesL_ (some 48) rfl rfl Try.func15 (by kernel_rfl) rfl #[.slice Ao34 t486.length co34, .int .i64 1] rfl (by (try simp only [List.map_toArray, List.map_cons, List.map_nil]); first | done | (rw [show t486.length = t471.length from (Kd.R_reads' HO_6.out).1.symm] <;> rfl) | rfl | (simp only [List.length_drop, List.length_take]; rfl)) ?_; (with_reducible refine (laws_heldInt64S.calls kj16 _ _ t486 1 t487 _ ?side1 ?side2 A47.out).mono ?_); (case side1 => repeat (first | exact (Kd.R_reads' HO_6.out).2.2 | (with_reducible refine Kd.C_alloc ?_ _) | (with_reducible refine Kd.C_drewN ?_ _) | (with_reducible refine Kd.C_drew ?_))); (case side2 => rw [show t486.length = t471.length from (Kd.R_reads' HO_6.out).1.symm]; exact (Kd.R_reads' HO_6.out).2.1); rintro e w' ⟨rfl, ⟨nd, rfl⟩⟩; refine ⟨_, rfl, ?_⟩))
         go_ret
         exact ⟨rG_, hS_⟩
   ·replace c15 := Bool.eq_false_iff.mpr c15
    subst c15
    have H1 := (if_neg (show ¬ (false = true) by decide)).symm.trans H
    clear H
    have H := H1
    clear H1
    obtain rfl := Option.some.inj H
    go_enter Try.func4, Try.ntmps4
    try go_wp2_with (first | ((with_reducible refine gate_dst (N := 1) rfl ?_); refine box_event ?hg (N := 1) ?hd (cs := #[.slice A0_0 l0_0.length c0_0, .int .i64 a0_1, .slice A0_2 l0_2.length c0_2]) (t := 25) ?hr ?_; (case hd => rfl); (case hg => rfl); (case hr => first | (go_simp; done) | (go_simp; rfl)); intro gb451 hg w87 hbox hb; have n0_ := Aside0.mk (below_step hB_ hb); have n1_ := Aside0.mk (hbox); have n2_ := Aside0.mk ((sz_ hg (below_size hB_) : w.heap.size ≤ gb451)); have n3_ := Aside0.mk ((sz_ hg (below_size hB_) : w.heap.size ≤ gb451)); clear HB; have HB := n0_; have BK451 := n1_; have GW451 := n2_; have GE451 := n3_; clear n0_ n1_ n2_ n3_; clear hb hbox hg; obtain ⟨hcz88_0, hcz88_1, hcz88_2, hfz88_0, hfz88_1, hfz88_2⟩ := blkc3_ BK451.out) | ((with_reducible refine gate_callee (f := 7) rfl ?_); refine gL_ (some 13) Try.func7 #[.agg #[.slice A0_0 l0_0.length c0_0, .int .i64 a0_1, .slice A0_2 l0_2.length c0_2], .int .i64 1048576] ?_; (with_reducible refine (laws_szFunc.calls k _ _ l0_0 a0_1 _ _ l0_2 1048576 t452 _ ?side1 ?side2 ?side3 ?side4 A2.out).mono ?_); (case side1 => exact cHR0_0_); (case side2 => exact HC0_0.out); (case side3 => exact cHR0_2_); (case side4 => exact HC0_2.out); rintro e w89 ⟨rfl, hb⟩; refine ⟨_, rfl, ?_⟩; have n0_ := Aside0.mk (blk_below (g := gb451) (o := .cells #[.slice A0_0 l0_0.length c0_0, .int .i64 a0_1, .slice A0_2 l0_2.length c0_2] 25 (0, 0)) bK451_ hb); have n1_ := Aside0.mk (below_step hS_ hb); clear BK451; clear HB; have BK451 := n0_; have HB := n1_; clear n0_ n1_; (try clear hb); (try clear hb2); (try clear hk); (try clear hi); obtain ⟨hcz90_0, hcz90_1, hcz90_2, hfz90_0, hfz90_1, hfz90_2⟩ := blkc3_ BK451.out) | ((with_reducible refine gate_callee (f := 9) rfl ?_); refine gL_ (some 17) Try.func9 #[.agg #[.slice A0_0 l0_0.length c0_0, .int .i64 a0_1, .slice A0_2 l0_2.length c0_2]] ?_; (with_reducible refine (laws_toFunc.calls k _ _ l0_0 a0_1 _ _ l0_2 t453 t456 t457 _ ?side1 ?side2 ?side3 ?side4 A7.out).mono ?_); (case side1 => exact cHR0_0_); (case side2 => exact HC0_0.out); (case side3 => exact cHR0_2_); (case side4 => exact HC0_2.out); rintro e w91 ⟨v454, v458, rfl, ho0, ho1, hb⟩; refine ⟨_, rfl, ?_⟩; have n0_ := Aside0.mk (Kd.R_lower ho0 (below_size hS_)); have n1_ := Aside0.mk (Kd.R_lower ho1 (below_size hS_)); have n2_ := Aside0.mk (blk_below (g := gb451) (o := .cells #[.slice A0_0 l0_0.length c0_0, .int .i64 a0_1, .slice A0_2 l0_2.length c0_2] 25 (0, 0)) bK451_ hb); have n3_ := Aside0.mk (below_step hS_ hb); clear BK451; clear HB; have HO455 := n0_; have HO459 := n1_; have BK451 := n2_; have HB := n3_; clear n0_ n1_ n2_ n3_; (try clear hb); (try clear hb2); (try clear hk); (try clear hi); (try clear ho0); (try clear ho1); obtain ⟨Ao92, co92, eo92⟩ := Kd.R_slice HO455.out; subst eo92; obtain ⟨Ao93, co93, eo93⟩ := Kd.R_slice HO459.out; subst eo93) | ((with_reducible refine gate_callee (f := 16) rfl ?_); refine gL_ (some 18) Try.func16 #[.agg #[.slice Ao92 t453.length co92, .int .i64 t456, .slice Ao93 t457.length co93]] ?_; (with_reducible refine (spec_OrderOf.calls k _ _ t453 t456 _ _ t457 t460 _ ?side1 ?side2 ?side3 ?side4 A8.out).mono ?_); (case side1 => repeat (first | exact (Kd.R_reads' HO455.out).2.2 | (with_reducible refine Kd.C_alloc ?_ _) | (with_reducible refine Kd.C_drewN ?_ _) | (with_reducible refine Kd.C_drew ?_))); (case side2 => exact (Kd.R_reads' HO455.out).2.1); (case side3 => repeat (first | exact (Kd.R_reads' HO459.out).2.2 | (with_reducible refine Kd.C_alloc ?_ _) | (with_reducible refine Kd.C_drewN ?_ _) | (with_reducible refine Kd.C_drew ?_))); (case side4 => exact (Kd.R_reads' HO459.out).2.1); rintro e w94 ⟨v461, rfl, ho0, hb⟩; refine ⟨_, rfl, ?_⟩; have n0_ := Aside0.mk (Kd.R_elder' rHO455_ (Kd.R_base ho0) hb); have n1_ := Aside0.mk (Kd.R_elder' rHO459_ (Kd.R_base ho0) hb); have n2_ := Aside0.mk (Kd.R_lower (Kd.R_new' ho0 (Kd.R_lt rHO455_)) (below_size hS_)); have n3_ := Aside0.mk (blk_below (g := gb451) (o := .cells #[.slice A0_0 l0_0.length c0_0, .int .i64 a0_1, .slice A0_2 l0_2.length c0_2] 25 (0, 0)) bK451_ hb); have n4_ := Aside0.mk (below_step hS_ hb); clear HO455; clear HO459; clear BK451; clear HB; have HO455 := n0_; have HO459 := n1_; have HO462 := n2_; have BK451 := n3_; have HB := n4_; clear n0_ n1_ n2_ n3_ n4_; (try clear hb); (try clear hb2); (try clear hk); (try clear hi); (try clear ho0); obtain ⟨hcz95_0, hcz95_1, hcz95_2, hfz95_0, hfz95_1, hfz95_2⟩ := blkc3_ BK451.out) | ((with_reducible refine gate_callee (f := 9) rfl ?_); refine gL_ (some 20) Try.func9 #[.agg #[.slice A0_0 l0_0.length c0_0, .int .i64 a0_1, .slice A0_2 l0_2.length c0_2]] ?_; (with_reducible refine (laws_toFunc.calls k _ _ l0_0 a0_1 _ _ l0_2 t463 t466 t467 _ ?side1 ?side2 ?side3 ?side4 A9.out).mono ?_); (case side1 => exact cHR0_0_); (case side2 => exact HC0_0.out); (case side3 => exact cHR0_2_); (case side4 => exact HC0_2.out); rintro e w96 ⟨v464, v468, rfl, ho0, ho1, hb⟩; refine ⟨_, rfl, ?_⟩; have n0_ := Aside0.mk (Kd.R_elder' rHO455_ (Kd.R_base ho0) hb); have n1_ := Aside0.mk (Kd.R_mono (Kd.R_told (Kd.R_told (Kd.R_old rHO459_ hb) (Kd.R_base ho0)) (Kd.R_base ho1)) (fun _ h_ => h_.1)); have n2_ := Aside0.mk (Kd.R_elder' rHO462_ (Kd.R_base ho0) hb); have n3_ := Aside0.mk (Kd.R_lower (Kd.R_new' (Kd.R_new' ho0 (Kd.R_lt rHO455_)) (Kd.R_lt rHO462_)) (below_size hS_)); have n4_ := Aside0.mk (Kd.R_lower (Kd.R_new' (Kd.R_new' (Kd.R_new' ho1 (Kd.R_lt rHO455_)) (Kd.R_lt rHO459_)) (Kd.R_lt rHO462_)) (below_size hS_)); have n5_ := Aside0.mk (blk_below (g := gb451) (o := .cells #[.slice A0_0 l0_0.length c0_0, .int .i64 a0_1, .slice A0_2 l0_2.length c0_2] 25 (0, 0)) bK451_ hb); have n6_ := Aside0.mk (below_step hS_ hb); clear HO455; clear HO459; clear HO462; clear BK451; clear HB; have HO455 := n0_; have HO459 := n1_; have HO462 := n2_; have HO465 := n3_; have HO469 := n4_; have BK451 := n5_; have HB := n6_; clear n0_ n1_ n2_ n3_ n4_ n5_ n6_; (try clear hb); (try clear hb2); (try clear hk); (try clear hi); (try clear ho0); (try clear ho1)) | ((with_reducible refine gate_dst (N := 5) rfl ?_); refine box_event ?hg (N := 5) ?hd (cs := #[.slice none 0 0, .int .i64 0, .slice none 0 0]) (t := 30) ?hr ?_; (case hd => rfl); (case hg => rfl); (case hr => first | (go_simp; done) | (go_simp; rfl)); intro gb470 hg w97 hbox hb; have n0_ := Aside0.mk (Kd.R_below rHO455_ hb); have n1_ := Aside0.mk (Kd.R_below rHO459_ hb); have n2_ := Aside0.mk (Kd.R_below rHO462_ hb); have n3_ := Aside0.mk (Kd.R_below rHO465_ hb); have n4_ := Aside0.mk (Kd.R_below rHO469_ hb); have n5_ := Aside0.mk (blk_below (g := gb451) (o := .cells #[.slice A0_0 l0_0.length c0_0, .int .i64 a0_1, .slice A0_2 l0_2.length c0_2] 25 (0, 0)) bK451_ hb); have n6_ := Aside0.mk (below_step hS_ hb); have n7_ := Aside0.mk (hbox); have n8_ := Aside0.mk ((sz_ hg (below_size hS_) : w.heap.size ≤ gb470)); have n9_ := Aside0.mk ((sz_ hg (below_size hS_) : w.heap.size ≤ gb470)); have n10_ := Aside0.mk ((by rw [hg]; exact Nat.ne_of_lt (blk_lt (g := gb451) (o := .cells #[.slice A0_0 l0_0.length c0_0, .int .i64 a0_1, .slice A0_2 l0_2.length c0_2] 25 (0, 0)) bK451_) : gb451 ≠ gb470)); have n11_ := Aside0.mk ((by rw [hg]; exact Nat.ne_of_gt (blk_lt (g := gb451) (o := .cells #[.slice A0_0 l0_0.length c0_0, .int .i64 a0_1, .slice A0_2 l0_2.length c0_2] 25 (0, 0)) bK451_) : gb470 ≠ gb451)); clear HO455; clear HO459; clear HO462; clear HO465; clear HO469; clear BK451; clear HB; have HO455 := n0_; have HO459 := n1_; have HO462 := n2_; have HO465 := n3_; have HO469 := n4_; have BK451 := n5_; have HB := n6_; have BK470 := n7_; have GW470 := n8_; have GE470 := n9_; have NB451_470 := n10_; have NB470_451 := n11_; clear n0_ n1_ n2_ n3_ n4_ n5_ n6_ n7_ n8_ n9_ n10_ n11_; clear hb hbox hg; obtain ⟨Ao98, co98, eo98⟩ := Kd.R_slice HO465.out; subst eo98; have hnb99 := NB470_451.out; have hnc99 := NB451_470.out; obtain ⟨hcz100_0, hcz100_1, hcz100_2, hfz100_0, hfz100_1, hfz100_2⟩ := blkc3_ BK470.out; obtain ⟨Ao101, co101, eo101⟩ := Kd.R_slice HO469.out; subst eo101) | ((with_reducible refine gate_callee (f := 17) rfl ?_); refine gL_ (some 22) Try.func17 #[.agg #[.slice Ao98 t463.length co98, .int .i64 t466, .slice Ao101 t467.length co101]] ?_; (with_reducible refine (impl_OrderOf.calls k _ _ t463 t466 _ _ t467 t471 _ ?side1 ?side2 ?side3 ?side4 A10.out).mono ?_); (case side1 => refine (Kd.R_reads' (e := 2) (base := w.heap.size) (ok := fun k_ => ((True ∧ some k_ ≠ (.slice Ao92 t453.length co92 : Value).ownBlock) ∧ some k_ ≠ (v461 : Value).ownBlock)) (n := t463.length) (c := co98) ?_).2.2; exact (by (with_reducible repeat (first | apply Kd.R_alloc | apply Kd.R_drewN | apply Kd.R_drew)); exact (rf3_ HO465.out BK470.out (by decide) (.slice Ao98 t463.length co98) (.int .i64 t466) (.slice Ao101 t467.length co101)))); (case side2 => exact (Kd.R_reads' HO465.out).2.1); (case side3 => refine (Kd.R_reads' (e := 80) (base := w.heap.size) (ok := fun k_ => (((some k_ ≠ (.slice Ao98 t463.length co98 : Value).ownBlock ∧ some k_ ≠ (.slice Ao92 t453.length co92 : Value).ownBlock) ∧ some k_ ≠ (.slice Ao93 t457.length co93 : Value).ownBlock) ∧ some k_ ≠ (v461 : Value).ownBlock)) (n := t467.length) (c := co101) ?_).2.2; exact (by (with_reducible repeat (first | apply Kd.R_alloc | apply Kd.R_drewN | apply Kd.R_drew)); exact (rf3_ HO469.out BK470.out (by decide) (.slice Ao98 t463.length co98) (.int .i64 t466) (.slice Ao101 t467.length co101)))); (case side4 => exact (Kd.R_reads' HO469.out).2.1); rintro e w102 ⟨v472, rfl, ho0, hb⟩; refine ⟨_, rfl, ?_⟩; have n0_ := Aside0.mk (Kd.R_elder' (by (with_reducible repeat (first | apply Kd.R_alloc | apply Kd.R_drewN | apply Kd.R_drew)); exact (rf3_ HO455.out BK470.out (by decide) (.slice Ao98 t463.length co98) (.int .i64 t466) (.slice Ao101 t467.length co101))) (Kd.R_base ho0) hb); have n1_ := Aside0.mk (Kd.R_elder' (by (with_reducible repeat (first | apply Kd.R_alloc | apply Kd.R_drewN | apply Kd.R_drew)); exact (rf3_ HO459.out BK470.out (by decide) (.slice Ao98 t463.length co98) (.int .i64 t466) (.slice Ao101 t467.length co101))) (Kd.R_base ho0) hb); have n2_ := Aside0.mk (Kd.R_elder' (by (with_reducible repeat (first | apply Kd.R_alloc | apply Kd.R_drewN | apply Kd.R_drew)); exact (rf3_ HO462.out BK470.out (by decide) (.slice Ao98 t463.length co98) (.int .i64 t466) (.slice Ao101 t467.length co101))) (Kd.R_base ho0) hb); have n3_ := Aside0.mk (Kd.R_elder' (by (with_reducible repeat (first | apply Kd.R_alloc | apply Kd.R_drewN | apply Kd.R_drew)); exact (rf3_ HO465.out BK470.out (by decide) (.slice Ao98 t463.length co98) (.int .i64 t466) (.slice Ao101 t467.length co101))) (Kd.R_base ho0) hb); have n4_ := Aside0.mk (Kd.R_elder' (by (with_reducible repeat (first | apply Kd.R_alloc | apply Kd.R_drewN | apply Kd.R_drew)); exact (rf3_ HO469.out BK470.out (by decide) (.slice Ao98 t463.length co98) (.int .i64 t466) (.slice Ao101 t467.length co101))) (Kd.R_base ho0) hb); have n5_ := Aside0.mk (Kd.R_lower (Kd.R_new' (Kd.R_new' (Kd.R_new' ho0 (Kd.R_lt (by (with_reducible repeat (first | apply Kd.R_alloc | apply Kd.R_drewN | apply Kd.R_drew)); exact (rf3_ HO455.out BK470.out (by decide) (.slice Ao98 t463.length co98) (.int .i64 t466) (.slice Ao101 t467.length co101))))) (Kd.R_lt (by (with_reducible repeat (first | apply Kd.R_alloc | apply Kd.R_drewN | apply Kd.R_drew)); exact (rf3_ HO462.out BK470.out (by decide) (.slice Ao98 t463.length co98) (.int .i64 t466) (.slice Ao101 t467.length co101))))) (Kd.R_lt (by (with_reducible repeat (first | apply Kd.R_alloc | apply Kd.R_drewN | apply Kd.R_drew)); exact (rf3_ HO465.out BK470.out (by decide) (.slice Ao98 t463.length co98) (.int .i64 t466) (.slice Ao101 t467.length co101))))) (below_size hS_)); have n6_ := Aside0.mk (blk_below (g := gb451) (o := .cells #[.slice A0_0 l0_0.length c0_0, .int .i64 a0_1, .slice A0_2 l0_2.length c0_2] 25 (0, 0)) fK451_ hb); have n7_ := Aside0.mk (blk_below (g := gb470) (o := .cells #[.slice Ao98 t463.length co98, .int .i64 t466, .slice Ao101 t467.length co101] 30 (0, 0)) (by (with_reducible repeat (first | refine blk_drewN ?_ _ | refine blk_drew ?_ | refine blk_alloc ?_ _)); refine blk_put (cs := #[.slice Ao98 t463.length co98, .int .i64 t466, .slice none 0 0]) ?_ 2 _ rfl; (with_reducible repeat (first | refine blk_drewN ?_ _ | refine blk_drew ?_ | refine blk_alloc ?_ _)); refine blk_put (cs := #[.slice Ao98 t463.length co98, .int .i64 0, .slice none 0 0]) ?_ 1 _ rfl; (with_reducible repeat (first | refine blk_drewN ?_ _ | refine blk_drew ?_ | refine blk_alloc ?_ _)); refine blk_put (cs := #[.slice none 0 0, .int .i64 0, .slice none 0 0]) ?_ 0 _ rfl; (with_reducible repeat (first | refine blk_drewN ?_ _ | refine blk_drew ?_ | refine blk_alloc ?_ _)); exact BK470.out) hb); have n8_ := Aside0.mk (below_step hS_ hb); clear HO455; clear HO459; clear HO462; clear HO465; clear HO469; clear BK451; clear BK470; clear HB; have HO455 := n0_; have HO459 := n1_; have HO462 := n2_; have HO465 := n3_; have HO469 := n4_; have HO473 := n5_; have BK451 := n6_; have BK470 := n7_; have HB := n8_; clear n0_ n1_ n2_ n3_ n4_ n5_ n6_ n7_ n8_; (try clear hb); (try clear hb2); (try clear hk); (try clear hi); (try clear ho0); obtain ⟨Ao103, co103, eo103⟩ := Kd.R_slice HO473.out; subst eo103; obtain ⟨Ao104, co104, eo104⟩ := Kd.R_slice HO462.out; subst eo104) | ((with_reducible refine gate_callee (f := 11) rfl ?_); refine gL_ (some 25) Try.func11 #[.slice Ao103 t471.length co103, .slice Ao104 t460.length co104] ?_; (with_reducible refine (laws_eqInt64S.calls k _ _ t471 _ _ t460 true _ ?side1 ?side2 ?side3 ?side4 A11.out).mono ?_); (case side1 => repeat (first | exact (Kd.R_reads' HO473.out).2.2 | (with_reducible refine Kd.C_alloc ?_ _) | (with_reducible refine Kd.C_drewN ?_ _) | (with_reducible refine Kd.C_drew ?_))); (case side2 => exact (Kd.R_reads' HO473.out).2.1); (case side3 => repeat (first | exact (Kd.R_reads' HO462.out).2.2 | (with_reducible refine Kd.C_alloc ?_ _) | (with_reducible refine Kd.C_drewN ?_ _) | (with_reducible refine Kd.C_drew ?_))); (case side4 => exact (Kd.R_reads' HO462.out).2.1); rintro e w' ⟨rfl, ⟨nd, rfl⟩⟩; refine ⟨_, rfl, ?_⟩))
    (try (rw [drewN_self w102]; generalize hq_ : World.drewN w102 _ = w102; have n0_ : Aside0 (Kd.R (Kd.int .i64) 2 w102 w.heap.size (fun k_ => some k_ ≠ (.slice Ao104 t460.length co104 : Value).ownBlock ∧ some k_ ≠ (.slice Ao98 t463.length co98 : Value).ownBlock ∧ some k_ ≠ (.slice Ao103 t471.length co103 : Value).ownBlock) (.slice Ao92 t453.length co92) t453) := ⟨by rw [← hq_]; exact (by (with_reducible repeat (first | apply Kd.R_alloc | apply Kd.R_drewN | apply Kd.R_drew)); exact Kd.R_mono HO455.out (fun _ hk => ⟨hk.1.1.2, ⟨hk.1.2, hk.2⟩⟩))⟩; have n1_ : Aside0 (Kd.R k80 80 w102 w.heap.size (fun k_ => some k_ ≠ (.slice Ao92 t453.length co92 : Value).ownBlock ∧ some k_ ≠ (.slice Ao104 t460.length co104 : Value).ownBlock ∧ some k_ ≠ (.slice Ao98 t463.length co98 : Value).ownBlock ∧ some k_ ≠ (.slice Ao101 t467.length co101 : Value).ownBlock ∧ some k_ ≠ (.slice Ao103 t471.length co103 : Value).ownBlock) (.slice Ao93 t457.length co93) t457) := ⟨by rw [← hq_]; exact (by (with_reducible repeat (first | apply Kd.R_alloc | apply Kd.R_drewN | apply Kd.R_drew)); exact Kd.R_mono HO459.out (fun _ hk => ⟨hk.1.1.1.1, ⟨hk.1.1.1.2, ⟨hk.1.1.2, ⟨hk.1.2, hk.2⟩⟩⟩⟩))⟩; have n2_ : Aside0 (Kd.R (Kd.int .i64) 2 w102 w.heap.size (fun k_ => some k_ ≠ (.slice Ao92 t453.length co92 : Value).ownBlock ∧ some k_ ≠ (.slice Ao98 t463.length co98 : Value).ownBlock ∧ some k_ ≠ (.slice Ao103 t471.length co103 : Value).ownBlock) (.slice Ao104 t460.length co104) t460) := ⟨by rw [← hq_]; exact (by (with_reducible repeat (first | apply Kd.R_alloc | apply Kd.R_drewN | apply Kd.R_drew)); exact Kd.R_mono HO462.out (fun _ hk => ⟨hk.1.1.2, ⟨hk.1.2, hk.2⟩⟩))⟩; have n3_ : Aside0 (Kd.R (Kd.int .i64) 2 w102 w.heap.size (fun k_ => some k_ ≠ (.slice Ao92 t453.length co92 : Value).ownBlock ∧ some k_ ≠ (.slice Ao104 t460.length co104 : Value).ownBlock ∧ some k_ ≠ (.slice Ao103 t471.length co103 : Value).ownBlock) (.slice Ao98 t463.length co98) t463) := ⟨by rw [← hq_]; exact (by (with_reducible repeat (first | apply Kd.R_alloc | apply Kd.R_drewN | apply Kd.R_drew)); exact Kd.R_mono HO465.out (fun _ hk => ⟨hk.1.1.2, ⟨hk.1.2, hk.2⟩⟩))⟩; have n4_ : Aside0 (Kd.R k80 80 w102 w.heap.size (fun k_ => some k_ ≠ (.slice Ao92 t453.length co92 : Value).ownBlock ∧ some k_ ≠ (.slice Ao93 t457.length co93 : Value).ownBlock ∧ some k_ ≠ (.slice Ao104 t460.length co104 : Value).ownBlock ∧ some k_ ≠ (.slice Ao98 t463.length co98 : Value).ownBlock ∧ some k_ ≠ (.slice Ao103 t471.length co103 : Value).ownBlock) (.slice Ao101 t467.length co101) t467) := ⟨by rw [← hq_]; exact (by (with_reducible repeat (first | apply Kd.R_alloc | apply Kd.R_drewN | apply Kd.R_drew)); exact Kd.R_mono HO469.out (fun _ hk => ⟨hk.1.1.1.2, ⟨hk.1.1.2, ⟨hk.1.2, ⟨hk.1.1.1.1, hk.2⟩⟩⟩⟩))⟩; have n5_ : Aside0 (Kd.R (Kd.int .i64) 2 w102 w.heap.size (fun k_ => some k_ ≠ (.slice Ao92 t453.length co92 : Value).ownBlock ∧ some k_ ≠ (.slice Ao104 t460.length co104 : Value).ownBlock ∧ some k_ ≠ (.slice Ao98 t463.length co98 : Value).ownBlock) (.slice Ao103 t471.length co103) t471) := ⟨by rw [← hq_]; exact (by (with_reducible repeat (first | apply Kd.R_alloc | apply Kd.R_drewN | apply Kd.R_drew)); exact Kd.R_mono HO473.out (fun _ hk => ⟨hk.1.1.2, ⟨hk.1.2, hk.2⟩⟩))⟩; have n6_ : Aside0 (w102.heap[gb451]? = some (.cells #[.slice A0_0 l0_0.length c0_0, .int .i64 a0_1, .slice A0_2 l0_2.length c0_2] 25 (0, 0))) := ⟨by rw [← hq_]; exact bK451_⟩; have n7_ : Aside0 (w102.heap[gb470]? = some (.cells #[.slice Ao98 t463.length co98, .int .i64 t466, .slice Ao101 t467.length co101] 30 (0, 0))) := ⟨by rw [← hq_]; exact bK470_⟩; have n8_ : Aside0 (Below w.heap.size w w102) := ⟨by rw [← hq_]; exact hS_⟩; clear HO455 HO459 HO462 HO465 HO469 HO473 BK451 BK470 HB hq_; have HO455 := n0_; have HO459 := n1_; have HO462 := n2_; have HO465 := n3_; have HO469 := n4_; have HO473 := n5_; have BK451 := n6_; have BK470 := n7_; have HB := n8_; clear n0_ n1_ n2_ n3_ n4_ n5_ n6_ n7_ n8_))
    have n0_ := Aside0.mk (Kd.R_drew HO455.out)
    have n1_ := Aside0.mk (Kd.R_drew HO459.out)
    have n2_ := Aside0.mk (Kd.R_drew HO462.out)
    have n3_ := Aside0.mk (Kd.R_drew HO465.out)
    have n4_ := Aside0.mk (Kd.R_drew HO469.out)
    have n5_ := Aside0.mk (Kd.R_drew HO473.out)
    have n6_ := Aside0.mk (blk_drew BK451.out)
    have n7_ := Aside0.mk (blk_drew BK470.out)
    have n8_ := Aside0.mk (below_drew1 HB.out)
    clear HO455
    clear HO459
    clear HO462
    clear HO465
    clear HO469
    clear HO473
    clear BK451
    clear BK470
    clear HB
    have HO455 := n0_
    have HO459 := n1_
    have HO462 := n2_
    have HO465 := n3_
    have HO469 := n4_
    have HO473 := n5_
    have BK451 := n6_
    have BK470 := n7_
    have HB := n8_
    clear n0_ n1_ n2_ n3_ n4_ n5_ n6_ n7_ n8_
    refine start_ (n := 5) (S := fun w' => w'.cell? ⟨gb470, 0, none⟩ = some (.slice Ao98 t463.length co98) ∧ w'.cell? ⟨gb470, 1, none⟩ = some (.int .i64 t466) ∧ w'.cell? ⟨gb470, 2, none⟩ = some (.slice Ao101 t467.length co101) ∧ w'.cell? ⟨gb451, 0, none⟩ = some (.slice A0_0 l0_0.length c0_0) ∧ w'.cell? ⟨gb451, 1, none⟩ = some (.int .i64 a0_1) ∧ w'.cell? ⟨gb451, 2, none⟩ = some (.slice A0_2 l0_2.length c0_2)) (ds := []) #[false, false, false, false, false] (by kernel_rfl) rfl rfl ⟨(blk_cell BK470.out 0).trans rfl, (blk_cell BK470.out 1).trans rfl, (blk_cell BK470.out 2).trans rfl, (blk_cell BK451.out 0).trans rfl, (blk_cell BK451.out 1).trans rfl, (blk_cell BK451.out 2).trans rfl⟩ (fun hHeld => ?_)
    generalize w102.drew = w105 at HO455 HO459 HO462 HO465 HO469 HO473 BK451 BK470 HB hHeld ⊢
    refine take_ (i := 0) (N := some 27) (v := ?_) (a' := ?_) #[true, false, false, false, false] rfl rfl (by kernel_rfl) (fun _ _ _ h => h) (Or.inl ⟨by rfl, ?_⟩) hHeld ?_ ?_
    rotate_left
    ·rintro w' ⟨s0, s1, s2, s3, s4, s5⟩
     go_simp
     with_reducible rfl
    rotate_left
    ·simp only [Act.put, List.setIfInBounds_toArray, List.set_cons_zero, List.set_cons_succ, i64_w, i32_w]
     rfl
    refine take_ (i := 1) (N := some 28) (v := ?_) (a' := ?_) #[true, true, false, false, false] rfl rfl (by kernel_rfl) (fun _ _ _ h => h) (Or.inl ⟨by rfl, ?_⟩) hHeld ?_ ?_
    rotate_left
    ·rintro w' ⟨s0, s1, s2, s3, s4, s5⟩
     go_simp
     with_reducible rfl
    rotate_left
    ·simp only [Act.put, List.setIfInBounds_toArray, List.set_cons_zero, List.set_cons_succ, i64_w, i32_w]
     rfl
    refine one_ (i := 2) (N := some 29) #[true, true, true, false, false] rfl rfl (by kernel_rfl) (by decide) (fun K hK => ?_)
    refine goes_ Try.func9 (by kernel_rfl) rfl #[.agg #[.slice A0_0 l0_0.length c0_0, .int .i64 a0_1, .slice A0_2 l0_2.length c0_2]] (by rfl) rfl rfl (by (try simp only [List.map_toArray, List.map_cons, List.map_nil]); first | done | rfl | (simp only [List.length_drop, List.length_take]; rfl)) ?_
    with_reducible refine (laws_toFunc.calls k _ _ l0_0 a0_1 _ _ l0_2 t475 t478 t479 _ ?side1 ?side2 ?side3 ?side4 A13.out).mono ?_
    (case side1 => exact cHR0_0_)
    (case side2 => exact HC0_0.out)
    (case side3 => exact cHR0_2_)
    (case side4 => exact HC0_2.out)
    rintro e w106 ⟨v476, v480, rfl, ho0, ho1, hb⟩
    refine ⟨_, rfl, ?_⟩
    have n0_ := Aside0.mk (Kd.R_elder' rHO455_ (Kd.R_base ho0) hb)
    have n1_ := Aside0.mk (Kd.R_mono (Kd.R_told (Kd.R_told (Kd.R_old rHO459_ hb) (Kd.R_base ho0)) (Kd.R_base ho1)) (fun _ h_ => h_.1))
    have n2_ := Aside0.mk (Kd.R_elder' rHO462_ (Kd.R_base ho0) hb)
    have n3_ := Aside0.mk (Kd.R_elder' rHO465_ (Kd.R_base ho0) hb)
    have n4_ := Aside0.mk (Kd.R_mono (Kd.R_told (Kd.R_told (Kd.R_old rHO469_ hb) (Kd.R_base ho0)) (Kd.R_base ho1)) (fun _ h_ => h_.1))
    have n5_ := Aside0.mk (Kd.R_elder' rHO473_ (Kd.R_base ho0) hb)
    have n6_ := Aside0.mk (Kd.R_lower (Kd.R_new' (Kd.R_new' (Kd.R_new' (Kd.R_new' ho0 (Kd.R_lt rHO455_)) (Kd.R_lt rHO462_)) (Kd.R_lt rHO465_)) (Kd.R_lt rHO473_)) (below_size hS_))
    have n7_ := Aside0.mk (Kd.R_lower (Kd.R_new' (Kd.R_new' (Kd.R_new' (Kd.R_new' (Kd.R_new' (Kd.R_new' ho1 (Kd.R_lt rHO455_)) (Kd.R_lt rHO459_)) (Kd.R_lt rHO462_)) (Kd.R_lt rHO465_)) (Kd.R_lt rHO469_)) (Kd.R_lt rHO473_)) (below_size hS_))
    have n8_ := Aside0.mk (blk_below (g := gb451) (o := .cells #[.slice A0_0 l0_0.length c0_0, .int .i64 a0_1, .slice A0_2 l0_2.length c0_2] 25 (0, 0)) bK451_ hb)
    have n9_ := Aside0.mk (blk_below (g := gb470) (o := .cells #[.slice Ao98 t463.length co98, .int .i64 t466, .slice Ao101 t467.length co101] 30 (0, 0)) bK470_ hb)
    have n10_ := Aside0.mk (below_step hS_ hb)
    clear HO455
    clear HO459
    clear HO462
    clear HO465
    clear HO469
    clear HO473
    clear BK451
    clear BK470
    clear HB
    have HO455 := n0_
    have HO459 := n1_
    have HO462 := n2_
    have HO465 := n3_
    have HO469 := n4_
    have HO473 := n5_
    have HO477 := n6_
    have HO481 := n7_
    have BK451 := n8_
    have BK470 := n9_
    have HB := n10_
    clear n0_ n1_ n2_ n3_ n4_ n5_ n6_ n7_ n8_ n9_ n10_
    (try clear hb)
    (try clear hb2)
    (try clear hk)
    (try clear hi)
    (try clear ho0)
    (try clear ho1)
    obtain ⟨Ao107, co107, eo107⟩ := Kd.R_slice HO477.out
    (first | subst eo107 | (injection eo107 with f1_ f2_ f3_; have f4_ := f1_.symm; have f5_ := f3_.symm; clear f1_ f2_ f3_; subst f4_; subst f5_))
    obtain ⟨Ao108, co108, eo108⟩ := Kd.R_slice HO481.out
    (first | subst eo108 | (injection eo108 with f1_ f2_ f3_; have f4_ := f1_.symm; have f5_ := f3_.symm; clear f1_ f2_ f3_; subst f4_; subst f5_))
    refine hK.out _ _ ⟨(blk_cell BK470.out 0).trans rfl, (blk_cell BK470.out 1).trans rfl, (blk_cell BK470.out 2).trans rfl, (blk_cell BK451.out 0).trans rfl, (blk_cell BK451.out 1).trans rfl, (blk_cell BK451.out 2).trans rfl⟩ (fun hHeld => ?_)
    clear hK K
    refine norm_ (a' := ?_) ?_ ?_
    rotate_left
    ·show Act.put _ (some 29) _ = _
     simp only [Act.put, List.setIfInBounds_toArray, List.set_cons_zero, List.set_cons_succ, i64_w, i32_w]
     rfl
    refine one_ (i := 3) (N := some 30) #[true, true, true, true, false] rfl rfl (by kernel_rfl) (by decide) (fun K hK => ?_)
    refine goes_ Try.func12 (by kernel_rfl) rfl #[.agg #[.slice Ao98 t463.length co98, .int .i64 t466, .slice Ao101 t467.length co101], .agg #[.slice Ao107 t475.length co107, .int .i64 t478, .slice Ao108 t479.length co108]] (by rfl) rfl rfl (by (try simp only [List.map_toArray, List.map_cons, List.map_nil]); first | done | rfl | (simp only [List.length_drop, List.length_take]; rfl)) ?_
    with_reducible refine (laws_eqFunc.calls k _ _ t463 t466 _ _ t467 _ _ t475 t478 _ _ t479 false _ ?side1 ?side2 ?side3 ?side4 ?side5 ?side6 ?side7 ?side8 A14.out).mono ?_
    (case side1 => repeat (first | exact (Kd.R_reads' HO465.out).2.2 | (with_reducible refine Kd.C_alloc ?_ _) | (with_reducible refine Kd.C_drewN ?_ _) | (with_reducible refine Kd.C_drew ?_)))
    (case side2 => exact (Kd.R_reads' HO465.out).2.1)
    (case side3 => repeat (first | exact (Kd.R_reads' HO469.out).2.2 | (with_reducible refine Kd.C_alloc ?_ _) | (with_reducible refine Kd.C_drewN ?_ _) | (with_reducible refine Kd.C_drew ?_)))
    (case side4 => exact (Kd.R_reads' HO469.out).2.1)
    (case side5 => repeat (first | exact (Kd.R_reads' HO477.out).2.2 | (with_reducible refine Kd.C_alloc ?_ _) | (with_reducible refine Kd.C_drewN ?_ _) | (with_reducible refine Kd.C_drew ?_)))
    (case side6 => exact (Kd.R_reads' HO477.out).2.1)
    (case side7 => repeat (first | exact (Kd.R_reads' HO481.out).2.2 | (with_reducible refine Kd.C_alloc ?_ _) | (with_reducible refine Kd.C_drewN ?_ _) | (with_reducible refine Kd.C_drew ?_)))
    (case side8 => exact (Kd.R_reads' HO481.out).2.1)
    rintro e w109 ⟨rfl, hb⟩
    refine ⟨_, rfl, ?_⟩
    have n0_ := Aside0.mk (Kd.R_below rHO455_ hb)
    have n1_ := Aside0.mk (Kd.R_below rHO459_ hb)
    have n2_ := Aside0.mk (Kd.R_below rHO462_ hb)
    have n3_ := Aside0.mk (Kd.R_below rHO465_ hb)
    have n4_ := Aside0.mk (Kd.R_below rHO469_ hb)
    have n5_ := Aside0.mk (Kd.R_below rHO473_ hb)
    have n6_ := Aside0.mk (Kd.R_below rHO477_ hb)
    have n7_ := Aside0.mk (Kd.R_below rHO481_ hb)
    have n8_ := Aside0.mk (blk_below (g := gb451) (o := .cells #[.slice A0_0 l0_0.length c0_0, .int .i64 a0_1, .slice A0_2 l0_2.length c0_2] 25 (0, 0)) bK451_ hb)
    have n9_ := Aside0.mk (blk_below (g := gb470) (o := .cells #[.slice Ao98 t463.length co98, .int .i64 t466, .slice Ao101 t467.length co101] 30 (0, 0)) bK470_ hb)
    have n10_ := Aside0.mk (below_step hS_ hb)
    clear HO455
    clear HO459
    clear HO462
    clear HO465
    clear HO469
    clear HO473
    clear HO477
    clear HO481
    clear BK451
    clear BK470
    clear HB
    have HO455 := n0_
    have HO459 := n1_
    have HO462 := n2_
    have HO465 := n3_
    have HO469 := n4_
    have HO473 := n5_
    have HO477 := n6_
    have HO481 := n7_
    have BK451 := n8_
    have BK470 := n9_
    have HB := n10_
    clear n0_ n1_ n2_ n3_ n4_ n5_ n6_ n7_ n8_ n9_ n10_
    (try clear hb)
    (try clear hb2)
    (try clear hk)
    (try clear hi)
    refine hK.out _ _ ⟨(blk_cell BK470.out 0).trans rfl, (blk_cell BK470.out 1).trans rfl, (blk_cell BK470.out 2).trans rfl, (blk_cell BK451.out 0).trans rfl, (blk_cell BK451.out 1).trans rfl, (blk_cell BK451.out 2).trans rfl⟩ (fun hHeld => ?_)
    clear hK K
    refine norm_ (a' := ?_) ?_ ?_
    rotate_left
    ·show Act.put _ (some 30) _ = _
     simp only [Act.put, List.setIfInBounds_toArray, List.set_cons_zero, List.set_cons_succ, i64_w, i32_w]
     rfl
    refine pure_ (i := 4) (N := some 31) (v := ?_) (a' := ?_) #[true, true, true, true, true] rfl rfl (by kernel_rfl) (fun _ _ _ h => h) (Or.inl ⟨by rfl, ?_⟩) ?_ ?_
    rotate_left
    ·intro w'
     go_simp
     with_reducible rfl
    rotate_left
    ·simp only [Act.put, List.setIfInBounds_toArray, List.set_cons_zero, List.set_cons_succ, i64_w, i32_w]
     rfl
    refine done_ (by kernel_rfl) ?_
    try go_wp2
    go_ret
    exact ⟨rG_, hS_⟩
  ·replace c12 := Bool.eq_false_iff.mpr c12
   subst c12
   have H1 := (if_neg (show ¬ (false = true) by decide)).symm.trans H
   clear H
   have H := H1
   clear H1
   obtain rfl := Option.some.inj H
   go_enter Try.func4, Try.ntmps4
   go_wp2_with (first | ((with_reducible refine gate_dst (N := 1) rfl ?_); refine box_event ?hg (N := 1) ?hd (cs := #[.slice A0_0 l0_0.length c0_0, .int .i64 a0_1, .slice A0_2 l0_2.length c0_2]) (t := 25) ?hr ?_; (case hd => rfl); (case hg => rfl); (case hr => first | (go_simp; done) | (go_simp; rfl)); intro gb451 hg w110 hbox hb; have n0_ := Aside0.mk (below_step hB_ hb); have n1_ := Aside0.mk (hbox); have n2_ := Aside0.mk ((sz_ hg (below_size hB_) : w.heap.size ≤ gb451)); have n3_ := Aside0.mk ((sz_ hg (below_size hB_) : w.heap.size ≤ gb451)); clear HB; have HB := n0_; have BK451 := n1_; have GW451 := n2_; have GE451 := n3_; clear n0_ n1_ n2_ n3_; clear hb hbox hg; obtain ⟨hcz111_0, hcz111_1, hcz111_2, hfz111_0, hfz111_1, hfz111_2⟩ := blkc3_ BK451.out) | ((with_reducible refine gate_callee (f := 7) rfl ?_); refine gL_ (some 13) Try.func7 #[.agg #[.slice A0_0 l0_0.length c0_0, .int .i64 a0_1, .slice A0_2 l0_2.length c0_2], .int .i64 1048576] ?_; (with_reducible refine (laws_szFunc.calls k _ _ l0_0 a0_1 _ _ l0_2 1048576 t452 _ ?side1 ?side2 ?side3 ?side4 A2.out).mono ?_); (case side1 => exact cHR0_0_); (case side2 => exact HC0_0.out); (case side3 => exact cHR0_2_); (case side4 => exact HC0_2.out); rintro e w112 ⟨rfl, hb⟩; refine ⟨_, rfl, ?_⟩; have n0_ := Aside0.mk (blk_below (g := gb451) (o := .cells #[.slice A0_0 l0_0.length c0_0, .int .i64 a0_1, .slice A0_2 l0_2.length c0_2] 25 (0, 0)) bK451_ hb); have n1_ := Aside0.mk (below_step hS_ hb); clear BK451; clear HB; have BK451 := n0_; have HB := n1_; clear n0_ n1_; (try clear hb); (try clear hb2); (try clear hk); (try clear hi); obtain ⟨hcz113_0, hcz113_1, hcz113_2, hfz113_0, hfz113_1, hfz113_2⟩ := blkc3_ BK451.out) | ((with_reducible refine gate_callee (f := 9) rfl ?_); refine gL_ (some 17) Try.func9 #[.agg #[.slice A0_0 l0_0.length c0_0, .int .i64 a0_1, .slice A0_2 l0_2.length c0_2]] ?_; (with_reducible refine (laws_toFunc.calls k _ _ l0_0 a0_1 _ _ l0_2 t453 t456 t457 _ ?side1 ?side2 ?side3 ?side4 A7.out).mono ?_); (case side1 => exact cHR0_0_); (case side2 => exact HC0_0.out); (case side3 => exact cHR0_2_); (case side4 => exact HC0_2.out); rintro e w114 ⟨v454, v458, rfl, ho0, ho1, hb⟩; refine ⟨_, rfl, ?_⟩; have n0_ := Aside0.mk (Kd.R_lower ho0 (below_size hS_)); have n1_ := Aside0.mk (Kd.R_lower ho1 (below_size hS_)); have n2_ := Aside0.mk (blk_below (g := gb451) (o := .cells #[.slice A0_0 l0_0.length c0_0, .int .i64 a0_1, .slice A0_2 l0_2.length c0_2] 25 (0, 0)) bK451_ hb); have n3_ := Aside0.mk (below_step hS_ hb); clear BK451; clear HB; have HO455 := n0_; have HO459 := n1_; have BK451 := n2_; have HB := n3_; clear n0_ n1_ n2_ n3_; (try clear hb); (try clear hb2); (try clear hk); (try clear hi); (try clear ho0); (try clear ho1); obtain ⟨Ao115, co115, eo115⟩ := Kd.R_slice HO455.out; subst eo115; obtain ⟨Ao116, co116, eo116⟩ := Kd.R_slice HO459.out; subst eo116) | ((with_reducible refine gate_callee (f := 16) rfl ?_); refine gL_ (some 18) Try.func16 #[.agg #[.slice Ao115 t453.length co115, .int .i64 t456, .slice Ao116 t457.length co116]] ?_; (with_reducible refine (spec_OrderOf.calls k _ _ t453 t456 _ _ t457 t460 _ ?side1 ?side2 ?side3 ?side4 A8.out).mono ?_); (case side1 => repeat (first | exact (Kd.R_reads' HO455.out).2.2 | (with_reducible refine Kd.C_alloc ?_ _) | (with_reducible refine Kd.C_drewN ?_ _) | (with_reducible refine Kd.C_drew ?_))); (case side2 => exact (Kd.R_reads' HO455.out).2.1); (case side3 => repeat (first | exact (Kd.R_reads' HO459.out).2.2 | (with_reducible refine Kd.C_alloc ?_ _) | (with_reducible refine Kd.C_drewN ?_ _) | (with_reducible refine Kd.C_drew ?_))); (case side4 => exact (Kd.R_reads' HO459.out).2.1); rintro e w117 ⟨v461, rfl, ho0, hb⟩; refine ⟨_, rfl, ?_⟩; have n0_ := Aside0.mk (Kd.R_elder' rHO455_ (Kd.R_base ho0) hb); have n1_ := Aside0.mk (Kd.R_elder' rHO459_ (Kd.R_base ho0) hb); have n2_ := Aside0.mk (Kd.R_lower (Kd.R_new' ho0 (Kd.R_lt rHO455_)) (below_size hS_)); have n3_ := Aside0.mk (blk_below (g := gb451) (o := .cells #[.slice A0_0 l0_0.length c0_0, .int .i64 a0_1, .slice A0_2 l0_2.length c0_2] 25 (0, 0)) bK451_ hb); have n4_ := Aside0.mk (below_step hS_ hb); clear HO455; clear HO459; clear BK451; clear HB; have HO455 := n0_; have HO459 := n1_; have HO462 := n2_; have BK451 := n3_; have HB := n4_; clear n0_ n1_ n2_ n3_ n4_; (try clear hb); (try clear hb2); (try clear hk); (try clear hi); (try clear ho0); obtain ⟨hcz118_0, hcz118_1, hcz118_2, hfz118_0, hfz118_1, hfz118_2⟩ := blkc3_ BK451.out) | ((with_reducible refine gate_callee (f := 9) rfl ?_); refine gL_ (some 20) Try.func9 #[.agg #[.slice A0_0 l0_0.length c0_0, .int .i64 a0_1, .slice A0_2 l0_2.length c0_2]] ?_; (with_reducible refine (laws_toFunc.calls k _ _ l0_0 a0_1 _ _ l0_2 t463 t466 t467 _ ?side1 ?side2 ?side3 ?side4 A9.out).mono ?_); (case side1 => exact cHR0_0_); (case side2 => exact HC0_0.out); (case side3 => exact cHR0_2_); (case side4 => exact HC0_2.out); rintro e w119 ⟨v464, v468, rfl, ho0, ho1, hb⟩; refine ⟨_, rfl, ?_⟩; have n0_ := Aside0.mk (Kd.R_elder' rHO455_ (Kd.R_base ho0) hb); have n1_ := Aside0.mk (Kd.R_mono (Kd.R_told (Kd.R_told (Kd.R_old rHO459_ hb) (Kd.R_base ho0)) (Kd.R_base ho1)) (fun _ h_ => h_.1)); have n2_ := Aside0.mk (Kd.R_elder' rHO462_ (Kd.R_base ho0) hb); have n3_ := Aside0.mk (Kd.R_lower (Kd.R_new' (Kd.R_new' ho0 (Kd.R_lt rHO455_)) (Kd.R_lt rHO462_)) (below_size hS_)); have n4_ := Aside0.mk (Kd.R_lower (Kd.R_new' (Kd.R_new' (Kd.R_new' ho1 (Kd.R_lt rHO455_)) (Kd.R_lt rHO459_)) (Kd.R_lt rHO462_)) (below_size hS_)); have n5_ := Aside0.mk (blk_below (g := gb451) (o := .cells #[.slice A0_0 l0_0.length c0_0, .int .i64 a0_1, .slice A0_2 l0_2.length c0_2] 25 (0, 0)) bK451_ hb); have n6_ := Aside0.mk (below_step hS_ hb); clear HO455; clear HO459; clear HO462; clear BK451; clear HB; have HO455 := n0_; have HO459 := n1_; have HO462 := n2_; have HO465 := n3_; have HO469 := n4_; have BK451 := n5_; have HB := n6_; clear n0_ n1_ n2_ n3_ n4_ n5_ n6_; (try clear hb); (try clear hb2); (try clear hk); (try clear hi); (try clear ho0); (try clear ho1)) | ((with_reducible refine gate_dst (N := 5) rfl ?_); refine box_event ?hg (N := 5) ?hd (cs := #[.slice none 0 0, .int .i64 0, .slice none 0 0]) (t := 30) ?hr ?_; (case hd => rfl); (case hg => rfl); (case hr => first | (go_simp; done) | (go_simp; rfl)); intro gb470 hg w120 hbox hb; have n0_ := Aside0.mk (Kd.R_below rHO455_ hb); have n1_ := Aside0.mk (Kd.R_below rHO459_ hb); have n2_ := Aside0.mk (Kd.R_below rHO462_ hb); have n3_ := Aside0.mk (Kd.R_below rHO465_ hb); have n4_ := Aside0.mk (Kd.R_below rHO469_ hb); have n5_ := Aside0.mk (blk_below (g := gb451) (o := .cells #[.slice A0_0 l0_0.length c0_0, .int .i64 a0_1, .slice A0_2 l0_2.length c0_2] 25 (0, 0)) bK451_ hb); have n6_ := Aside0.mk (below_step hS_ hb); have n7_ := Aside0.mk (hbox); have n8_ := Aside0.mk ((sz_ hg (below_size hS_) : w.heap.size ≤ gb470)); have n9_ := Aside0.mk ((sz_ hg (below_size hS_) : w.heap.size ≤ gb470)); have n10_ := Aside0.mk ((by rw [hg]; exact Nat.ne_of_lt (blk_lt (g := gb451) (o := .cells #[.slice A0_0 l0_0.length c0_0, .int .i64 a0_1, .slice A0_2 l0_2.length c0_2] 25 (0, 0)) bK451_) : gb451 ≠ gb470)); have n11_ := Aside0.mk ((by rw [hg]; exact Nat.ne_of_gt (blk_lt (g := gb451) (o := .cells #[.slice A0_0 l0_0.length c0_0, .int .i64 a0_1, .slice A0_2 l0_2.length c0_2] 25 (0, 0)) bK451_) : gb470 ≠ gb451)); clear HO455; clear HO459; clear HO462; clear HO465; clear HO469; clear BK451; clear HB; have HO455 := n0_; have HO459 := n1_; have HO462 := n2_; have HO465 := n3_; have HO469 := n4_; have BK451 := n5_; have HB := n6_; have BK470 := n7_; have GW470 := n8_; have GE470 := n9_; have NB451_470 := n10_; have NB470_451 := n11_; clear n0_ n1_ n2_ n3_ n4_ n5_ n6_ n7_ n8_ n9_ n10_ n11_; clear hb hbox hg; obtain ⟨Ao121, co121, eo121⟩ := Kd.R_slice HO465.out; subst eo121; have hnb122 := NB470_451.out; have hnc122 := NB451_470.out; obtain ⟨hcz123_0, hcz123_1, hcz123_2, hfz123_0, hfz123_1, hfz123_2⟩ := blkc3_ BK470.out; obtain ⟨Ao124, co124, eo124⟩ := Kd.R_slice HO469.out; subst eo124) | ((with_reducible refine gate_callee (f := 17) rfl ?_); refine gL_ (some 22) Try.func17 #[.agg #[.slice Ao121 t463.length co121, .int .i64 t466, .slice Ao124 t467.length co124]] ?_; (with_reducible refine (impl_OrderOf.calls k _ _ t463 t466 _ _ t467 t471 _ ?side1 ?side2 ?side3 ?side4 A10.out).mono ?_); (case side1 => refine (Kd.R_reads' (e := 2) (base := w.heap.size) (ok := fun k_ => ((True ∧ some k_ ≠ (.slice Ao115 t453.length co115 : Value).ownBlock) ∧ some k_ ≠ (v461 : Value).ownBlock)) (n := t463.length) (c := co121) ?_).2.2; exact (by (with_reducible repeat (first | apply Kd.R_alloc | apply Kd.R_drewN | apply Kd.R_drew)); exact (rf3_ HO465.out BK470.out (by decide) (.slice Ao121 t463.length co121) (.int .i64 t466) (.slice Ao124 t467.length co124)))); (case side2 => exact (Kd.R_reads' HO465.out).2.1); (case side3 => refine (Kd.R_reads' (e := 80) (base := w.heap.size) (ok := fun k_ => (((some k_ ≠ (.slice Ao121 t463.length co121 : Value).ownBlock ∧ some k_ ≠ (.slice Ao115 t453.length co115 : Value).ownBlock) ∧ some k_ ≠ (.slice Ao116 t457.length co116 : Value).ownBlock) ∧ some k_ ≠ (v461 : Value).ownBlock)) (n := t467.length) (c := co124) ?_).2.2; exact (by (with_reducible repeat (first | apply Kd.R_alloc | apply Kd.R_drewN | apply Kd.R_drew)); exact (rf3_ HO469.out BK470.out (by decide) (.slice Ao121 t463.length co121) (.int .i64 t466) (.slice Ao124 t467.length co124)))); (case side4 => exact (Kd.R_reads' HO469.out).2.1); rintro e w125 ⟨v472, rfl, ho0, hb⟩; refine ⟨_, rfl, ?_⟩; have n0_ := Aside0.mk (Kd.R_elder' (by (with_reducible repeat (first | apply Kd.R_alloc | apply Kd.R_drewN | apply Kd.R_drew)); exact (rf3_ HO455.out BK470.out (by decide) (.slice Ao121 t463.length co121) (.int .i64 t466) (.slice Ao124 t467.length co124))) (Kd.R_base ho0) hb); have n1_ := Aside0.mk (Kd.R_elder' (by (with_reducible repeat (first | apply Kd.R_alloc | apply Kd.R_drewN | apply Kd.R_drew)); exact (rf3_ HO459.out BK470.out (by decide) (.slice Ao121 t463.length co121) (.int .i64 t466) (.slice Ao124 t467.length co124))) (Kd.R_base ho0) hb); have n2_ := Aside0.mk (Kd.R_elder' (by (with_reducible repeat (first | apply Kd.R_alloc | apply Kd.R_drewN | apply Kd.R_drew)); exact (rf3_ HO462.out BK470.out (by decide) (.slice Ao121 t463.length co121) (.int .i64 t466) (.slice Ao124 t467.length co124))) (Kd.R_base ho0) hb); have n3_ := Aside0.mk (Kd.R_elder' (by (with_reducible repeat (first | apply Kd.R_alloc | apply Kd.R_drewN | apply Kd.R_drew)); exact (rf3_ HO465.out BK470.out (by decide) (.slice Ao121 t463.length co121) (.int .i64 t466) (.slice Ao124 t467.length co124))) (Kd.R_base ho0) hb); have n4_ := Aside0.mk (Kd.R_elder' (by (with_reducible repeat (first | apply Kd.R_alloc | apply Kd.R_drewN | apply Kd.R_drew)); exact (rf3_ HO469.out BK470.out (by decide) (.slice Ao121 t463.length co121) (.int .i64 t466) (.slice Ao124 t467.length co124))) (Kd.R_base ho0) hb); have n5_ := Aside0.mk (Kd.R_lower (Kd.R_new' (Kd.R_new' (Kd.R_new' ho0 (Kd.R_lt (by (with_reducible repeat (first | apply Kd.R_alloc | apply Kd.R_drewN | apply Kd.R_drew)); exact (rf3_ HO455.out BK470.out (by decide) (.slice Ao121 t463.length co121) (.int .i64 t466) (.slice Ao124 t467.length co124))))) (Kd.R_lt (by (with_reducible repeat (first | apply Kd.R_alloc | apply Kd.R_drewN | apply Kd.R_drew)); exact (rf3_ HO462.out BK470.out (by decide) (.slice Ao121 t463.length co121) (.int .i64 t466) (.slice Ao124 t467.length co124))))) (Kd.R_lt (by (with_reducible repeat (first | apply Kd.R_alloc | apply Kd.R_drewN | apply Kd.R_drew)); exact (rf3_ HO465.out BK470.out (by decide) (.slice Ao121 t463.length co121) (.int .i64 t466) (.slice Ao124 t467.length co124))))) (below_size hS_)); have n6_ := Aside0.mk (blk_below (g := gb451) (o := .cells #[.slice A0_0 l0_0.length c0_0, .int .i64 a0_1, .slice A0_2 l0_2.length c0_2] 25 (0, 0)) fK451_ hb); have n7_ := Aside0.mk (blk_below (g := gb470) (o := .cells #[.slice Ao121 t463.length co121, .int .i64 t466, .slice Ao124 t467.length co124] 30 (0, 0)) (by (with_reducible repeat (first | refine blk_drewN ?_ _ | refine blk_drew ?_ | refine blk_alloc ?_ _)); refine blk_put (cs := #[.slice Ao121 t463.length co121, .int .i64 t466, .slice none 0 0]) ?_ 2 _ rfl; (with_reducible repeat (first | refine blk_drewN ?_ _ | refine blk_drew ?_ | refine blk_alloc ?_ _)); refine blk_put (cs := #[.slice Ao121 t463.length co121, .int .i64 0, .slice none 0 0]) ?_ 1 _ rfl; (with_reducible repeat (first | refine blk_drewN ?_ _ | refine blk_drew ?_ | refine blk_alloc ?_ _)); refine blk_put (cs := #[.slice none 0 0, .int .i64 0, .slice none 0 0]) ?_ 0 _ rfl; (with_reducible repeat (first | refine blk_drewN ?_ _ | refine blk_drew ?_ | refine blk_alloc ?_ _)); exact BK470.out) hb); have n8_ := Aside0.mk (below_step hS_ hb); clear HO455; clear HO459; clear HO462; clear HO465; clear HO469; clear BK451; clear BK470; clear HB; have HO455 := n0_; have HO459 := n1_; have HO462 := n2_; have HO465 := n3_; have HO469 := n4_; have HO473 := n5_; have BK451 := n6_; have BK470 := n7_; have HB := n8_; clear n0_ n1_ n2_ n3_ n4_ n5_ n6_ n7_ n8_; (try clear hb); (try clear hb2); (try clear hk); (try clear hi); (try clear ho0); obtain ⟨Ao126, co126, eo126⟩ := Kd.R_slice HO473.out; subst eo126; obtain ⟨Ao127, co127, eo127⟩ := Kd.R_slice HO462.out; subst eo127) | ((with_reducible refine gate_callee (f := 11) rfl ?_); refine gL_ (some 25) Try.func11 #[.slice Ao126 t471.length co126, .slice Ao127 t460.length co127] ?_; (with_reducible refine (laws_eqInt64S.calls k _ _ t471 _ _ t460 false _ ?side1 ?side2 ?side3 ?side4 A11.out).mono ?_); (case side1 => repeat (first | exact (Kd.R_reads' HO473.out).2.2 | (with_reducible refine Kd.C_alloc ?_ _) | (with_reducible refine Kd.C_drewN ?_ _) | (with_reducible refine Kd.C_drew ?_))); (case side2 => exact (Kd.R_reads' HO473.out).2.1); (case side3 => repeat (first | exact (Kd.R_reads' HO462.out).2.2 | (with_reducible refine Kd.C_alloc ?_ _) | (with_reducible refine Kd.C_drewN ?_ _) | (with_reducible refine Kd.C_drew ?_))); (case side4 => exact (Kd.R_reads' HO462.out).2.1); rintro e w' ⟨rfl, ⟨nd, rfl⟩⟩; refine ⟨_, rfl, ?_⟩))
   go_ret
   exact ⟨rG_, hS_⟩
end Go.Proofs.Ytobfgnjdcoidoaa.X
namespace Go.Proofs.Ytobfgnjdcoidoaa.X
open Go.RowKit Go.Proofs.YtobfgnjdcoidoaaW.PrintWords Go.Proofs.YtobfgnjdcoidoaaW.PrintLast Go.Proofs.YtobfgnjdcoidoaaW.PrintMore
/-- What is known of a number that was read: it is of its kind. -/
def wfInt (k : IntKind) (n : Int) : Prop := (Lit.int k n).wf = true
/-- .. of a list: its length fits, and so of each element. -/
def wfList {α : Type} (Wf : α → Prop) (l : List α) : Prop := l.length ≤ 9223372036854775807 ∧ ∀ x ∈ l, Wf x
def wf121 (x : S121) : Prop := (wfInt .i64) x.f0 ∧ (wfList (wfInt .i64)) x.f1
def wf123 (x : S123) : Prop := (wfInt .i64) x.f0 ∧ (wfInt .i64) x.f1 ∧ (wfInt .i64) x.f2 ∧ (wfInt .i64) x.f3 ∧ (wfInt .i64) x.f4 ∧ (wfInt .i64) x.f5 ∧ (wfList (wfInt .i64)) x.f6
def wf72 (x : S72) : Prop := (wfInt .i64) x.f0 ∧ (wfInt .i64) x.f1 ∧ (wfInt .i64) x.f2 ∧ (wfInt .i64) x.f3
def wf74 (x : S74) : Prop := (wfList wf121) x.f0 ∧ (wfList wf123) x.f1 ∧ wf72 x.f2
def wf25 (x : S25) : Prop := (wfList (wfInt .i64)) x.f0 ∧ (wfInt .i64) x.f1 ∧ (wfList wf74) x.f2
end Go.Proofs.Ytobfgnjdcoidoaa.X
namespace Go.Proofs.Ytobfgnjdcoidoaa.X
open Go.RowKit Go.Proofs.YtobfgnjdcoidoaaW.PrintWords Go.Proofs.YtobfgnjdcoidoaaW.PrintLast Go.Proofs.YtobfgnjdcoidoaaW.PrintMore
set_option linter.unusedVariables false
open Go.Deep
/-- What can be read as data of type t stands as d tells it. -/
def Opens {α : Type} (P : Program) (d : Kd α) (t : TypeId) (Wf : α → Prop) : Prop :=
  ∀ {H : Type} (enc : TypeId × Value → H) (w : World) (base : Nat) (spare : Nat → Bool) (held : Bool) (fuel : Nat) (cs : List Value) (x : DataW H × List MemPlace), DataW.trod enc P w base spare held fuel t cs = some x → ∃ a, d.K w a cs ∧ Wf a
theorem opens_int {P : Program} {t : TypeId} {k : IntKind} (hu : P.underlying t = some (.int k)) : Opens P (Kd.int k) t (wfInt k) := by
  intro H enc w base spare held fuel cs x h
  obtain ⟨n, rfl, -, hw⟩ := DataW.trod_int hu h
  exact ⟨n, rfl, hw⟩
theorem opens_slice {α : Type} {P : Program} {d : Kd α} {Wf : α → Prop} {t e : TypeId} (hu : P.underlying t = some (.slice e)) (hc : P.cellsOf e = d.sz) (hd : Opens P d e Wf) : Opens P (Kd.slice e d) t (wfList Wf) := by
  intro H enc w base spare held fuel cs x h
  rcases open_slice hu h with ⟨rfl, -⟩ | ⟨a, len, cap, m, n, D, Pl, rfl, hb, hl, hm, hmm, -, hel⟩
  · exact ⟨[], ⟨none, 0, rfl, Nat.le_refl _, rfl, Nat.zero_le _, fun h => absurd h (Nat.lt_irrefl 0)⟩, Nat.zero_le _, fun _ h => by cases h⟩
  · have hlm : len ≤ m := by rw [hmm]; split <;> omega
    have hx : ∀ i, i < len → ∃ y, ∃ cs', w.cells? base (a.add (i * P.cellsOf e)) (P.cellsOf e) = some cs' ∧ d.K w y cs' ∧ Wf y := by
      intro i hi
      obtain ⟨cs', h1, h2⟩ := hel i (by omega)
      obtain ⟨y, hy⟩ := hd enc w base spare held n cs' _ h2
      exact ⟨y, cs', h1, hy⟩
    have hcell : ∀ i cs', w.cells? base (a.add (i * P.cellsOf e)) (P.cellsOf e) = some cs' → ∀ j u, cs'[j]? = some u → w.cell? (a.add (i * d.sz + j)) = some u := by
      intro i cs' h1 j u hj
      obtain ⟨-, hl', hc'⟩ := World.cells?_some h1
      have hjl : j < cs'.length := (List.getElem?_eq_some_iff.1 hj).1
      have := hc' j (by omega)
      rw [Deep.add_add, hc] at this
      rw [this]; exact hj
    by_cases h0 : len = 0
    · subst h0
      exact ⟨[], ⟨some a, cap, rfl, Nat.zero_le _, rfl, Nat.zero_le _, fun h => absurd h (Nat.lt_irrefl 0)⟩, Nat.zero_le _, fun _ h => by cases h⟩
    · obtain ⟨y0, -⟩ := hx 0 (by omega)
      haveI : Inhabited α := ⟨y0⟩
      obtain ⟨f, hf⟩ := choose_lt hx
      have hlen : ((List.range len).map f).length ≤ 9223372036854775807 := by
        have : cap ≤ maxLen := hm
        unfold maxLen at this
        simp; omega
      refine ⟨(List.range len).map f, ⟨some a, cap, by simp, by simpa using hl, ?_⟩, hlen, fun y hy => ?_⟩
      rotate_left
      · obtain ⟨i, hi, rfl⟩ := List.mem_map.1 hy
        obtain ⟨-, -, -, h3⟩ := hf i (by simpa using hi)
        exact h3
      refine ⟨by simp, hlen, fun _ => ⟨a, rfl, fun j p hp => ?_⟩⟩
      · have hj : j < len := by
          have := (List.getElem?_eq_some_iff.1 hp).1
          simpa using this
        have hp' : p = f j := by
          rw [List.getElem?_map, List.getElem?_range hj] at hp
          simpa using hp.symm
        subst hp'
        obtain ⟨cs', h1, h2, -⟩ := hf j hj
        exact ⟨cs', d.K_len h2, h2, fun i u hi => hcell j cs' h1 i u hi⟩
/-- Fields from place o on, the i-th of which was read as the i-th of xs. -/
def OpensFs {α : Type} (P : Program) (o : Nat) (fs : List Field) (d : Kd α) (Wf : α → Prop) : Prop :=
  ∀ {H : Type} (enc : TypeId × Value → H) (w : World) (base : Nat) (spare : Nat → Bool) (held : Bool) (fuel : Nat) (cs : List Value),
    (∀ f ∈ fs, ∃ x, DataW.trod enc P w base spare held fuel f.type ((cs.drop f.offset).take (P.cellsOf f.type)) = some x) → cs.length = o + d.sz → ∃ a, d.K w a (cs.drop o) ∧ Wf a
theorem opensFs_one {α : Type} {P : Program} {o : Nat} {f : Field} {d : Kd α} {Wf : α → Prop} (ho : f.offset = o) (hc : P.cellsOf f.type = d.sz) (hd : Opens P d f.type Wf) : OpensFs P o [f] d Wf := by
  intro H enc w base spare held fuel cs h hl
  obtain ⟨x, hx⟩ := h f (by simp)
  obtain ⟨a, ha, hw⟩ := hd enc w base spare held fuel _ _ hx
  refine ⟨a, ?_, hw⟩
  rw [ho, hc, List.take_of_length_le (by rw [List.length_drop]; omega)] at ha
  exact ha
theorem opensFs_cons {α β : Type} {P : Program} {o : Nat} {f : Field} {fs : List Field} {d : Kd α} {d2 : Kd β} {Wf : α → Prop} {Wf2 : β → Prop} (ho : f.offset = o) (hc : P.cellsOf f.type = d.sz) (hd : Opens P d f.type Wf) (hs : OpensFs P (o + d.sz) fs d2 Wf2) : OpensFs P o (f :: fs) (Kd.pair d d2) (fun x => Wf x.1 ∧ Wf2 x.2) := by
  intro H enc w base spare held fuel cs h hl
  obtain ⟨x, hx⟩ := h f (by simp)
  obtain ⟨a, ha, hw⟩ := hd enc w base spare held fuel _ _ hx
  have hl' : cs.length = o + d.sz + d2.sz := by rw [hl]; show o + (d.sz + d2.sz) = _; omega
  obtain ⟨b, hb, hw2⟩ := hs enc w base spare held fuel cs (fun f hf => h f (by simp [hf])) hl'
  rw [ho, hc] at ha
  refine ⟨(a, b), ⟨_, _, ?_, ha, hb⟩, hw, hw2⟩
  rw [← List.drop_drop, List.take_append_drop]
theorem opens_struct {α β : Type} {P : Program} {t : TypeId} {fs : Array Field} {d : Kd α} {f : β → α} (g : α → β) (hg : ∀ a, f (g a) = a) (hu : P.underlying t = some (.struct fs)) (hc : P.cellsOf t = d.sz) {Wf : α → Prop} (hd : OpensFs P 0 fs.toList d Wf) : Opens P (Kd.iso d f) t (fun x => Wf (f x)) := by
  intro H enc w base spare held fuel cs x h
  obtain ⟨xs, n, -, -, hl, hxs, hf⟩ := DataW.trod_struct hu h
  obtain ⟨a, ha, hw⟩ := hd enc w base spare held n cs (fun f hm => by
    obtain ⟨i, hi, rfl⟩ := List.getElem_of_mem hm
    have hi' : i < fs.size := by simpa using hi
    have := hf i fs[i] (by simp [hi'])
    rw [List.getElem?_eq_getElem (by omega)] at this
    exact ⟨_, by simpa using this⟩) (by rw [hl, hc, Nat.zero_add])
  exact ⟨g a, by show d.K w (f (g a)) cs; rw [hg]; simpa using ha, by show Wf (f (g a)); rw [hg]; exact hw⟩
/-- A value whose cells are not one is an aggregate of these. -/
theorem agg_of_cells {v : Value} (hn : v.cells.toList.length ≠ 1) : v = .agg v.cells.toList.toArray := by
  cases v <;> first | (exact absurd rfl hn) | (simp [Value.cells])
theorem opens121 : Opens Try.prog k121 121 wf121 :=
  opens_struct (fun (x : _) => (⟨x.1, x.2⟩ : S121)) (fun _ => rfl) Try.underlying121 (by kernel_rfl) (opensFs_cons rfl (by kernel_rfl) (opens_int Try.underlying2) (opensFs_one rfl (by kernel_rfl) (opens_slice Try.underlying22 (by kernel_rfl) (opens_int Try.underlying2))))
theorem opens123 : Opens Try.prog k123 123 wf123 :=
  opens_struct (fun (x : _) => (⟨x.1, x.2.1, x.2.2.1, x.2.2.2.1, x.2.2.2.2.1, x.2.2.2.2.2.1, x.2.2.2.2.2.2⟩ : S123)) (fun _ => rfl) Try.underlying123 (by kernel_rfl) (opensFs_cons rfl (by kernel_rfl) (opens_int Try.underlying2) (opensFs_cons rfl (by kernel_rfl) (opens_int Try.underlying2) (opensFs_cons rfl (by kernel_rfl) (opens_int Try.underlying2) (opensFs_cons rfl (by kernel_rfl) (opens_int Try.underlying2) (opensFs_cons rfl (by kernel_rfl) (opens_int Try.underlying2) (opensFs_cons rfl (by kernel_rfl) (opens_int Try.underlying2) (opensFs_one rfl (by kernel_rfl) (opens_slice Try.underlying22 (by kernel_rfl) (opens_int Try.underlying2)))))))))
theorem opens72 : Opens Try.prog k72 72 wf72 :=
  opens_struct (fun (x : _) => (⟨x.1, x.2.1, x.2.2.1, x.2.2.2⟩ : S72)) (fun _ => rfl) Try.underlying72 (by kernel_rfl) (opensFs_cons rfl (by kernel_rfl) (opens_int Try.underlying2) (opensFs_cons rfl (by kernel_rfl) (opens_int Try.underlying2) (opensFs_cons rfl (by kernel_rfl) (opens_int Try.underlying2) (opensFs_one rfl (by kernel_rfl) (opens_int Try.underlying2)))))
theorem opens74 : Opens Try.prog k74 74 wf74 :=
  opens_struct (fun (x : _) => (⟨x.1, x.2.1, x.2.2⟩ : S74)) (fun _ => rfl) Try.underlying74 (by kernel_rfl) (opensFs_cons rfl (by kernel_rfl) (opens_slice Try.underlying69 (by kernel_rfl) (opens121)) (opensFs_cons rfl (by kernel_rfl) (opens_slice Try.underlying70 (by kernel_rfl) (opens123)) (opensFs_one rfl (by kernel_rfl) (opens72))))
theorem opens25 : Opens Try.prog k25 25 wf25 :=
  opens_struct (fun (x : _) => (⟨x.1, x.2.1, x.2.2⟩ : S25)) (fun _ => rfl) Try.underlying25 (by kernel_rfl) (opensFs_cons rfl (by kernel_rfl) (opens_slice Try.underlying22 (by kernel_rfl) (opens_int Try.underlying2)) (opensFs_cons rfl (by kernel_rfl) (opens_int Try.underlying2) (opensFs_one rfl (by kernel_rfl) (opens_slice Try.underlying23 (by kernel_rfl) (opens74)))))
end Go.Proofs.Ytobfgnjdcoidoaa.X
namespace Go.Proofs.Ytobfgnjdcoidoaa.X
set_option linter.unusedVariables false
set_option linter.unusedSimpArgs false
open Go.RowKit Go.Proofs.YtobfgnjdcoidoaaW.PrintWords Go.Proofs.YtobfgnjdcoidoaaW.PrintLast Go.Proofs.YtobfgnjdcoidoaaW.PrintMore
theorem Ev.succ {α : Type} {g : Nat → Option α} {r : α} (h : Ev (fun k => g (k + 1)) r) : Ev g r := Ev.step (f := fun k => g (k + 1)) (fun _ => rfl) h
theorem Ev.cst {α : Type} {o : Option α} {r : α} (h : o = some r) : Ev (fun _ => o) r := ⟨0, fun _ _ => h⟩
theorem Ev.ipos {α : Type} {c : Prop} [Decidable c] {f g : Nat → Option α} {r : α} (hc : c) (h : Ev f r) : Ev (fun k => if c then f k else g k) r := Ev.congr (fun _ => if_pos hc) h
theorem Ev.ineg {α : Type} {c : Prop} [Decidable c] {f g : Nat → Option α} {r : α} (hc : ¬ c) (h : Ev g r) : Ev (fun k => if c then f k else g k) r := Ev.congr (fun _ => if_neg hc) h
theorem Ev.rw {α : Type} {g : Nat → Option α} {r s : α} (h : Ev g r) (e : r = s) : Ev g s := e ▸ h
theorem w64 {x : Int} (h0 : -9223372036854775808 ≤ x) (h1 : x ≤ 9223372036854775807) : wrap64 x = x := by unfold wrap64; omega
theorem getD_at {α : Type} (l : List α) (z : α) (j : Nat) (h : j < l.length) : l.getD j z = l[j] := by simp [List.getD, List.getElem?_eq_getElem h]
/-- What is left of a, when s is taken away. -/
def rem (a s : Int) : Int := if s ≤ a then a - s else -1
def sumOf {α : Type} (f : α → Int) : List α → Int
  | [] => 0
  | x :: l => f x + sumOf f l
theorem sumOf_nonneg {α : Type} {f : α → Int} : ∀ {l : List α}, (∀ x ∈ l, 0 ≤ f x) → 0 ≤ sumOf f l
  | [], _ => Int.le_refl _
  | x :: l, h => by
    have := h x (by simp)
    have := sumOf_nonneg (l := l) (fun y hy => h y (by simp [hy]))
    simp only [sumOf]; omega
theorem sumOf_drop {α : Type} (f : α → Int) (l : List α) (i : Nat) (h : i < l.length) : sumOf f (l.drop i) = f l[i] + sumOf f (l.drop (i + 1)) := by
  rw [List.drop_eq_getElem_cons h]; rfl
theorem le_sumOf {α : Type} {f : α → Int} {l : List α} (h : ∀ x ∈ l, 0 ≤ f x) {x : α} (hx : x ∈ l) : f x ≤ sumOf f l := by
  induction l with
  | nil => cases hx
  | cons y l ih =>
    have hn := sumOf_nonneg (l := l) (fun z hz => h z (by simp [hz]))
    simp only [sumOf]
    rcases List.mem_cons.1 hx with rfl | hx
    · omega
    · have := ih (fun z hz => h z (by simp [hz])) hx
      have := h y (by simp)
      omega
theorem sz_loop {α : Type} (L : Nat → List α → Int → Int → Option Int) (body : Nat → α → Int → Option Int) (z : α)
    (hL : ∀ k x left i, L (k + 1) x left i = if i < (x.length : Int) then (if 0 ≤ i then ((body k (x.getD i.toNat z) left).bind fun t => (if t < 0 then (some (-1)) else (L k x t (wrap64 (i + 1))))) else none) else some left)
    (size : α → Int) (x : List α) (hlen : x.length ≤ 9223372036854775807) (h0 : ∀ e ∈ x, 0 ≤ size e) (hb : ∀ e ∈ x, ∀ left, 0 ≤ left → left ≤ 1048576 → Ev (fun k => body k e left) (rem left (size e))) :
    ∀ left, 0 ≤ left → left ≤ 1048576 → Ev (fun k => L k x left 0) (rem left (sumOf size x)) := by
  suffices h : ∀ (d i : Nat) (left : Int), i + d = x.length → 0 ≤ left → left ≤ 1048576 → Ev (fun k => L k x left i) (rem left (sumOf size (x.drop i))) by
    intro left a b
    have := h x.length 0 left (by omega) a b
    simpa using this
  intro d
  induction d with
  | zero =>
    intro i left hi a b
    refine Ev.step (fun k => hL k x left i) (Ev.ineg (by omega) (Ev.rw (Ev.now left) ?_))
    rw [List.drop_of_length_le (by omega)]
    simp [sumOf, rem, a]
  | succ d ih =>
    intro i left hi a b
    have hlt : i < x.length := by omega
    have he : x[i] ∈ x := List.getElem_mem hlt
    have hs := h0 _ he
    have hr := sumOf_nonneg (f := size) (l := x.drop (i + 1)) (fun y hy => h0 y (List.mem_of_mem_drop hy))
    refine Ev.step (fun k => hL k x left i) (Ev.ipos (by omega) (Ev.ipos (by omega) ?_))
    rw [show (i : Int).toNat = i from rfl, getD_at x z i hlt]
    refine Ev.bind (hb _ he left a b) ?_
    rw [sumOf_drop size x i hlt]
    by_cases hc : size x[i] ≤ left
    · rw [show rem left (size x[i]) = left - size x[i] from if_pos hc]
      refine Ev.ineg (by omega) ?_
      rw [show wrap64 ((i : Int) + 1) = ((i + 1 : Nat) : Int) by rw [w64 (by omega) (by omega)]; rfl]
      refine Ev.rw (ih (i + 1) (left - size x[i]) (by omega) (by omega) (by omega)) ?_
      unfold rem
      split <;> split <;> omega
    · rw [show rem left (size x[i]) = -1 from if_neg hc]
      refine Ev.ipos (by decide) (Ev.rw (Ev.now (-1)) ?_)
      unfold rem
      rw [if_neg (by omega)]
theorem to_loop {α β τ : Type} (L : Nat → List α → List β → Int → Option (List β)) (body : Nat → α → Option τ) (mk : τ → β) (z : α)
    (hL : ∀ k x out i, L (k + 1) x out i = if i < (x.length : Int) then (if 0 ≤ i then ((body k (x.getD i.toNat z)).bind fun t => (if i < (out.length : Int) then (L k x (out.set i.toNat (mk t)) (wrap64 (i + 1))) else none)) else none) else some out)
    (conv : α → β) (x : List α) (hlen : x.length ≤ 1048576) (hb : ∀ e ∈ x, ∃ t, Ev (fun k => body k e) t ∧ mk t = conv e) (out : List β) (ho : out.length = x.length) :
    Ev (fun k => L k x out 0) (x.map conv) := by
  suffices h : ∀ (d i : Nat) (out : List β), i + d = x.length → out.length = x.length → Ev (fun k => L k x out i) (out.take i ++ (x.drop i).map conv) by
    have := h x.length 0 out (by omega) ho
    simpa using this
  intro d
  induction d with
  | zero =>
    intro i out hi ho
    refine Ev.step (fun k => hL k x out i) (Ev.ineg (by omega) (Ev.rw (Ev.now out) ?_))
    rw [List.drop_of_length_le (by omega), List.take_of_length_le (by omega)]
    simp
  | succ d ih =>
    intro i out hi ho
    have hlt : i < x.length := by omega
    obtain ⟨t, ht, hm⟩ := hb _ (List.getElem_mem hlt)
    refine Ev.step (fun k => hL k x out i) (Ev.ipos (by omega) (Ev.ipos (by omega) ?_))
    rw [show (i : Int).toNat = i from rfl, getD_at x z i hlt]
    refine Ev.bind ht (Ev.ipos (by omega) ?_)
    rw [show wrap64 ((i : Int) + 1) = ((i + 1 : Nat) : Int) by rw [w64 (by omega) (by omega)]; rfl]
    refine Ev.rw (ih (i + 1) (out.set i (mk t)) (by omega) (by simp [ho])) ?_
    rw [hm, List.drop_eq_getElem_cons hlt, List.map_cons]
    have hio : i < out.length := by omega
    rw [List.take_set, List.take_succ_eq_append_getElem hio, List.set_append]
    simp [Nat.min_eq_left (Nat.le_of_lt hio)]
theorem eq_loop {α : Type} (L : Nat → List α → List α → Int → Option Bool) (body : Nat → α → α → Option Bool) (z : α)
    (hL : ∀ k x y i, L (k + 1) x y i = if i < (x.length : Int) then (if 0 ≤ i then (if i < (y.length : Int) then ((body k (x.getD i.toNat z) (y.getD i.toNat z)).bind fun t => (if t = true then (L k x y (wrap64 (i + 1))) else (some false))) else none) else none) else some true)
    (x : List α) (hlen : x.length ≤ 1048576) (hb : ∀ e ∈ x, Ev (fun k => body k e e) true) : Ev (fun k => L k x x 0) true := by
  suffices h : ∀ (d i : Nat), i + d = x.length → Ev (fun k => L k x x i) true by
    have := h x.length 0 (by omega)
    simpa using this
  intro d
  induction d with
  | zero =>
    intro i hi
    exact Ev.step (fun k => hL k x x i) (Ev.ineg (by omega) (Ev.now true))
  | succ d ih =>
    intro i hi
    have hlt : i < x.length := by omega
    refine Ev.step (fun k => hL k x x i) (Ev.ipos (by omega) (Ev.ipos (by omega) (Ev.ipos (by omega) ?_)))
    rw [show (i : Int).toNat = i from rfl, getD_at x z i hlt]
    refine Ev.bind (hb _ (List.getElem_mem hlt)) (Ev.ipos rfl ?_)
    rw [show wrap64 ((i : Int) + 1) = ((i + 1 : Nat) : Int) by rw [w64 (by omega) (by omega)]; rfl]
    exact ih (i + 1) (by omega)
end Go.Proofs.Ytobfgnjdcoidoaa.X
namespace Go.Proofs.Ytobfgnjdcoidoaa.X
set_option linter.unusedVariables false
set_option linter.unusedSimpArgs false
open Go.RowKit Go.Proofs.YtobfgnjdcoidoaaW.PrintWords Go.Proofs.YtobfgnjdcoidoaaW.PrintLast Go.Proofs.YtobfgnjdcoidoaaW.PrintMore
abbrev LPhi := S121
abbrev LInst := S123
abbrev LTerm := S72
abbrev LBlock := S74
abbrev Phi := S93
abbrev Inst := S96
abbrev Term := S78
abbrev Block := S80
def len {α : Type} (l : List α) : Int := (l.length : Int)
def szP (p : LPhi) : Int := len p.f1
def szI (p : LInst) : Int := len p.f6
def szPs (l : List LPhi) : Int := len l + sumOf szP l
def szIs (l : List LInst) : Int := len l + sumOf szI l
def szB (b : LBlock) : Int := szPs b.f0 + szIs b.f1
def szBs (l : List LBlock) : Int := len l + sumOf szB l
theorem len_nonneg {α : Type} (l : List α) : 0 ≤ len l := by unfold len; omega
theorem szP_nonneg (p : LPhi) : 0 ≤ szP p := len_nonneg _
theorem szI_nonneg (p : LInst) : 0 ≤ szI p := len_nonneg _
theorem szPs_nonneg (l : List LPhi) : 0 ≤ szPs l := by have := len_nonneg l; have := sumOf_nonneg (l := l) (fun x _ => szP_nonneg x); unfold szPs; omega
theorem szIs_nonneg (l : List LInst) : 0 ≤ szIs l := by have := len_nonneg l; have := sumOf_nonneg (l := l) (fun x _ => szI_nonneg x); unfold szIs; omega
theorem szB_nonneg (b : LBlock) : 0 ≤ szB b := by have := szPs_nonneg b.f0; have := szIs_nonneg b.f1; unfold szB; omega
theorem szBs_nonneg (l : List LBlock) : 0 ≤ szBs l := by have := len_nonneg l; have := sumOf_nonneg (l := l) (fun x _ => szB_nonneg x); unfold szBs; omega
theorem szInt64S_eq (l : List Int) (hl : l.length ≤ 9223372036854775807) (a : Int) (h0 : 0 ≤ a) (h1 : a ≤ 1048576) : laws_szInt64S.f l a = some (rem a (len l)) := by
  unfold laws_szInt64S.f rem len
  rw [w64 (by omega) (by omega)]
  by_cases h : a - (l.length : Int) < 0
  · rw [if_pos h, if_neg (by omega)]
  · rw [if_neg h, if_pos (by omega)]
theorem if_some_neg {t : Int} (h : -1 ≤ t) : (if t < 0 then some (-1) else some t) = some t := by
  split
  · congr 1; omega
  · rfl
theorem rem_ge {a s : Int} (h : 0 ≤ a) (hs : 0 ≤ s) : -1 ≤ rem a s := by unfold rem; split <;> omega
theorem szPhi_eq (p : LPhi) (hl : p.f1.length ≤ 9223372036854775807) (a : Int) (h0 : 0 ≤ a) (h1 : a ≤ 1048576) : laws_szPhi.f p.f0 p.f1 a = some (rem a (szP p)) := by
  unfold laws_szPhi.f
  rw [szInt64S_eq _ hl a h0 h1]; simp only [Option.bind_some]
  exact if_some_neg (rem_ge h0 (szP_nonneg p))
theorem szInst_eq (p : LInst) (hl : p.f6.length ≤ 9223372036854775807) (a : Int) (h0 : 0 ≤ a) (h1 : a ≤ 1048576) : laws_szInst.f p.f0 p.f1 p.f2 p.f3 p.f4 p.f5 p.f6 a = some (rem a (szI p)) := by
  unfold laws_szInst.f
  rw [szInt64S_eq _ hl a h0 h1]; simp only [Option.bind_some]
  exact if_some_neg (rem_ge h0 (szI_nonneg p))
/-- The head of a list's measure. -/
theorem sz_head {α : Type} {l : List α} {f : α → Int} (hl : l.length ≤ 9223372036854775807) (hf : ∀ x ∈ l, 0 ≤ f x) (L : Nat → Int → Option Int) (a : Int) (h0 : 0 ≤ a) (h1 : a ≤ 1048576)
    (h : ∀ a, 0 ≤ a → a ≤ 1048576 → Ev (fun k => L k a) (rem a (sumOf f l))) : Ev (fun k => if wrap64 (a - (l.length : Int)) < 0 then some (-1) else L k (wrap64 (a - (l.length : Int)))) (rem a (len l + sumOf f l)) := by
  have hs := sumOf_nonneg hf
  rw [w64 (by omega) (by omega)]
  by_cases c : a - (l.length : Int) < 0
  · refine Ev.ipos c (Ev.rw (Ev.now (-1)) ?_)
    unfold rem len
    rw [if_neg (by omega)]
  · refine Ev.ineg c (Ev.rw (h _ (by omega) (by omega)) ?_)
    unfold rem len
    split <;> split <;> omega
theorem szPhiS_ev (l : List LPhi) (hl : wfList wf121 l) (a : Int) (h0 : 0 ≤ a) (h1 : a ≤ 1048576) : Ev (fun k => laws_szPhiS.f k l a) (rem a (szPs l)) :=
  sz_head hl.1 (fun x _ => szP_nonneg x) (fun k a => laws_szPhiS.l0 k l a 0) a h0 h1
    (sz_loop laws_szPhiS.l0 (fun _ e a => laws_szPhi.f e.f0 e.f1 a) z121 (fun _ _ _ _ => rfl) szP l hl.1 (fun x _ => szP_nonneg x) (fun e he a h0 h1 => Ev.cst (szPhi_eq e (hl.2 e he).2.1 a h0 h1)))
theorem szInstS_ev (l : List LInst) (hl : wfList wf123 l) (a : Int) (h0 : 0 ≤ a) (h1 : a ≤ 1048576) : Ev (fun k => laws_szInstS.f k l a) (rem a (szIs l)) :=
  sz_head hl.1 (fun x _ => szI_nonneg x) (fun k a => laws_szInstS.l0 k l a 0) a h0 h1
    (sz_loop laws_szInstS.l0 (fun _ e a => laws_szInst.f e.f0 e.f1 e.f2 e.f3 e.f4 e.f5 e.f6 a) z123 (fun _ _ _ _ => rfl) szI l hl.1 (fun x _ => szI_nonneg x) (fun e he a h0 h1 => Ev.cst (szInst_eq e (hl.2 e he).2.2.2.2.2.2.1 a h0 h1)))
/-- One measure behind another one. -/
theorem sz_two {g : Nat → Option Int} {f : Nat → Int → Option Int} {a s t : Int} (h0 : 0 ≤ a) (h1 : a ≤ 1048576) (hs : 0 ≤ s) (ht : 0 ≤ t) (hg : Ev g (rem a s)) (hf : ∀ a, 0 ≤ a → a ≤ 1048576 → Ev (fun k => f k a) (rem a t)) :
    Ev (fun k => (g k).bind fun u => if u < 0 then some (-1) else ((f k u).bind fun v => if v < 0 then some (-1) else some v)) (rem a (s + t)) := by
  refine Ev.bind hg ?_
  by_cases c : s ≤ a
  · rw [show rem a s = a - s from if_pos c]
    refine Ev.ineg (by omega) (Ev.bind (hf _ (by omega) (by omega)) (Ev.cst ?_))
    rw [if_some_neg (rem_ge (by omega) ht)]
    congr 1
    unfold rem
    split <;> split <;> omega
  · rw [show rem a s = -1 from if_neg c]
    refine Ev.ipos (by decide) (Ev.rw (Ev.now (-1)) ?_)
    unfold rem
    rw [if_neg (by omega)]
theorem szBlock_ev (b : LBlock) (hb : wf74 b) (a : Int) (h0 : 0 ≤ a) (h1 : a ≤ 1048576) : Ev (fun k => laws_szBlock.f k b.f0 b.f1 b.f2.f0 b.f2.f1 b.f2.f2 b.f2.f3 a) (rem a (szB b)) :=
  sz_two h0 h1 (szPs_nonneg _) (szIs_nonneg _) (szPhiS_ev _ hb.1 a h0 h1) (fun a h0 h1 => szInstS_ev _ hb.2.1 a h0 h1)
theorem szBlockS_ev (l : List LBlock) (hl : wfList wf74 l) (a : Int) (h0 : 0 ≤ a) (h1 : a ≤ 1048576) : Ev (fun k => laws_szBlockS.f k l a) (rem a (szBs l)) :=
  sz_head hl.1 (fun x _ => szB_nonneg x) (fun k a => laws_szBlockS.l0 k l a 0) a h0 h1
    (sz_loop laws_szBlockS.l0 (fun k e a => laws_szBlock.f k e.f0 e.f1 e.f2.f0 e.f2.f1 e.f2.f2 e.f2.f3 a) z74 (fun _ _ _ _ => rfl) szB l hl.1 (fun x _ => szB_nonneg x) (fun e he a h0 h1 => szBlock_ev e (hl.2 e he) a h0 h1))
theorem szFunc_ev (p : List Int) (r : Int) (l : List LBlock) (h : wf25 ⟨p, r, l⟩) (a : Int) (h0 : 0 ≤ a) (h1 : a ≤ 1048576) : Ev (fun k => laws_szFunc.f k p r l a) (rem a (len p + szBs l)) :=
  sz_two h0 h1 (len_nonneg _) (szBs_nonneg _) (Ev.cst (szInt64S_eq p h.1.1 a h0 h1)) (fun a h0 h1 => szBlockS_ev l h.2.2 a h0 h1)
/-! ### copies -/
def cPhi (p : LPhi) : Phi := ⟨p.f0, p.f1⟩
def cInst (p : LInst) : Inst := ⟨p.f0, p.f1, p.f2, p.f3, p.f4, p.f5, p.f6⟩
def cTerm (p : LTerm) : Term := ⟨p.f0, p.f1, p.f2, p.f3⟩
def cBlock (b : LBlock) : Block := ⟨b.f0.map cPhi, b.f1.map cInst, cTerm b.f2⟩
/-- Its lists have at most 2^20 elements, and so on inwards. -/
def smI (l : List Int) : Prop := l.length ≤ 1048576
def smP (p : LPhi) : Prop := smI p.f1
def smN (p : LInst) : Prop := smI p.f6
def smB (b : LBlock) : Prop := b.f0.length ≤ 1048576 ∧ (∀ p ∈ b.f0, smP p) ∧ b.f1.length ≤ 1048576 ∧ ∀ p ∈ b.f1, smN p
def smBs (l : List LBlock) : Prop := l.length ≤ 1048576 ∧ ∀ b ∈ l, smB b
theorem sm_of_sz {p : List Int} {l : List LBlock} (h : len p + szBs l ≤ 1048576) : smI p ∧ smBs l ∧ len p + sumOf szB l + len l ≤ 1048576 := by
  have h1 := len_nonneg p
  have h2 := len_nonneg l
  have h3 := sumOf_nonneg (l := l) (fun x _ => szB_nonneg x)
  unfold szBs at h
  refine ⟨?_, ⟨?_, fun b hb => ?_⟩, by omega⟩
  · unfold smI len at *; omega
  · unfold len at *; omega
  · have hle := le_sumOf (f := szB) (fun x _ => szB_nonneg x) hb
    have a1 := szPs_nonneg b.f0
    have a2 := szIs_nonneg b.f1
    have a3 : szB b = szPs b.f0 + szIs b.f1 := rfl
    have b1 : szPs b.f0 = len b.f0 + sumOf szP b.f0 := rfl
    have b2 : szIs b.f1 = len b.f1 + sumOf szI b.f1 := rfl
    have c1 := sumOf_nonneg (l := b.f0) (fun x _ => szP_nonneg x)
    have c2 := sumOf_nonneg (l := b.f1) (fun x _ => szI_nonneg x)
    have d1 := len_nonneg b.f0
    have d2 := len_nonneg b.f1
    refine ⟨?_, fun q hq => ?_, ?_, fun q hq => ?_⟩
    · unfold len at *; omega
    · have := le_sumOf (f := szP) (fun x _ => szP_nonneg x) hq
      have e : szP q = len q.f1 := rfl
      unfold smP smI; unfold len at *; omega
    · unfold len at *; omega
    · have := le_sumOf (f := szI) (fun x _ => szI_nonneg x) hq
      have e : szI q = len q.f6 := rfl
      unfold smN smI; unfold len at *; omega
theorem to_head {α β : Type} {l : List α} {n : Nat} {z : β} {g : Nat → List β → Option (List β)} {r : List β} (hn : l.length ≤ n) (h : ∀ out : List β, out.length = l.length → Ev (fun k => g k out) r) :
    Ev (fun k => if 0 ≤ (l.length : Int) then (if ((l.length : Int) : Int).toNat ≤ n then g k (List.replicate ((l.length : Int) : Int).toNat z) else none) else none) r :=
  Ev.ipos (by omega) (Ev.ipos (by simpa using hn) (h _ (by simp)))
theorem toInt64S_ev (l : List Int) (h : smI l) : Ev (fun k => laws_toInt64S.f k l) l :=
  to_head (Nat.le_trans h (by decide)) (fun out ho => Ev.rw (to_loop laws_toInt64S.l0 (fun _ e => some e) id 0 (fun _ _ _ _ => rfl) id l h (fun e _ => ⟨e, Ev.now e, rfl⟩) out ho) (by simp))
theorem toPhi_ev (p : LPhi) (h : smP p) : Ev (fun k => laws_toPhi.f k p.f0 p.f1) (p.f0, p.f1) := Ev.bind (toInt64S_ev _ h) (Ev.now _)
theorem toInst_ev (p : LInst) (h : smN p) : Ev (fun k => laws_toInst.f k p.f0 p.f1 p.f2 p.f3 p.f4 p.f5 p.f6) (p.f0, p.f1, p.f2, p.f3, p.f4, p.f5, p.f6) := Ev.bind (toInt64S_ev _ h) (Ev.now _)
theorem toPhiS_ev (l : List LPhi) (hl : l.length ≤ 1048576) (h : ∀ p ∈ l, smP p) : Ev (fun k => laws_toPhiS.f k l) (l.map cPhi) :=
  to_head (Nat.le_trans hl (by decide)) (fun out ho => to_loop laws_toPhiS.l0 (fun k e => laws_toPhi.f k e.f0 e.f1) (fun t => ⟨t.1, t.2⟩) z121 (fun _ _ _ _ => rfl) cPhi l hl (fun e he => ⟨_, toPhi_ev e (h e he), rfl⟩) out ho)
theorem toInstS_ev (l : List LInst) (hl : l.length ≤ 1048576) (h : ∀ p ∈ l, smN p) : Ev (fun k => laws_toInstS.f k l) (l.map cInst) :=
  to_head (Nat.le_trans hl (by decide)) (fun out ho => to_loop laws_toInstS.l0 (fun k e => laws_toInst.f k e.f0 e.f1 e.f2 e.f3 e.f4 e.f5 e.f6) (fun t => ⟨t.1, t.2.1, t.2.2.1, t.2.2.2.1, t.2.2.2.2.1, t.2.2.2.2.2.1, t.2.2.2.2.2.2⟩) z123 (fun _ _ _ _ => rfl) cInst l hl (fun e he => ⟨_, toInst_ev e (h e he), rfl⟩) out ho)
theorem toBlock_ev (b : LBlock) (h : smB b) : Ev (fun k => laws_toBlock.f k b.f0 b.f1 b.f2.f0 b.f2.f1 b.f2.f2 b.f2.f3) (b.f0.map cPhi, b.f1.map cInst, b.f2.f0, b.f2.f1, b.f2.f2, b.f2.f3) :=
  Ev.bind (toPhiS_ev _ h.1 h.2.1) (Ev.bind (toInstS_ev _ h.2.2.1 h.2.2.2) (Ev.now _))
theorem toBlockS_ev (l : List LBlock) (h : smBs l) : Ev (fun k => laws_toBlockS.f k l) (l.map cBlock) :=
  to_head (Nat.le_trans h.1 (by decide)) (fun out ho => to_loop laws_toBlockS.l0 (fun k e => laws_toBlock.f k e.f0 e.f1 e.f2.f0 e.f2.f1 e.f2.f2 e.f2.f3) (fun t => ⟨t.1, t.2.1, ⟨t.2.2.1, t.2.2.2.1, t.2.2.2.2.1, t.2.2.2.2.2⟩⟩) z74 (fun _ _ _ _ => rfl) cBlock l h.1 (fun e he => ⟨_, toBlock_ev e (h.2 e he), rfl⟩) out ho)
theorem toFunc_ev (p : List Int) (r : Int) (l : List LBlock) (hp : smI p) (hl : smBs l) : Ev (fun k => laws_toFunc.f k p r l) (p, r, l.map cBlock) := Ev.bind (toInt64S_ev _ hp) (Ev.bind (toBlockS_ev l hl) (Ev.now _))
/-! ### a comparison with itself -/
theorem eqInt64S_ev (l : List Int) (h : smI l) : Ev (fun k => laws_eqInt64S.f k l l) true :=
  Ev.ipos rfl (eq_loop laws_eqInt64S.l0 (fun _ a b => some (decide (a = b))) 0 (fun k x y i => by
    simp only [laws_eqInt64S.l0, Option.bind_some, decide_eq_true_eq]; rfl) l h (fun e _ => Ev.cst (by simp)))
theorem eqPhi_ev (p : Phi) (h : smI p.f1) : Ev (fun k => laws_eqPhi.f k p.f0 p.f1 p.f0 p.f1) true := Ev.ipos rfl (Ev.bind (eqInt64S_ev _ h) (Ev.ipos rfl (Ev.now _)))
theorem eqInst_ev (p : Inst) (h : smI p.f6) : Ev (fun k => laws_eqInst.f k p.f0 p.f1 p.f2 p.f3 p.f4 p.f5 p.f6 p.f0 p.f1 p.f2 p.f3 p.f4 p.f5 p.f6) true :=
  Ev.ipos rfl (Ev.ipos rfl (Ev.ipos rfl (Ev.ipos rfl (Ev.ipos rfl (Ev.ipos rfl (Ev.bind (eqInt64S_ev _ h) (Ev.ipos rfl (Ev.now _))))))))
theorem eqTerm_eq (t : Term) : laws_eqTerm.f t.f0 t.f1 t.f2 t.f3 t.f0 t.f1 t.f2 t.f3 = some true := by simp [laws_eqTerm.f]
theorem eqPhiS_ev (l : List Phi) (hl : l.length ≤ 1048576) (h : ∀ p ∈ l, smI p.f1) : Ev (fun k => laws_eqPhiS.f k l l) true :=
  Ev.ipos rfl (eq_loop laws_eqPhiS.l0 (fun k a b => laws_eqPhi.f k a.f0 a.f1 b.f0 b.f1) z93 (fun _ _ _ _ => rfl) l hl (fun e he => eqPhi_ev e (h e he)))
theorem eqInstS_ev (l : List Inst) (hl : l.length ≤ 1048576) (h : ∀ p ∈ l, smI p.f6) : Ev (fun k => laws_eqInstS.f k l l) true :=
  Ev.ipos rfl (eq_loop laws_eqInstS.l0 (fun k a b => laws_eqInst.f k a.f0 a.f1 a.f2 a.f3 a.f4 a.f5 a.f6 b.f0 b.f1 b.f2 b.f3 b.f4 b.f5 b.f6) z96 (fun _ _ _ _ => rfl) l hl (fun e he => eqInst_ev e (h e he)))
/-- A block that is small. -/
def smb (b : Block) : Prop := b.f0.length ≤ 1048576 ∧ (∀ p ∈ b.f0, smI p.f1) ∧ b.f1.length ≤ 1048576 ∧ ∀ p ∈ b.f1, smI p.f6
def smbs (l : List Block) : Prop := l.length ≤ 1048576 ∧ ∀ b ∈ l, smb b
theorem eqBlock_ev (b : Block) (h : smb b) : Ev (fun k => laws_eqBlock.f k b.f0 b.f1 b.f2.f0 b.f2.f1 b.f2.f2 b.f2.f3 b.f0 b.f1 b.f2.f0 b.f2.f1 b.f2.f2 b.f2.f3) true :=
  Ev.bind (eqPhiS_ev _ h.1 h.2.1) (Ev.ipos rfl (Ev.bind (eqInstS_ev _ h.2.2.1 h.2.2.2) (Ev.ipos rfl (Ev.bind (Ev.cst (eqTerm_eq b.f2)) (Ev.ipos rfl (Ev.now _))))))
theorem eqBlockS_ev (l : List Block) (h : smbs l) : Ev (fun k => laws_eqBlockS.f k l l) true :=
  Ev.ipos rfl (eq_loop laws_eqBlockS.l0 (fun k a b => laws_eqBlock.f k a.f0 a.f1 a.f2.f0 a.f2.f1 a.f2.f2 a.f2.f3 b.f0 b.f1 b.f2.f0 b.f2.f1 b.f2.f2 b.f2.f3) z80 (fun _ _ _ _ => rfl) l h.1 (fun e he => eqBlock_ev e (h.2 e he)))
theorem eqFunc_ev (p : List Int) (r : Int) (l : List Block) (hp : smI p) (h : smbs l) : Ev (fun k => laws_eqFunc.f k p r l p r l) true :=
  Ev.bind (eqInt64S_ev _ hp) (Ev.ipos rfl (Ev.ipos rfl (Ev.bind (eqBlockS_ev l h) (Ev.ipos rfl (Ev.now _)))))
theorem smbs_of {l : List LBlock} (h : smBs l) : smbs (l.map cBlock) := by
  refine ⟨by simpa using h.1, fun b hb => ?_⟩
  obtain ⟨x, hx, rfl⟩ := List.mem_map.1 hb
  have hx := h.2 x hx
  refine ⟨by simpa [cBlock] using hx.1, fun q hq => ?_, by simpa [cBlock] using hx.2.2.1, fun q hq => ?_⟩
  · obtain ⟨y, hy, rfl⟩ := List.mem_map.1 hq
    exact hx.2.1 y hy
  · obtain ⟨y, hy, rfl⟩ := List.mem_map.1 hq
    exact hx.2.2.2 y hy
/-- How many ids there are, and what else a list of blocks weighs, is at most 2^20. -/
def cntB (b : Block) : Int := len b.f0 + len b.f1
theorem cnt_le {p : List Int} {l : List LBlock} (h : len p + szBs l ≤ 1048576) : len p + sumOf cntB (l.map cBlock) ≤ 1048576 := by
  have : ∀ l : List LBlock, sumOf cntB (l.map cBlock) ≤ sumOf szB l := by
    intro l
    induction l with
    | nil => exact Int.le_refl _
    | cons b l ih =>
      simp only [List.map_cons, sumOf]
      have a3 : szB b = szPs b.f0 + szIs b.f1 := rfl
      have b1 : szPs b.f0 = len b.f0 + sumOf szP b.f0 := rfl
      have b2 : szIs b.f1 = len b.f1 + sumOf szI b.f1 := rfl
      have c1 := sumOf_nonneg (l := b.f0) (fun x _ => szP_nonneg x)
      have c2 := sumOf_nonneg (l := b.f1) (fun x _ => szI_nonneg x)
      have e : cntB (cBlock b) = len b.f0 + len b.f1 := by simp [cntB, cBlock, len]
      omega
  have := this l
  have h2 := len_nonneg l
  unfold szBs at h
  omega
end Go.Proofs.Ytobfgnjdcoidoaa.X
namespace Go.Proofs.Ytobfgnjdcoidoaa.X
open Go.RowKit Go.Proofs.YtobfgnjdcoidoaaW.PrintWords Go.Proofs.YtobfgnjdcoidoaaW.PrintLast Go.Proofs.YtobfgnjdcoidoaaW.PrintMore
attribute [local go_sem] max2_int min2_int max_two min_two max_three min_three max_four min_four   -- for this text's walks alone
set_option linter.unusedVariables false
set_option linter.unusedSimpArgs false
/-! ### spec_l1Copy: function 64 -/
def spec_l1Copy.f (l0 : List Int) : Option (List Int) := (some (([] : List Int) : List Int)).bind fun y500 => (if y500.length + l0.length < 17592186044416 then (some (y500 ++ l0)) else (none))
set_option maxHeartbeats 8000000 in
set_option maxRecDepth 100000 in
theorem spec_l1Copy.calls (A0 : Option Addr) (c0 : Nat) (l0 : List Int) (r : List Int) (w : World) (hr0 : Kd.C (Kd.int .i64) w A0 l0.length l0) (hc0 : l0.length ≤ c0) (h : spec_l1Copy.f l0 = some r) :
  Calls Try.prog 64 #[.slice A0 l0.length c0] w fun e w' => ∃ v0_ : Value, e = .returned (v0_) ∧ Kd.R (Kd.int .i64) 2 w' w.heap.size (fun _ => True) v0_ r ∧ Below w.heap.size w w' := by
 have HR0 := Aside0.mk hr0
 have HC0 := Aside0.mk hc0
 clear hr0 hc0
 have HB := Aside0.mk (Below.refl w.heap.size w)
 have H : ((some (([] : List Int) : List Int)).bind fun y500 => (if y500.length + l0.length < 17592186044416 then (some (y500 ++ l0)) else (none))) = some r := h
 clear h
 obtain ⟨y500, hy500⟩ : ∃ y_ : List Int, y_ = (([] : List Int)) := ⟨_, rfl⟩
 replace H : (if y500.length + l0.length < 17592186044416 then (some (y500 ++ l0)) else (none)) = some r := by first | (rw [hy500]; with_reducible exact H) | (have H2_ := (Option.bind_some _ _).symm.trans H; rw [hy500]; with_reducible exact H2_) | (have H2_ := (Option.bind_some _ _).symm.trans H; with_reducible exact H2_) | with_reducible exact H | (rw [hy500]; exact H) | exact H
 have Ny500 := Aside0.mk hy500
 clear hy500
 by_cases c2 : y500.length + l0.length < 17592186044416
 ·rw [if_pos c2] at H
  have LMc2 := Aside0.mk c2
  clear c2
  obtain ⟨y503, hy503⟩ : ∃ y_ : List Int, y_ = (y500 ++ l0) := ⟨_, rfl⟩
  replace H : (some y503) = some r := by first | (rw [hy503]; with_reducible exact H) | (have H2_ := (Option.bind_some _ _).symm.trans H; rw [hy503]; with_reducible exact H2_) | (have H2_ := (Option.bind_some _ _).symm.trans H; with_reducible exact H2_) | with_reducible exact H | (rw [hy503]; exact H) | exact H
  have Ny503 := Aside0.mk hy503
  clear hy503
  obtain rfl := Option.some.inj H
  go_enter Try.func64, Try.ntmps64
  go_wp2_with (first | ((with_reducible refine gate_dst (N := 3) rfl ?_); refine Kd.R_lit (Kd.int .i64) _ 2 ?hg (N := 3) ?hd (xs := ([] : List Int)) (inner := []) (ok := fun _ => True) (okp := fun _ => True) ?hr ?hp (fun _ hk => hk) trivial (Below.refl _ _) (Nat.le_refl _) (by simp) ?_; (case hd => rfl); (case hg => rfl); (case hr => first | (go_simp; done) | (go_simp; rfl)); (case hp => exact (Reps.none _ _)); intro v501 w3 ho4 hb hg_ hnew_; clear hg_ hnew_; (first | rw [← Ny500.out] at ho4 | (simp only [Int.reduceToNat] at ho4; rw [← Ny500.out] at ho4)); have n0_ := Aside0.mk (Kd.R_lower ho4 (below_size hB_)); have n1_ := Aside0.mk (below_step hB_ hb); clear HB; have HO502 := n0_; have HB := n1_; clear n0_ n1_; clear hb ho4) | ((with_reducible refine gate_builtin (b := .append) (xs := #[.tmp 3, .tmp 4]) rfl ?_); at_builtin; refine Kd.R_append_rows (Kd.int .i64) (w0 := w) w.heap.size rfl (.tmp 3) (.tmp 4) 22 2 (.int .i64 0) 8 rfl Try.underlying22 info2 rfl (by decide) (by omega) v501 y500 l0 _ _ _ (fun _ => True) (fun _ => False) rfl rfl ?aO ?aR (fun _ _ h => h) (fun _ h => h.elim) ?aF ?aB ?aS ?aL ?_; (case aR => exact cHR0_); (case aB => exact hB_); (case aF => exact (fun _ _ => trivial)); (case aO => exact rHO502_); (case aS => exact (below_size hB_)); (case aL => have := LMc2.out; omega); intro v504 w5 ho hb hg hat; rw [← Ny503.out] at ho; have n0_ := Aside0.mk (hb); have n1_ := Aside0.mk (ho); clear HB; clear HO502; have HB := n0_; have HO505 := n1_; clear n0_ n1_; clear ho hb hg hat))
  go_ret
  exact ⟨_, rG_, rHO505_, hB_⟩
 ·rw [if_neg c2] at H
  exact absurd H (by simp)
end Go.Proofs.Ytobfgnjdcoidoaa.X
namespace Go.Proofs.Ytobfgnjdcoidoaa.X
set_option linter.unusedVariables false
set_option linter.unusedSimpArgs false
open Go.RowKit Go.Proofs.YtobfgnjdcoidoaaW.PrintWords Go.Proofs.YtobfgnjdcoidoaaW.PrintLast Go.Proofs.YtobfgnjdcoidoaaW.PrintMore
theorem specIn_eq (a b c : Int) : spec_l1In.f a b c = some (decide (b ≤ a ∧ a ≤ c)) := by
  unfold spec_l1In.f
  by_cases h : a ≥ b
  · rw [if_pos h]; have h' : b ≤ a := h; simp [h']
  · rw [if_neg h]; have h' : ¬ b ≤ a := h; simp [h']
end Go.Proofs.Ytobfgnjdcoidoaa.X
namespace Go.Proofs.Ytobfgnjdcoidoaa.X
open Go.RowKit Go.Proofs.YtobfgnjdcoidoaaW.PrintWords Go.Proofs.YtobfgnjdcoidoaaW.PrintLast Go.Proofs.YtobfgnjdcoidoaaW.PrintMore
attribute [local go_sem] max2_int min2_int max_two min_two max_three min_three max_four min_four   -- for this text's walks alone
set_option linter.unusedVariables false
set_option linter.unusedSimpArgs false
/-! ### spec_CountOf: function 65 -/
def spec_CountOf.l0 : Nat → Int → Int → List Int → Int → List (S80) → Option (Int)
 | 0, _, _, _, _, _ => none
 | k + 1, x3, x4, x625000, x625001, x625002 => if x4 < (x625002.length : Int) then (if 0 ≤ x4 then (spec_CountOf.l0 k (wrap64 (x3 + (wrap64 ((((rd_T80 x625002 x4).f0).length : Int) + (((rd_T80 x625002 x4).f1).length : Int))))) (wrap64 (x4 + 1)) x625000 x625001 x625002) else (none)) else (some x3)
def spec_CountOf.f (k : Nat) (l0_0 : List Int) (a0_1 : Int) (l0_2 : List (S80)) : Option (Int) := spec_CountOf.l0 k (l0_0.length : Int) 0 l0_0 a0_1 l0_2
theorem spec_CountOf.mono_l : ∀ k, (∀ y0 y1 y2 y3 y4, LeO (spec_CountOf.l0 k y0 y1 y2 y3 y4) (spec_CountOf.l0 (k + 1) y0 y1 y2 y3 y4))
 | 0 => fun _ _ _ _ _ r h => by simp [spec_CountOf.l0] at h
 | k + 1 => by
  have ih0 := spec_CountOf.mono_l k
  ·intro y0 y1 y2 y3 y4
   unfold spec_CountOf.l0
   repeat' first
   | (with_reducible exact ih0 _ _ _ _ _)
   | (with_reducible exact LeO.refl _)
   | (with_reducible exact LeO.none _)
   | (with_reducible refine LeO.ite ?_ ?_)
   | (with_reducible refine LeO.bind ?_ (fun _ => ?_))
   | exact ih0 _ _ _ _ _
   | exact LeO.none _
   | refine LeO.ite ?_ ?_
   | refine LeO.bind ?_ (fun _ => ?_)
theorem spec_CountOf.mono : ∀ a0 a1 a2 k, LeO (spec_CountOf.f k a0 a1 a2) (spec_CountOf.f (k + 1) a0 a1 a2) := by
 intro a0 a1 a2 k
 have ih0 := spec_CountOf.mono_l k
 unfold spec_CountOf.f
 repeat' first
   | (with_reducible exact ih0 _ _ _ _ _)
   | (with_reducible exact LeO.refl _)
   | (with_reducible exact LeO.none _)
   | (with_reducible refine LeO.ite ?_ ?_)
   | (with_reducible refine LeO.bind ?_ (fun _ => ?_))
   | exact ih0 _ _ _ _ _
   | exact LeO.none _
   | refine LeO.ite ?_ ?_
   | refine LeO.bind ?_ (fun _ => ?_)
set_option maxHeartbeats 8000000 in
set_option maxRecDepth 100000 in
theorem spec_CountOf.calls (k : Nat) (A0_0 : Option Addr) (c0_0 : Nat) (l0_0 : List Int) (a0_1 : Int) (A0_2 : Option Addr) (c0_2 : Nat) (l0_2 : List (S80)) (r : Int) (w : World) (hr0_0 : Kd.C (Kd.int .i64) w A0_0 l0_0.length l0_0) (hc0_0 : l0_0.length ≤ c0_0) (hr0_2 : Kd.C k80 w A0_2 l0_2.length l0_2) (hc0_2 : l0_2.length ≤ c0_2) (h : spec_CountOf.f k l0_0 a0_1 l0_2 = some r) :
  Calls Try.prog 65 #[.agg #[.slice A0_0 l0_0.length c0_0, .int .i64 a0_1, .slice A0_2 l0_2.length c0_2]] w fun e w' => e = .returned (.int .i64 r) ∧ Below w.heap.size w w' := by
 have hu30 := Try.underlying30
 have HR0_0 := Aside0.mk hr0_0
 have HC0_0 := Aside0.mk hc0_0
 clear hr0_0 hc0_0
 have HR0_2 := Aside0.mk hr0_2
 have HC0_2 := Aside0.mk hc0_2
 clear hr0_2 hc0_2
 have HB := Aside0.mk (Below.refl w.heap.size w)
 have H : (spec_CountOf.l0 k (l0_0.length : Int) 0 l0_0 a0_1 l0_2) = some r := h
 clear h
 have H' := Aside0.mk H
 clear H
 go_enter Try.func65, Try.ntmps65
 go_wp2_with (first | ((with_reducible refine gate_dst (N := 1) rfl ?_); refine box_event ?hg (N := 1) ?hd (cs := #[.slice A0_0 l0_0.length c0_0, .int .i64 a0_1, .slice A0_2 l0_2.length c0_2]) (t := 30) ?hr ?_; (case hd => rfl); (case hg => rfl); (case hr => first | (go_simp; done) | (go_simp; rfl)); intro gb624 hg w2 hbox hb; have n0_ := Aside0.mk (below_step hB_ hb); have n1_ := Aside0.mk (hbox); have n2_ := Aside0.mk ((sz_ hg (below_size hB_) : w.heap.size ≤ gb624)); have n3_ := Aside0.mk ((sz_ hg (below_size hB_) : w.heap.size ≤ gb624)); clear HB; have HB := n0_; have BK624 := n1_; have GW624 := n2_; have GE624 := n3_; clear n0_ n1_ n2_ n3_; clear hb hbox hg; obtain ⟨hcz3_0, hcz3_1, hcz3_2, hfz3_0, hfz3_1, hfz3_2⟩ := blkc3_ BK624.out))
 repeat (go_quiet (first | ((with_reducible refine gate_dst (N := 1) rfl ?_); refine box_event ?hg (N := 1) ?hd (cs := #[.slice A0_0 l0_0.length c0_0, .int .i64 a0_1, .slice A0_2 l0_2.length c0_2]) (t := 30) ?hr ?_; (case hd => rfl); (case hg => rfl); (case hr => first | (go_simp; done) | (go_simp; rfl)); intro gb624 hg w2 hbox hb; have n0_ := Aside0.mk (below_step hB_ hb); have n1_ := Aside0.mk (hbox); have n2_ := Aside0.mk ((sz_ hg (below_size hB_) : w.heap.size ≤ gb624)); have n3_ := Aside0.mk ((sz_ hg (below_size hB_) : w.heap.size ≤ gb624)); clear HB; have HB := n0_; have BK624 := n1_; have GW624 := n2_; have GE624 := n3_; clear n0_ n1_ n2_ n3_; clear hb hbox hg; obtain ⟨hcz3_0, hcz3_1, hcz3_2, hfz3_0, hfz3_1, hfz3_2⟩ := blkc3_ BK624.out)); try go_wp2_with (first | ((with_reducible refine gate_dst (N := 1) rfl ?_); refine box_event ?hg (N := 1) ?hd (cs := #[.slice A0_0 l0_0.length c0_0, .int .i64 a0_1, .slice A0_2 l0_2.length c0_2]) (t := 30) ?hr ?_; (case hd => rfl); (case hg => rfl); (case hr => first | (go_simp; done) | (go_simp; rfl)); intro gb624 hg w2 hbox hb; have n0_ := Aside0.mk (below_step hB_ hb); have n1_ := Aside0.mk (hbox); have n2_ := Aside0.mk ((sz_ hg (below_size hB_) : w.heap.size ≤ gb624)); have n3_ := Aside0.mk ((sz_ hg (below_size hB_) : w.heap.size ≤ gb624)); clear HB; have HB := n0_; have BK624 := n1_; have GW624 := n2_; have GE624 := n3_; clear n0_ n1_ n2_ n3_; clear hb hbox hg; obtain ⟨hcz3_0, hcz3_1, hcz3_2, hfz3_0, hfz3_1, hfz3_2⟩ := blkc3_ BK624.out)))
 go_loopg [3, 4] k (fun kq v3 v4 w' => ∃ (x3_1 : Int) (x4_1 : Int), v3 = .int .i64 x3_1 ∧ v4 = .int .i64 x4_1 ∧ Aside0 (spec_CountOf.l0 kq x3_1 x4_1 l0_0 a0_1 l0_2 = some r) ∧ Aside0 (kq ≤ k) ∧ Aside0 (w'.heap[gb624]? = some (.cells #[(.slice A0_0 l0_0.length c0_0), .int .i64 a0_1, (.slice A0_2 l0_2.length c0_2)] 30 (0, 0))) ∧ Aside0 (Below w.heap.size w w'))
 case atStart => exact ⟨((l0_0.length : Int)), (0), rF_, rF_, H', ⟨Nat.le_refl _⟩, ⟨bK624_⟩, ⟨hS_⟩⟩
 case round =>
  clear H'
  try clear p2
  try clear hcz3_0 hcz3_1 hcz3_2 hfz3_0 hfz3_1 hfz3_2
  obtain ⟨x3_1, x4_1, rfl, rfl, HA, HK1, BK624, HB⟩ := hrel
  cases gk with
  | zero => exact absurd HA.out (by simp [spec_CountOf.l0])
  | succ k1 =>
   have H := HA.out
   clear HA
   simp only [spec_CountOf.l0] at H
   by_cases c4 : x4_1 < (l0_2.length : Int)
   ·rw [if_pos c4] at H
    have c4b0 : decide (x4_1 < (l0_2.length : Int)) = true := decide_eq_true c4
    clear c4
    by_cases c5 : 0 ≤ x4_1
    ·rw [if_pos c5] at H
     have c5b0 : decide (0 ≤ x4_1) = true := decide_eq_true c5
     clear c5
     have H' := Aside0.mk H
     clear H
     obtain ⟨hcz6_0, hcz6_1, hcz6_2, hfz6_0, hfz6_1, hfz6_2⟩ := blkc3_ BK624.out
     have p625 : 0 ≤ (x4_1 : Int) := oD_
     have q625 : x4_1 < (l0_2.length : Int) := oD_
     obtain ⟨ad625, A625_0, c625_0, A625_1, c625_1, e625, hx625_0, hx625_1, hx625_2, hx625_3, hx625_4, hx625_5, hl625_0, hi625_0, hl625_1, hi625_1⟩ := at_T80 HR0_2.out x4_1 p625 q625
     cases e625
     replace hx625_0 := hx_ HB.out hx625_0
     replace hx625_1 := hx_ HB.out hx625_1
     replace hx625_2 := hx_ HB.out hx625_2
     replace hx625_3 := hx_ HB.out hx625_3
     replace hx625_4 := hx_ HB.out hx625_4
     replace hx625_5 := hx_ HB.out hx625_5
     have HR625_0 := Aside0.mk hi625_0
     have HC625_0 := Aside0.mk hl625_0
     clear hi625_0 hl625_0
     have HR625_1 := Aside0.mk hi625_1
     have HC625_1 := Aside0.mk hl625_1
     clear hi625_1 hl625_1
     replace p625 := eq_true p625
     replace q625 := eq_true q625
     have p626 : 0 ≤ (x4_1 : Int) := oD_
     have q626 : x4_1 < (l0_2.length : Int) := oD_
     obtain ⟨ad626, A626_0, c626_0, A626_1, c626_1, e626, hx626_0, hx626_1, hx626_2, hx626_3, hx626_4, hx626_5, hl626_0, hi626_0, hl626_1, hi626_1⟩ := at_T80 HR0_2.out x4_1 p626 q626
     obtain rfl : ad625 = ad626 := (by injection e626)
     replace hx626_0 := hx_ HB.out hx626_0
     replace hx626_1 := hx_ HB.out hx626_1
     replace hx626_2 := hx_ HB.out hx626_2
     replace hx626_3 := hx_ HB.out hx626_3
     replace hx626_4 := hx_ HB.out hx626_4
     replace hx626_5 := hx_ HB.out hx626_5
     have HR626_0 := Aside0.mk hi626_0
     have HC626_0 := Aside0.mk hl626_0
     clear hi626_0 hl626_0
     have HR626_1 := Aside0.mk hi626_1
     have HC626_1 := Aside0.mk hl626_1
     clear hi626_1 hl626_1
     replace p626 := eq_true p626
     replace q626 := eq_true q626
     have ea_ := Option.some.inj (hx625_0.symm.trans hx626_0)
     injection ea_ with ea_ en_ ec_
     subst ea_
     subst ec_
     clear en_
     have ea_ := Option.some.inj (hx625_1.symm.trans hx626_1)
     injection ea_ with ea_ en_ ec_
     subst ea_
     subst ec_
     clear en_
     go_wp2
     repeat (go_quiet (fail); try go_wp2)
     go_roundg k1
     case measure => have := HK1.out; omega
     case rel => exact ⟨(wrap64 (x3_1 + (wrap64 ((((rd_T80 l0_2 x4_1).f0).length : Int) + (((rd_T80 l0_2 x4_1).f1).length : Int))))), (wrap64 (x4_1 + 1)), rF_, rF_, H', ⟨by have := HK1.out; omega⟩, ⟨bK624_⟩, ⟨hS_⟩⟩
    ·rw [if_neg c5] at H
     exact absurd H (by simp)
   ·rw [if_neg c4] at H
    have c4b0 : decide (x4_1 < (l0_2.length : Int)) = false := decide_eq_false c4
    clear c4
    obtain rfl := Option.some.inj H
    obtain ⟨hcz7_0, hcz7_1, hcz7_2, hfz7_0, hfz7_1, hfz7_2⟩ := blkc3_ BK624.out
    go_wp2
    repeat (go_quiet (fail); try go_wp2)
    go_ret
    exact ⟨rG_, hS_⟩
/-! ### impl_CountOf: function 72 -/
def impl_CountOf.l0 : Nat → Int → List (S80) → Int → Int → Option (Int)
 | 0, _, _, _, _ => none
 | k + 1, x3, x10, x11, x12 => if x12 < x11 then (if 0 ≤ x12 then (if x12 < (x10.length : Int) then (impl_CountOf.l0 k (wrap64 (x3 + (wrap64 ((((rd_T80 x10 x12).f0).length : Int) + (((rd_T80 x10 x12).f1).length : Int))))) x10 x11 (wrap64 (x12 + 1))) else (none)) else (none)) else (some x3)
def impl_CountOf.f (k : Nat) (l0_0 : List Int) (a0_1 : Int) (l0_2 : List (S80)) : Option (Int) := impl_CountOf.l0 k (l0_0.length : Int) l0_2 (l0_2.length : Int) 0
theorem impl_CountOf.mono_l : ∀ k, (∀ y0 y1 y2 y3, LeO (impl_CountOf.l0 k y0 y1 y2 y3) (impl_CountOf.l0 (k + 1) y0 y1 y2 y3))
 | 0 => fun _ _ _ _ r h => by simp [impl_CountOf.l0] at h
 | k + 1 => by
  have ih0 := impl_CountOf.mono_l k
  ·intro y0 y1 y2 y3
   unfold impl_CountOf.l0
   repeat' first
   | (with_reducible exact ih0 _ _ _ _)
   | (with_reducible exact LeO.refl _)
   | (with_reducible exact LeO.none _)
   | (with_reducible refine LeO.ite ?_ ?_)
   | (with_reducible refine LeO.bind ?_ (fun _ => ?_))
   | exact ih0 _ _ _ _
   | exact LeO.none _
   | refine LeO.ite ?_ ?_
   | refine LeO.bind ?_ (fun _ => ?_)
theorem impl_CountOf.mono : ∀ a0 a1 a2 k, LeO (impl_CountOf.f k a0 a1 a2) (impl_CountOf.f (k + 1) a0 a1 a2) := by
 intro a0 a1 a2 k
 have ih0 := impl_CountOf.mono_l k
 unfold impl_CountOf.f
 repeat' first
   | (with_reducible exact ih0 _ _ _ _)
   | (with_reducible exact LeO.refl _)
   | (with_reducible exact LeO.none _)
   | (with_reducible refine LeO.ite ?_ ?_)
   | (with_reducible refine LeO.bind ?_ (fun _ => ?_))
   | exact ih0 _ _ _ _
   | exact LeO.none _
   | refine LeO.ite ?_ ?_
   | refine LeO.bind ?_ (fun _ => ?_)
set_option maxHeartbeats 8000000 in
set_option maxRecDepth 100000 in
theorem impl_CountOf.calls (k : Nat) (A0_0 : Option Addr) (c0_0 : Nat) (l0_0 : List Int) (a0_1 : Int) (A0_2 : Option Addr) (c0_2 : Nat) (l0_2 : List (S80)) (r : Int) (w : World) (hr0_0 : Kd.C (Kd.int .i64) w A0_0 l0_0.length l0_0) (hc0_0 : l0_0.length ≤ c0_0) (hr0_2 : Kd.C k80 w A0_2 l0_2.length l0_2) (hc0_2 : l0_2.length ≤ c0_2) (h : impl_CountOf.f k l0_0 a0_1 l0_2 = some r) :
  Calls Try.prog 72 #[.agg #[.slice A0_0 l0_0.length c0_0, .int .i64 a0_1, .slice A0_2 l0_2.length c0_2]] w fun e w' => e = .returned (.int .i64 r) ∧ Below w.heap.size w w' := by
 have hu30 := Try.underlying30
 have hu80 := Try.underlying80
 have HR0_0 := Aside0.mk hr0_0
 have HC0_0 := Aside0.mk hc0_0
 clear hr0_0 hc0_0
 have HR0_2 := Aside0.mk hr0_2
 have HC0_2 := Aside0.mk hc0_2
 clear hr0_2 hc0_2
 have HB := Aside0.mk (Below.refl w.heap.size w)
 have H : (impl_CountOf.l0 k (l0_0.length : Int) l0_2 (l0_2.length : Int) 0) = some r := h
 clear h
 have H' := Aside0.mk H
 clear H
 go_enter Try.func72, Try.ntmps72
 go_wp2_with (first | ((with_reducible refine gate_dst (N := 1) rfl ?_); refine box_event ?hg (N := 1) ?hd (cs := #[.slice A0_0 l0_0.length c0_0, .int .i64 a0_1, .slice A0_2 l0_2.length c0_2]) (t := 30) ?hr ?_; (case hd => rfl); (case hg => rfl); (case hr => first | (go_simp; done) | (go_simp; rfl)); intro gb704 hg w2 hbox hb; have n0_ := Aside0.mk (below_step hB_ hb); have n1_ := Aside0.mk (hbox); have n2_ := Aside0.mk ((sz_ hg (below_size hB_) : w.heap.size ≤ gb704)); have n3_ := Aside0.mk ((sz_ hg (below_size hB_) : w.heap.size ≤ gb704)); clear HB; have HB := n0_; have BK704 := n1_; have GW704 := n2_; have GE704 := n3_; clear n0_ n1_ n2_ n3_; clear hb hbox hg; obtain ⟨hcz3_0, hcz3_1, hcz3_2, hfz3_0, hfz3_1, hfz3_2⟩ := blkc3_ BK704.out))
 go_loopg [3, 12] k (fun kq v3 v12 w' => ∃ (x3_1 : Int) (x12_1 : Int), v3 = .int .i64 x3_1 ∧ v12 = .int .i64 x12_1 ∧ Aside0 (impl_CountOf.l0 kq x3_1 l0_2 (l0_2.length : Int) x12_1 = some r) ∧ Aside0 (kq ≤ k) ∧ Aside0 (w'.heap[gb704]? = some (.cells #[(.slice A0_0 l0_0.length c0_0), .int .i64 a0_1, (.slice A0_2 l0_2.length c0_2)] 30 (0, 0))) ∧ Aside0 (Below w.heap.size w w'))
 case atStart => exact ⟨((l0_0.length : Int)), (0), rF_, rF_, H', ⟨Nat.le_refl _⟩, ⟨bK704_⟩, ⟨hS_⟩⟩
 case round =>
  clear H'
  try clear p2
  try clear hcz3_0 hcz3_1 hcz3_2 hfz3_0 hfz3_1 hfz3_2
  obtain ⟨x3_1, x12_1, rfl, rfl, HA, HK1, BK704, HB⟩ := hrel
  cases gk with
  | zero => exact absurd HA.out (by simp [impl_CountOf.l0])
  | succ k1 =>
   have H := HA.out
   clear HA
   simp only [impl_CountOf.l0] at H
   by_cases c4 : x12_1 < (l0_2.length : Int)
   ·rw [if_pos c4] at H
    have c4b0 : decide (x12_1 < (l0_2.length : Int)) = true := decide_eq_true c4
    clear c4
    by_cases c5 : 0 ≤ x12_1
    ·rw [if_pos c5] at H
     have c5b0 : decide (0 ≤ x12_1) = true := decide_eq_true c5
     clear c5
     by_cases c6 : x12_1 < (l0_2.length : Int)
     ·rw [if_pos c6] at H
      have c6b0 : decide (x12_1 < (l0_2.length : Int)) = true := decide_eq_true c6
      clear c6
      have H' := Aside0.mk H
      clear H
      have p705 : 0 ≤ (x12_1 : Int) := oD_
      have q705 : x12_1 < (l0_2.length : Int) := oD_
      obtain ⟨ad705, A705_0, c705_0, A705_1, c705_1, e705, hx705_0, hx705_1, hx705_2, hx705_3, hx705_4, hx705_5, hl705_0, hi705_0, hl705_1, hi705_1⟩ := at_T80 HR0_2.out x12_1 p705 q705
      cases e705
      replace hx705_0 := hx_ HB.out hx705_0
      replace hx705_1 := hx_ HB.out hx705_1
      replace hx705_2 := hx_ HB.out hx705_2
      replace hx705_3 := hx_ HB.out hx705_3
      replace hx705_4 := hx_ HB.out hx705_4
      replace hx705_5 := hx_ HB.out hx705_5
      have HR705_0 := Aside0.mk hi705_0
      have HC705_0 := Aside0.mk hl705_0
      clear hi705_0 hl705_0
      have HR705_1 := Aside0.mk hi705_1
      have HC705_1 := Aside0.mk hl705_1
      clear hi705_1 hl705_1
      replace p705 := eq_true p705
      replace q705 := eq_true q705
      go_wp2_with (first | ((with_reducible refine gate_dst (N := 5) rfl ?_); refine box_event ?hg (N := 5) ?hd (cs := #[.slice none 0 0, .slice none 0 0, .int .i64 0, .int .i64 0, .int .i64 0, .int .i64 0]) (t := 80) ?hr ?_; (case hd => rfl); (case hg => rfl); (case hr => first | (go_simp; done) | (go_simp; rfl)); intro gb706 hg w7 hbox hb; have n0_ := Aside0.mk (blk_below (g := gb704) (o := .cells #[.slice A0_0 l0_0.length c0_0, .int .i64 a0_1, .slice (some ad705) l0_2.length c0_2] 30 (0, 0)) bK704_ hb); have n1_ := Aside0.mk (below_step hS_ hb); have n2_ := Aside0.mk (hbox); have n3_ := Aside0.mk ((sz_ hg (below_size hS_) : w.heap.size ≤ gb706)); have n4_ := Aside0.mk ((sz_ hg (below_size hS_) : w.heap.size ≤ gb706)); have n5_ := Aside0.mk ((by rw [hg]; exact Nat.ne_of_lt (blk_lt (g := gb704) (o := .cells #[.slice A0_0 l0_0.length c0_0, .int .i64 a0_1, .slice (some ad705) l0_2.length c0_2] 30 (0, 0)) bK704_) : gb704 ≠ gb706)); have n6_ := Aside0.mk ((by rw [hg]; exact Nat.ne_of_gt (blk_lt (g := gb704) (o := .cells #[.slice A0_0 l0_0.length c0_0, .int .i64 a0_1, .slice (some ad705) l0_2.length c0_2] 30 (0, 0)) bK704_) : gb706 ≠ gb704)); clear BK704; clear HB; have BK704 := n0_; have HB := n1_; have BK706 := n2_; have GW706 := n3_; have GE706 := n4_; have NB704_706 := n5_; have NB706_704 := n6_; clear n0_ n1_ n2_ n3_ n4_ n5_ n6_; clear hb hbox hg; have hnb8 := NB706_704.out; have hnc8 := NB704_706.out; obtain ⟨hcz9_0, hcz9_1, hcz9_2, hcz9_3, hcz9_4, hcz9_5, hfz9_0, hfz9_1, hfz9_2, hfz9_3, hfz9_4, hfz9_5⟩ := blkc6_ BK706.out))
      go_roundg k1
      case measure => have := HK1.out; omega
      case rel => exact ⟨(wrap64 (x3_1 + (wrap64 ((((rd_T80 l0_2 x12_1).f0).length : Int) + (((rd_T80 l0_2 x12_1).f1).length : Int))))), (wrap64 (x12_1 + 1)), rF_, rF_, H', ⟨by have := HK1.out; omega⟩, ⟨fK704_⟩, ⟨hS_⟩⟩
     ·rw [if_neg c6] at H
      exact absurd H (by simp)
    ·rw [if_neg c5] at H
     exact absurd H (by simp)
   ·rw [if_neg c4] at H
    have c4b0 : decide (x12_1 < (l0_2.length : Int)) = false := decide_eq_false c4
    clear c4
    obtain rfl := Option.some.inj H
    go_wp2
    go_ret
    exact ⟨rG_, hS_⟩
end Go.Proofs.Ytobfgnjdcoidoaa.X
namespace Go.Proofs.Ytobfgnjdcoidoaa.X
set_option linter.unusedVariables false
set_option linter.unusedSimpArgs false
open Go.RowKit Go.Proofs.YtobfgnjdcoidoaaW.PrintWords Go.Proofs.YtobfgnjdcoidoaaW.PrintLast Go.Proofs.YtobfgnjdcoidoaaW.PrintMore
/-- How many ids there are. -/
def countOf (p : List Int) (l : List Block) : Int := len p + sumOf cntB l
/-- It is a function whose lists are small. -/
def Small (p : List Int) (l : List Block) : Prop := smI p ∧ smbs l ∧ countOf p l ≤ 1048576
/-- The frame of a law over a function: what is left to be shown is asked of small functions alone. -/
theorem small_of {p : List Int} {l : List LBlock} (h : len p + szBs l ≤ 1048576) : Small p (l.map cBlock) :=
  ⟨(sm_of_sz h).1, smbs_of (sm_of_sz h).2.1, cnt_le h⟩
theorem law_func {p : List Int} {r : Int} {l : List LBlock} (hw : wf25 ⟨p, r, l⟩) {g : Nat → Option Bool} (h : smI p → smBs l → Small p (l.map cBlock) → Ev g true) :
    Ev (fun k => (laws_szFunc.f k p r l 1048576).bind fun t => if t < 0 then some true else g k) true := by
  refine Ev.bind (szFunc_ev p r l hw 1048576 (by decide) (by decide)) ?_
  by_cases c : len p + szBs l ≤ 1048576
  · rw [show rem 1048576 (len p + szBs l) = 1048576 - (len p + szBs l) from if_pos c]
    exact Ev.ineg (by omega) (h (sm_of_sz c).1 (sm_of_sz c).2.1 (small_of c))
  · rw [show rem 1048576 (len p + szBs l) = -1 from if_neg c]
    exact Ev.ipos (by decide) (Ev.now true)
end Go.Proofs.Ytobfgnjdcoidoaa.X
namespace Go.Proofs.Ytobfgnjdcoidoaa.X
open Go.RowKit Go.Proofs.YtobfgnjdcoidoaaW.PrintWords Go.Proofs.YtobfgnjdcoidoaaW.PrintLast Go.Proofs.YtobfgnjdcoidoaaW.PrintMore
attribute [local go_sem] max2_int min2_int max_two min_two max_three min_three max_four min_four   -- for this text's walks alone
set_option linter.unusedVariables false
set_option linter.unusedSimpArgs false
/-! ### impl_isBlockOf: function 31 -/
def impl_isBlockOf.f (l0_0 : List Int) (a0_1 : Int) (l0_2 : List (S80)) (a1 : Int) : Option (Bool) := (impl_isGraph.f l0_0 a0_1 l0_2).bind fun t244 => (if t244 = true then ((impl_within.f a1 0 (wrap64 ((l0_2.length : Int) - 1))).bind fun t245 => (some t245)) else (some false))
set_option maxHeartbeats 8000000 in
set_option maxRecDepth 100000 in
theorem impl_isBlockOf.calls (A0_0 : Option Addr) (c0_0 : Nat) (l0_0 : List Int) (a0_1 : Int) (A0_2 : Option Addr) (c0_2 : Nat) (l0_2 : List (S80)) (a1 : Int) (r : Bool) (w : World) (hr0_0 : Kd.C (Kd.int .i64) w A0_0 l0_0.length l0_0) (hc0_0 : l0_0.length ≤ c0_0) (hr0_2 : Kd.C k80 w A0_2 l0_2.length l0_2) (hc0_2 : l0_2.length ≤ c0_2) (h : impl_isBlockOf.f l0_0 a0_1 l0_2 a1 = some r) :
  Calls Try.prog 31 #[.agg #[.slice A0_0 l0_0.length c0_0, .int .i64 a0_1, .slice A0_2 l0_2.length c0_2], .int .i64 a1] w fun e w' => e = .returned (.bool r) ∧ Below w.heap.size w w' := by
 have hu30 := Try.underlying30
 have HR0_0 := Aside0.mk hr0_0
 have HC0_0 := Aside0.mk hc0_0
 clear hr0_0 hc0_0
 have HR0_2 := Aside0.mk hr0_2
 have HC0_2 := Aside0.mk hc0_2
 clear hr0_2 hc0_2
 have HB := Aside0.mk (Below.refl w.heap.size w)
 have H : ((impl_isGraph.f l0_0 a0_1 l0_2).bind fun t244 => (if t244 = true then ((impl_within.f a1 0 (wrap64 ((l0_2.length : Int) - 1))).bind fun t245 => (some t245)) else (some false))) = some r := h
 clear h
 replace H := Option.bind_eq_some_iff.mp H
 obtain ⟨t244, A30, H⟩ := H
 replace H : (if t244 = true then ((impl_within.f a1 0 (wrap64 ((l0_2.length : Int) - 1))).bind fun t245 => (some t245)) else (some false)) = some r := H
 have A3 := Aside0.mk A30
 clear A30
 by_cases c4 : t244 = true
 ·subst c4
  have H1 := (if_pos rfl).symm.trans H
  clear H
  have H := H1
  clear H1
  replace H := Option.bind_eq_some_iff.mp H
  obtain ⟨t245, A50, H⟩ := H
  replace H : (some t245) = some r := H
  have A5 := Aside0.mk A50
  clear A50
  obtain rfl := Option.some.inj H
  go_enter Try.func31, Try.ntmps31
  go_wp2_with (first | ((with_reducible refine gate_dst (N := 2) rfl ?_); (try (refine gate_guard (by rfl) ?_; dsimp only)); refine box_event ?hg (N := 2) ?hd (cs := #[.slice A0_0 l0_0.length c0_0, .int .i64 a0_1, .slice A0_2 l0_2.length c0_2]) (t := 30) ?hr ?_; (case hd => rfl); (case hg => rfl); (case hr => first | (go_simp; done) | (go_simp; rfl)); intro gb243 hg w6 hbox hb; have n0_ := Aside0.mk (below_step hB_ hb); have n1_ := Aside0.mk (hbox); have n2_ := Aside0.mk ((sz_ hg (below_size hB_) : w.heap.size ≤ gb243)); have n3_ := Aside0.mk ((sz_ hg (below_size hB_) : w.heap.size ≤ gb243)); clear HB; have HB := n0_; have BK243 := n1_; have GW243 := n2_; have GE243 := n3_; clear n0_ n1_ n2_ n3_; clear hb hbox hg; obtain ⟨hcz7_0, hcz7_1, hcz7_2, hfz7_0, hfz7_1, hfz7_2⟩ := blkc3_ BK243.out) | ((with_reducible refine gate_callee (f := 36) rfl ?_); refine gL_ (some 6) Try.func36 #[.agg #[.slice A0_0 l0_0.length c0_0, .int .i64 a0_1, .slice A0_2 l0_2.length c0_2]] ?_; (with_reducible refine (impl_isGraph.calls _ _ l0_0 a0_1 _ _ l0_2 true _ ?side1 ?side2 ?side3 ?side4 A3.out).mono ?_); (case side1 => exact cHR0_0_); (case side2 => exact HC0_0.out); (case side3 => exact cHR0_2_); (case side4 => exact HC0_2.out); rintro e w8 ⟨rfl, hb⟩; refine ⟨_, rfl, ?_⟩; have n0_ := Aside0.mk (blk_below (g := gb243) (o := .cells #[.slice A0_0 l0_0.length c0_0, .int .i64 a0_1, .slice A0_2 l0_2.length c0_2] 30 (0, 0)) bK243_ hb); have n1_ := Aside0.mk (below_step hS_ hb); clear BK243; clear HB; have BK243 := n0_; have HB := n1_; clear n0_ n1_; (try clear hb); (try clear hb2); (try clear hk); (try clear hi); obtain ⟨hcz9_0, hcz9_1, hcz9_2, hfz9_0, hfz9_1, hfz9_2⟩ := blkc3_ BK243.out) | (go_at_call 45; (with_reducible refine (impl_within.calls a1 0 (wrap64 ((l0_2.length : Int) - 1)) t245 _ A5.out).mono ?_); rintro e w' ⟨rfl, ⟨nd, rfl⟩⟩))
  go_ret
  exact ⟨rG_, hS_⟩
 ·replace c4 := Bool.eq_false_iff.mpr c4
  subst c4
  have H1 := (if_neg (show ¬ (false = true) by decide)).symm.trans H
  clear H
  have H := H1
  clear H1
  obtain rfl := Option.some.inj H
  go_enter Try.func31, Try.ntmps31
  go_wp2_with (first | ((with_reducible refine gate_dst (N := 2) rfl ?_); (try (refine gate_guard (by rfl) ?_; dsimp only)); refine box_event ?hg (N := 2) ?hd (cs := #[.slice A0_0 l0_0.length c0_0, .int .i64 a0_1, .slice A0_2 l0_2.length c0_2]) (t := 30) ?hr ?_; (case hd => rfl); (case hg => rfl); (case hr => first | (go_simp; done) | (go_simp; rfl)); intro gb243 hg w10 hbox hb; have n0_ := Aside0.mk (below_step hB_ hb); have n1_ := Aside0.mk (hbox); have n2_ := Aside0.mk ((sz_ hg (below_size hB_) : w.heap.size ≤ gb243)); have n3_ := Aside0.mk ((sz_ hg (below_size hB_) : w.heap.size ≤ gb243)); clear HB; have HB := n0_; have BK243 := n1_; have GW243 := n2_; have GE243 := n3_; clear n0_ n1_ n2_ n3_; clear hb hbox hg; obtain ⟨hcz11_0, hcz11_1, hcz11_2, hfz11_0, hfz11_1, hfz11_2⟩ := blkc3_ BK243.out) | ((with_reducible refine gate_callee (f := 36) rfl ?_); refine gL_ (some 6) Try.func36 #[.agg #[.slice A0_0 l0_0.length c0_0, .int .i64 a0_1, .slice A0_2 l0_2.length c0_2]] ?_; (with_reducible refine (impl_isGraph.calls _ _ l0_0 a0_1 _ _ l0_2 false _ ?side1 ?side2 ?side3 ?side4 A3.out).mono ?_); (case side1 => exact cHR0_0_); (case side2 => exact HC0_0.out); (case side3 => exact cHR0_2_); (case side4 => exact HC0_2.out); rintro e w12 ⟨rfl, hb⟩; refine ⟨_, rfl, ?_⟩; have n0_ := Aside0.mk (blk_below (g := gb243) (o := .cells #[.slice A0_0 l0_0.length c0_0, .int .i64 a0_1, .slice A0_2 l0_2.length c0_2] 30 (0, 0)) bK243_ hb); have n1_ := Aside0.mk (below_step hS_ hb); clear BK243; clear HB; have BK243 := n0_; have HB := n1_; clear n0_ n1_; (try clear hb); (try clear hb2); (try clear hk); (try clear hi)))
  go_ret
  exact ⟨rG_, hS_⟩
/-! ### impl_reach: function 40 -/
def impl_reach.l0 : Nat → Int → List Bool → List Int → List Int → Int → List (S80) → Option (List Bool)
 | 0, _, _, _, _, _, _ => none
 | k + 1, x1, x5, x6, x540000, x540001, x540002 => if (x6.length : Int) > 0 then (if 0 < (x6.length : Int) then (if 1 ≤ (x6.length : Int) then ((some (x6.drop (1 : Int).toNat : List Int)).bind fun y547 => (if (rd x6 0) = x1 then (impl_reach.l0 k x1 x5 y547 x540000 x540001 x540002) else (if 0 ≤ (rd x6 0) then (if (rd x6 0) < (x5.length : Int) then (if rdOf false x5 (rd x6 0) = true then (impl_reach.l0 k x1 x5 y547 x540000 x540001 x540002) else (if (rd x6 0) < (x540002.length : Int) then ((impl_leadsTo.f ((rd_T80 x540002 (rd x6 0)).f2.f0) ((rd_T80 x540002 (rd x6 0)).f2.f1) ((rd_T80 x540002 (rd x6 0)).f2.f2) ((rd_T80 x540002 (rd x6 0)).f2.f3)).bind fun t553 => (if y547.length + t553.length < 17592186044416 then (impl_reach.l0 k x1 (x5.set ((rd x6 0) : Int).toNat true) (y547 ++ t553) x540000 x540001 x540002) else (none))) else (none))) else (none)) else (none)))) else (none)) else (none)) else (some x5)
def impl_reach.f (k : Nat) (l0_0 : List Int) (a0_1 : Int) (l0_2 : List (S80)) (a1 : Int) : Option (List Bool) := if 0 ≤ (l0_2.length : Int) then (if ((l0_2.length : Int) : Int).toNat ≤ 281474976710656 then (impl_reach.l0 k a1 (List.replicate ((l0_2.length : Int) : Int).toNat false) (([0] : List Int)) l0_0 a0_1 l0_2) else (none)) else (none)
theorem impl_reach.mono_l : ∀ k, (∀ y0 y1 y2 y3 y4 y5, LeO (impl_reach.l0 k y0 y1 y2 y3 y4 y5) (impl_reach.l0 (k + 1) y0 y1 y2 y3 y4 y5))
 | 0 => fun _ _ _ _ _ _ r h => by simp [impl_reach.l0] at h
 | k + 1 => by
  have ih0 := impl_reach.mono_l k
  ·intro y0 y1 y2 y3 y4 y5
   unfold impl_reach.l0
   repeat' first
   | (with_reducible exact ih0 _ _ _ _ _ _)
   | (with_reducible exact LeO.refl _)
   | (with_reducible exact LeO.none _)
   | (with_reducible refine LeO.ite ?_ ?_)
   | (with_reducible refine LeO.bind ?_ (fun _ => ?_))
   | exact ih0 _ _ _ _ _ _
   | exact LeO.none _
   | refine LeO.ite ?_ ?_
   | refine LeO.bind ?_ (fun _ => ?_)
theorem impl_reach.mono : ∀ a0 a1 a2 a3 k, LeO (impl_reach.f k a0 a1 a2 a3) (impl_reach.f (k + 1) a0 a1 a2 a3) := by
 intro a0 a1 a2 a3 k
 have ih0 := impl_reach.mono_l k
 unfold impl_reach.f
 repeat' first
   | (with_reducible exact ih0 _ _ _ _ _ _)
   | (with_reducible exact LeO.refl _)
   | (with_reducible exact LeO.none _)
   | (with_reducible refine LeO.ite ?_ ?_)
   | (with_reducible refine LeO.bind ?_ (fun _ => ?_))
   | exact ih0 _ _ _ _ _ _
   | exact LeO.none _
   | refine LeO.ite ?_ ?_
   | refine LeO.bind ?_ (fun _ => ?_)
set_option maxHeartbeats 8000000 in
set_option maxRecDepth 100000 in
theorem impl_reach.calls (k : Nat) (A0_0 : Option Addr) (c0_0 : Nat) (l0_0 : List Int) (a0_1 : Int) (A0_2 : Option Addr) (c0_2 : Nat) (l0_2 : List (S80)) (a1 : Int) (r : List Bool) (w : World) (hr0_0 : Kd.C (Kd.int .i64) w A0_0 l0_0.length l0_0) (hc0_0 : l0_0.length ≤ c0_0) (hr0_2 : Kd.C k80 w A0_2 l0_2.length l0_2) (hc0_2 : l0_2.length ≤ c0_2) (h : impl_reach.f k l0_0 a0_1 l0_2 a1 = some r) :
  Calls Try.prog 40 #[.agg #[.slice A0_0 l0_0.length c0_0, .int .i64 a0_1, .slice A0_2 l0_2.length c0_2], .int .i64 a1] w fun e w' => ∃ v0_ : Value, e = .returned (v0_) ∧ Kd.R Kd.bool 4 w' w.heap.size (fun _ => True) v0_ r ∧ Below w.heap.size w w' := by
 have hu30 := Try.underlying30
 have hu78 := Try.underlying78
 have HR0_0 := Aside0.mk hr0_0
 have HC0_0 := Aside0.mk hc0_0
 clear hr0_0 hc0_0
 have HR0_2 := Aside0.mk hr0_2
 have HC0_2 := Aside0.mk hc0_2
 clear hr0_2 hc0_2
 have HB := Aside0.mk (Below.refl w.heap.size w)
 have H : (if 0 ≤ (l0_2.length : Int) then (if ((l0_2.length : Int) : Int).toNat ≤ 281474976710656 then (impl_reach.l0 k a1 (List.replicate ((l0_2.length : Int) : Int).toNat false) (([0] : List Int)) l0_0 a0_1 l0_2) else (none)) else (none)) = some r := h
 clear h
 by_cases c3 : 0 ≤ (l0_2.length : Int)
 ·rw [if_pos c3] at H
  have c3b0 := eq_true c3
  have c3b1 : decide (0 ≤ (l0_2.length : Int)) = true := decide_eq_true c3
  clear c3
  by_cases c4 : ((l0_2.length : Int) : Int).toNat ≤ 281474976710656
  ·rw [if_pos c4] at H
   have c4b0 := eq_true c4
   have c4b1 : decide (((l0_2.length : Int) : Int).toNat ≤ 281474976710656) = true := decide_eq_true c4
   clear c4
   obtain ⟨y540, hy540⟩ : ∃ y_ : List Bool, y_ = (List.replicate ((l0_2.length : Int) : Int).toNat false) := ⟨_, rfl⟩
   replace H : (impl_reach.l0 k a1 y540 (([0] : List Int)) l0_0 a0_1 l0_2) = some r := by first | (rw [hy540]; with_reducible exact H) | (have H2_ := (Option.bind_some _ _).symm.trans H; rw [hy540]; with_reducible exact H2_) | (have H2_ := (Option.bind_some _ _).symm.trans H; with_reducible exact H2_) | with_reducible exact H | (rw [hy540]; exact H) | exact H
   have Ny540 := Aside0.mk hy540
   clear hy540
   obtain ⟨y543, hy543⟩ : ∃ y_ : List Int, y_ = (([0] : List Int)) := ⟨_, rfl⟩
   replace H : (impl_reach.l0 k a1 y540 y543 l0_0 a0_1 l0_2) = some r := by first | (rw [hy543]; with_reducible exact H) | (have H2_ := (Option.bind_some _ _).symm.trans H; rw [hy543]; with_reducible exact H2_) | (have H2_ := (Option.bind_some _ _).symm.trans H; with_reducible exact H2_) | with_reducible exact H | (rw [hy543]; exact H) | exact H
   have Ny543 := Aside0.mk hy543
   clear hy543
   have H' := Aside0.mk H
   clear H
   go_enter Try.func40, Try.ntmps40
   go_wp2_with (first | ((with_reducible refine gate_dst (N := 2) rfl ?_); refine box_event ?hg (N := 2) ?hd (cs := #[.slice A0_0 l0_0.length c0_0, .int .i64 a0_1, .slice A0_2 l0_2.length c0_2]) (t := 30) ?hr ?_; (case hd => rfl); (case hg => rfl); (case hr => first | (go_simp; done) | (go_simp; rfl)); intro gb539 hg w5 hbox hb; have n0_ := Aside0.mk (below_step hB_ hb); have n1_ := Aside0.mk (hbox); have n2_ := Aside0.mk ((sz_ hg (below_size hB_) : w.heap.size ≤ gb539)); have n3_ := Aside0.mk ((sz_ hg (below_size hB_) : w.heap.size ≤ gb539)); clear HB; have HB := n0_; have BK539 := n1_; have GW539 := n2_; have GE539 := n3_; clear n0_ n1_ n2_ n3_; clear hb hbox hg; obtain ⟨hcz6_0, hcz6_1, hcz6_2, hfz6_0, hfz6_1, hfz6_2⟩ := blkc3_ BK539.out) | ((with_reducible refine gate_dst (N := 11) rfl ?_); refine Kd.R_make Kd.bool _ 4 rfl (N := 11) rfl 60 _ _ rfl (l0_2.length : Int) rfl rfl Try.underlying60 (.bool false) 1 info4 rfl (by decide) (by omega) false (ok := fun _ => True) (okp := fun _ => True) rfl (fun _ hk => hk) trivial (oD_) (Nat.le_trans (Nat.mul_le_mul_right _ (oD_ : (l0_2.length : Int).toNat ≤ 281474976710656)) (by omega)) (Below.refl _ _) (Nat.le_refl _) ?_; intro v541 w7 ho8 hb hg_ hnew_; clear hg_ hnew_; (first | rw [← Ny540.out] at ho8 | (simp only [Int.reduceToNat] at ho8; rw [← Ny540.out] at ho8)); have n0_ := Aside0.mk (Kd.R_lower ho8 (below_size hS_)); have n1_ := Aside0.mk (blk_below (g := gb539) (o := .cells #[.slice A0_0 l0_0.length c0_0, .int .i64 a0_1, .slice A0_2 l0_2.length c0_2] 30 (0, 0)) bK539_ hb); have n2_ := Aside0.mk (below_step hS_ hb); clear BK539; clear HB; have HO542 := n0_; have BK539 := n1_; have HB := n2_; clear n0_ n1_ n2_; clear hb ho8) | ((with_reducible refine gate_dst (N := 12) rfl ?_); refine Kd.R_lit (Kd.int .i64) _ 2 ?hg (N := 12) ?hd (xs := ([0] : List Int)) (inner := [.int .i64 0]) (ok := fun _ => True) (okp := fun _ => True) ?hr ?hp (fun _ hk => hk) trivial (Below.refl _ _) (Nat.le_refl _) (by simp) ?_; (case hd => rfl); (case hg => rfl); (case hr => first | (go_simp; done) | (go_simp; rfl)); (case hp => exact (Reps.one (show Kd.M (Kd.int .i64) _ _ _ 0 [.int .i64 0] from rfl) (Reps.none _ _))); intro v544 w9 ho10 hb hg_ hnew_; clear hg_ hnew_; (first | rw [← Ny543.out] at ho10 | (simp only [Int.reduceToNat] at ho10; rw [← Ny543.out] at ho10)); have n0_ := Aside0.mk (Kd.R_below rHO542_ hb); have n1_ := Aside0.mk (Kd.R_lower ho10 (below_size hS_)); have n2_ := Aside0.mk (blk_below (g := gb539) (o := .cells #[.slice A0_0 l0_0.length c0_0, .int .i64 a0_1, .slice A0_2 l0_2.length c0_2] 30 (0, 0)) bK539_ hb); have n3_ := Aside0.mk (below_step hS_ hb); clear HO542; clear BK539; clear HB; have HO542 := n0_; have HO545 := n1_; have BK539 := n2_; have HB := n3_; clear n0_ n1_ n2_ n3_; clear hb ho10))
   go_loopg [6] k (fun kq v6 w' => ∃ (x5_1 : List Bool) (x6_1 : List Int), Aside0 (impl_reach.l0 kq a1 x5_1 x6_1 l0_0 a0_1 l0_2 = some r) ∧ Aside0 (kq ≤ k) ∧ Aside0 (Kd.R Kd.bool 4 w' w.heap.size (fun _ => True) v541 x5_1) ∧ Aside0 (Kd.Q (Kd.int .i64) 2 w' w.heap.size (fun _ => True) v6 x6_1) ∧ Aside0 (w'.heap[gb539]? = some (.cells #[(.slice A0_0 l0_0.length c0_0), .int .i64 a0_1, (.slice A0_2 l0_2.length c0_2)] 30 (0, 0))) ∧ Aside0 (Below w.heap.size w w'))
   case atStart => exact ⟨(y540), (y543), H', ⟨Nat.le_refl _⟩, ⟨rHO542_⟩, ⟨Kd.Q_of_R rHO545_⟩, ⟨bK539_⟩, ⟨hS_⟩⟩
   case round =>
    clear H'
    try clear p2
    try clear c3
    try clear c3b0
    try clear c3b1
    try clear c4
    try clear c4b0
    try clear c4b1
    try clear hcz6_0 hcz6_1 hcz6_2 hfz6_0 hfz6_1 hfz6_2
    obtain ⟨x5_1, x6_1, HA, HK1, HO_5, HO_6, BK539, HB⟩ := hrel
    cases gk with
    | zero => exact absurd HA.out (by simp [impl_reach.l0])
    | succ k1 =>
     have H := HA.out
     clear HA
     simp only [impl_reach.l0] at H
     by_cases c11 : (x6_1.length : Int) > 0
     ·rw [if_pos c11] at H
      have c11b0 : decide (0 < (x6_1.length : Int)) = true := decide_eq_true c11
      have c11b1 : decide (0 < x6_1.length) = true := decide_eq_true (by omega)
      clear c11
      by_cases c12 : 0 < (x6_1.length : Int)
      ·rw [if_pos c12] at H
       have c12b0 : decide (0 < (x6_1.length : Int)) = true := decide_eq_true c12
       have c12b1 : decide (0 < x6_1.length) = true := decide_eq_true (by omega)
       clear c12
       by_cases c13 : 1 ≤ (x6_1.length : Int)
       ·rw [if_pos c13] at H
        have c13b0 := eq_true c13
        have c13b1 : decide (1 ≤ (x6_1.length : Int)) = true := decide_eq_true c13
        clear c13
        obtain ⟨y547, hy547⟩ : ∃ y_ : List Int, y_ = (x6_1.drop (1 : Int).toNat) := ⟨_, rfl⟩
        replace H : (if (rd x6_1 0) = a1 then (impl_reach.l0 k1 a1 x5_1 y547 l0_0 a0_1 l0_2) else (if 0 ≤ (rd x6_1 0) then (if (rd x6_1 0) < (x5_1.length : Int) then (if rdOf false x5_1 (rd x6_1 0) = true then (impl_reach.l0 k1 a1 x5_1 y547 l0_0 a0_1 l0_2) else (if (rd x6_1 0) < (l0_2.length : Int) then ((impl_leadsTo.f ((rd_T80 l0_2 (rd x6_1 0)).f2.f0) ((rd_T80 l0_2 (rd x6_1 0)).f2.f1) ((rd_T80 l0_2 (rd x6_1 0)).f2.f2) ((rd_T80 l0_2 (rd x6_1 0)).f2.f3)).bind fun t553 => (if y547.length + t553.length < 17592186044416 then (impl_reach.l0 k1 a1 (x5_1.set ((rd x6_1 0) : Int).toNat true) (y547 ++ t553) l0_0 a0_1 l0_2) else (none))) else (none))) else (none)) else (none))) = some r := by first | (rw [hy547]; with_reducible exact H) | (have H2_ := (Option.bind_some _ _).symm.trans H; rw [hy547]; with_reducible exact H2_) | (have H2_ := (Option.bind_some _ _).symm.trans H; with_reducible exact H2_) | with_reducible exact H | (rw [hy547]; exact H) | exact H
        have Ny547 := Aside0.mk hy547
        clear hy547
        by_cases c14 : (rd x6_1 0) = a1
        ·rw [if_pos c14] at H
         have c14b0 : ((rd x6_1 0) == a1) = true := beq_iff_eq.mpr c14
         have c14b1 : ((rd x6_1 0) != a1) = false := bne_eq_false_iff_eq.mpr c14
         clear c14
         have H' := Aside0.mk H
         clear H
         obtain ⟨Ao15, co15, eo15, _⟩ := Kd.Q_slice HO_6.out
         subst eo15
         have p546 : 0 ≤ (0 : Int) := (by omega)
         have q546 : 0 < (x6_1.length : Int) := oD_
         obtain ⟨ad546, e546, hx546_0⟩ := Kd.at_int (Kd.Q_reads' HO_6.out).2.2 0 p546 q546
         cases e546
         have qi546 : (0 < x6_1.length) = True := eq_true (by omega)
         (try rw [show ((0 : Int)).toNat = 0 from rfl] at hx546_0)
         (try rw [Addr.add_zero'] at hx546_0)
         replace p546 := eq_true p546
         replace q546 := eq_true q546
         have q16 : (1 : Int) ≤ ((x6_1.length : Int) : Int) := oD_
         obtain ⟨i016, hi016, _, hsz16, _⟩ := info_parts info2
         have hcut16 := cut_from (P := Try.prog) 22 2 .i64 Try.underlying22 hi016 1 hsz16 (some ad546) x6_1.length co15 1 (by omega) q16
         have hr16 := Kd.Q_drop (k := (1 : Int).toNat) HO_6.out (by omega)
         obtain ⟨A16, hA16⟩ : ∃ A1, A1 = (if co15 = (1 : Int).toNat then (some ad546) else ((some ad546) : Option Addr).map (·.add ((1 : Int).toNat * 1))) := ⟨_, rfl⟩
         obtain ⟨c16, hc16⟩ : ∃ c1, c1 = co15 - (1 : Int).toNat := ⟨_, rfl⟩
         have hy16 : y547.length = x6_1.length - (1 : Int).toNat := (by rw [Ny547.out, List.length_drop])
         rw [← Ny547.out] at hr16
         rw [← hy16, ← hA16, ← hc16] at hcut16
         replace hr16 : Kd.Q (Kd.int .i64) 2 wr w.heap.size (fun _ => True) (.slice A16 y547.length c16) y547 := (by rw [hA16, hc16, hy16]; exact hr16)
         have HE16 : Aside0 ((Value.slice A16 y547.length c16).ownBlock = (.slice (some ad546) x6_1.length co15 : Value).ownBlock) := ⟨by rw [hA16]; split <;> (cases ((some ad546) : Option Addr) <;> rfl)⟩
         clear hy16 hi016 hsz16 HO_6 hA16 hc16
         have HO549 := Aside0.mk hr16
         clear hr16
         replace q16 := eq_true q16
         go_wp2
         go_roundg k1
         case measure => have := HK1.out; omega
         case rel => exact ⟨(x5_1), (y547), H', ⟨by have := HK1.out; omega⟩, ⟨rHO_5_⟩, ⟨by (with_reducible repeat (first | apply Kd.Q_alloc | apply Kd.Q_drewN | apply Kd.Q_drew)); exact HO549.out⟩, ⟨bK539_⟩, ⟨hS_⟩⟩
        ·rw [if_neg c14] at H
         have c14b0 : ((rd x6_1 0) == a1) = false := beq_eq_false_iff_ne.mpr c14
         have c14b1 : ((rd x6_1 0) != a1) = true := bne_iff_ne.mpr c14
         by_cases c17 : 0 ≤ (rd x6_1 0)
         ·rw [if_pos c17] at H
          have c17b0 : decide (0 ≤ (rd x6_1 0)) = true := decide_eq_true c17
          clear c17
          by_cases c18 : (rd x6_1 0) < (x5_1.length : Int)
          ·rw [if_pos c18] at H
           have c18b0 : decide ((rd x6_1 0) < (x5_1.length : Int)) = true := decide_eq_true c18
           clear c18
           obtain ⟨bq19, hbq19⟩ : ∃ b_ : Bool, b_ = (rdOf false x5_1 (rd x6_1 0)) := ⟨_, rfl⟩
           replace H : (if bq19 = true then (impl_reach.l0 k1 a1 x5_1 y547 l0_0 a0_1 l0_2) else (if (rd x6_1 0) < (l0_2.length : Int) then ((impl_leadsTo.f ((rd_T80 l0_2 (rd x6_1 0)).f2.f0) ((rd_T80 l0_2 (rd x6_1 0)).f2.f1) ((rd_T80 l0_2 (rd x6_1 0)).f2.f2) ((rd_T80 l0_2 (rd x6_1 0)).f2.f3)).bind fun t553 => (if y547.length + t553.length < 17592186044416 then (impl_reach.l0 k1 a1 (x5_1.set ((rd x6_1 0) : Int).toNat true) (y547 ++ t553) l0_0 a0_1 l0_2) else (none))) else (none))) = some r := by rw [← hbq19] at H; exact H
           have Nbq19 := Aside0.mk hbq19
           clear hbq19
           by_cases c20 : bq19 = true
           ·subst c20
            have H1 := (if_pos rfl).symm.trans H
            clear H
            have H := H1
            clear H1
            have H' := Aside0.mk H
            clear H
            obtain ⟨Ao21, co21, eo21, _⟩ := Kd.Q_slice HO_6.out
            subst eo21
            have p546 : 0 ≤ (0 : Int) := (by omega)
            have q546 : 0 < (x6_1.length : Int) := oD_
            obtain ⟨ad546, e546, hx546_0⟩ := Kd.at_int (Kd.Q_reads' HO_6.out).2.2 0 p546 q546
            cases e546
            have qi546 : (0 < x6_1.length) = True := eq_true (by omega)
            (try rw [show ((0 : Int)).toNat = 0 from rfl] at hx546_0)
            (try rw [Addr.add_zero'] at hx546_0)
            replace p546 := eq_true p546
            replace q546 := eq_true q546
            have q22 : (1 : Int) ≤ ((x6_1.length : Int) : Int) := oD_
            obtain ⟨i022, hi022, _, hsz22, _⟩ := info_parts info2
            have hcut22 := cut_from (P := Try.prog) 22 2 .i64 Try.underlying22 hi022 1 hsz22 (some ad546) x6_1.length co21 1 (by omega) q22
            have hr22 := Kd.Q_drop (k := (1 : Int).toNat) HO_6.out (by omega)
            obtain ⟨A22, hA22⟩ : ∃ A1, A1 = (if co21 = (1 : Int).toNat then (some ad546) else ((some ad546) : Option Addr).map (·.add ((1 : Int).toNat * 1))) := ⟨_, rfl⟩
            obtain ⟨c22, hc22⟩ : ∃ c1, c1 = co21 - (1 : Int).toNat := ⟨_, rfl⟩
            have hy22 : y547.length = x6_1.length - (1 : Int).toNat := (by rw [Ny547.out, List.length_drop])
            rw [← Ny547.out] at hr22
            rw [← hy22, ← hA22, ← hc22] at hcut22
            replace hr22 : Kd.Q (Kd.int .i64) 2 wr w.heap.size (fun _ => True) (.slice A22 y547.length c22) y547 := (by rw [hA22, hc22, hy22]; exact hr22)
            have HE22 : Aside0 ((Value.slice A22 y547.length c22).ownBlock = (.slice (some ad546) x6_1.length co21 : Value).ownBlock) := ⟨by rw [hA22]; split <;> (cases ((some ad546) : Option Addr) <;> rfl)⟩
            clear hy22 hi022 hsz22 HO_6 hA22 hc22
            have HO549 := Aside0.mk hr22
            clear hr22
            replace q22 := eq_true q22
            obtain ⟨Ao23, co23, eo23⟩ := Kd.R_slice HO_5.out
            subst eo23
            have p550 : 0 ≤ ((rd x6_1 0) : Int) := oD_
            have q550 : (rd x6_1 0) < (x5_1.length : Int) := oD_
            obtain ⟨ad550, e550, hx550_0⟩ := Kd.at_bool (Kd.R_reads' HO_5.out).2.2 (rd x6_1 0) p550 q550
            (try rw [← Nbq19.out] at hx550_0)
            cases e550
            replace p550 := eq_true p550
            replace q550 := eq_true q550
            go_wp2
            go_roundg k1
            case measure => have := HK1.out; omega
            case rel => exact ⟨(x5_1), (y547), H', ⟨by have := HK1.out; omega⟩, ⟨rHO_5_⟩, ⟨by (with_reducible repeat (first | apply Kd.Q_alloc | apply Kd.Q_drewN | apply Kd.Q_drew)); exact HO549.out⟩, ⟨bK539_⟩, ⟨hS_⟩⟩
           ·replace c20 := Bool.eq_false_iff.mpr c20
            subst c20
            have H1 := (if_neg (show ¬ (false = true) by decide)).symm.trans H
            clear H
            have H := H1
            clear H1
            obtain ⟨y551, hy551⟩ : ∃ y_ : List Bool, y_ = (x5_1.set ((rd x6_1 0) : Int).toNat true) := ⟨_, rfl⟩
            replace H : (if (rd x6_1 0) < (l0_2.length : Int) then ((impl_leadsTo.f ((rd_T80 l0_2 (rd x6_1 0)).f2.f0) ((rd_T80 l0_2 (rd x6_1 0)).f2.f1) ((rd_T80 l0_2 (rd x6_1 0)).f2.f2) ((rd_T80 l0_2 (rd x6_1 0)).f2.f3)).bind fun t553 => (if y547.length + t553.length < 17592186044416 then (impl_reach.l0 k1 a1 y551 (y547 ++ t553) l0_0 a0_1 l0_2) else (none))) else (none)) = some r := by first | (rw [hy551]; with_reducible exact H) | (have H2_ := (Option.bind_some _ _).symm.trans H; rw [hy551]; with_reducible exact H2_) | (have H2_ := (Option.bind_some _ _).symm.trans H; with_reducible exact H2_) | with_reducible exact H | (rw [hy551]; exact H) | exact H
            have Ny551 := Aside0.mk hy551
            clear hy551
            by_cases c25 : (rd x6_1 0) < (l0_2.length : Int)
            ·rw [if_pos c25] at H
             have c25b0 : decide ((rd x6_1 0) < (l0_2.length : Int)) = true := decide_eq_true c25
             clear c25
             replace H := Option.bind_eq_some_iff.mp H
             obtain ⟨t553, A260, H⟩ := H
             replace H : (if y547.length + t553.length < 17592186044416 then (impl_reach.l0 k1 a1 y551 (y547 ++ t553) l0_0 a0_1 l0_2) else (none)) = some r := H
             have A26 := Aside0.mk A260
             clear A260
             by_cases c27 : y547.length + t553.length < 17592186044416
             ·rw [if_pos c27] at H
              have LMc27 := Aside0.mk c27
              clear c27
              obtain ⟨y556, hy556⟩ : ∃ y_ : List Int, y_ = (y547 ++ t553) := ⟨_, rfl⟩
              replace H : (impl_reach.l0 k1 a1 y551 y556 l0_0 a0_1 l0_2) = some r := by first | (rw [hy556]; with_reducible exact H) | (have H2_ := (Option.bind_some _ _).symm.trans H; rw [hy556]; with_reducible exact H2_) | (have H2_ := (Option.bind_some _ _).symm.trans H; with_reducible exact H2_) | with_reducible exact H | (rw [hy556]; exact H) | exact H
              have Ny556 := Aside0.mk hy556
              clear hy556
              have H' := Aside0.mk H
              clear H
              obtain ⟨Ao28, co28, eo28, _⟩ := Kd.Q_slice HO_6.out
              subst eo28
              have p546 : 0 ≤ (0 : Int) := (by omega)
              have q546 : 0 < (x6_1.length : Int) := oD_
              obtain ⟨ad546, e546, hx546_0⟩ := Kd.at_int (Kd.Q_reads' HO_6.out).2.2 0 p546 q546
              cases e546
              have qi546 : (0 < x6_1.length) = True := eq_true (by omega)
              (try rw [show ((0 : Int)).toNat = 0 from rfl] at hx546_0)
              (try rw [Addr.add_zero'] at hx546_0)
              replace p546 := eq_true p546
              replace q546 := eq_true q546
              have q29 : (1 : Int) ≤ ((x6_1.length : Int) : Int) := oD_
              obtain ⟨i029, hi029, _, hsz29, _⟩ := info_parts info2
              have hcut29 := cut_from (P := Try.prog) 22 2 .i64 Try.underlying22 hi029 1 hsz29 (some ad546) x6_1.length co28 1 (by omega) q29
              have hr29 := Kd.Q_drop (k := (1 : Int).toNat) HO_6.out (by omega)
              obtain ⟨A29, hA29⟩ : ∃ A1, A1 = (if co28 = (1 : Int).toNat then (some ad546) else ((some ad546) : Option Addr).map (·.add ((1 : Int).toNat * 1))) := ⟨_, rfl⟩
              obtain ⟨c29, hc29⟩ : ∃ c1, c1 = co28 - (1 : Int).toNat := ⟨_, rfl⟩
              have hy29 : y547.length = x6_1.length - (1 : Int).toNat := (by rw [Ny547.out, List.length_drop])
              rw [← Ny547.out] at hr29
              rw [← hy29, ← hA29, ← hc29] at hcut29
              replace hr29 : Kd.Q (Kd.int .i64) 2 wr w.heap.size (fun _ => True) (.slice A29 y547.length c29) y547 := (by rw [hA29, hc29, hy29]; exact hr29)
              have HE29 : Aside0 ((Value.slice A29 y547.length c29).ownBlock = (.slice (some ad546) x6_1.length co28 : Value).ownBlock) := ⟨by rw [hA29]; split <;> (cases ((some ad546) : Option Addr) <;> rfl)⟩
              clear hy29 hi029 hsz29 HO_6 hA29 hc29
              have HO549 := Aside0.mk hr29
              clear hr29
              replace q29 := eq_true q29
              obtain ⟨Ao30, co30, eo30⟩ := Kd.R_slice HO_5.out
              subst eo30
              have p550 : 0 ≤ ((rd x6_1 0) : Int) := oD_
              have q550 : (rd x6_1 0) < (x5_1.length : Int) := oD_
              obtain ⟨ad550, e550, hx550_0⟩ := Kd.at_bool (Kd.R_reads' HO_5.out).2.2 (rd x6_1 0) p550 q550
              (try rw [← Nbq19.out] at hx550_0)
              cases e550
              replace p550 := eq_true p550
              replace q550 := eq_true q550
              have p24 : 0 ≤ ((rd x6_1 0) : Int) := oD_
              have q24 : ((rd x6_1 0) : Int) < ((x5_1.length : Int) : Int) := oD_
              obtain ⟨go24, co24, eo24, gb24, gl24, cl24, HG24⟩ := Kd.R_form HO_5.out (by omega)
              (first | cases eo24 | (injection eo24 with ea_ en_ ec_; (first | subst ea_ | (injection ea_ with ea_; subst ea_)); subst ec_; clear en_))
              have GB24 := Aside0.mk gb24
              have GG24 := Aside0.mk HG24
              clear gb24 gl24 HG24
              (first | simp only [add_plain] at hx550_0 | skip)
              obtain ⟨hx24_0, hf24_0⟩ := Kd.R_celln false HO_5.out ((rd x6_1 0) : Int) p24 q24
              replace p24 := eq_true p24
              replace q24 := eq_true q24
              have HP31 := Kd.R_putg HO_5.out ((rd x6_1 0) : Int) true
              go_wp2_with (first | ((with_reducible refine gate_store (t := 4) (p := 32) rfl ?_); refine store_event (t := 4) (p := 32) (v := ?vo_w32) (w1 := (wr.setCell ⟨go24, ((rd x6_1 0) : Int).toNat, none⟩ (.bool true))) ?hg ?ho ?hn ?hr ?_; (case ho => rfl); (case hg => rfl); (case hn => rfl); (case hr => first | (go_simp; done) | (go_simp; rfl)); intro w32 hw; have hg : wr.grownBy w32 (some go24) := (by rw [hw]; exact HP31.2); have hp_ : Kd.R Kd.bool 4 w32 w.heap.size (fun _ => True) (.slice (some ⟨go24, 0, none⟩) x5_1.length co30) y551 := (by rw [hw, Ny551.out]; exact HP31.1); clear HP31; have n0_ := Aside0.mk (hp_); have n1_ := Aside0.mk (Kd.Q_over' (v := (.slice (some ⟨go24, 0, none⟩) x5_1.length co30)) (by (with_reducible repeat (first | apply Kd.Q_alloc | apply Kd.Q_drewN | apply Kd.Q_drew)); exact HO549.out) (Kd.R_typed HO_5.out) (by decide) hg); have n2_ := Aside0.mk (blk_grown (g := gb539) (o := .cells #[.slice A0_0 l0_0.length c0_0, .int .i64 a0_1, .slice A0_2 l0_2.length c0_2] 30 (0, 0)) bK539_ hg (Kd.R_ne HO_5.out BK539.out (by decide))); have n3_ := Aside0.mk ((by rw [hw]; exact below_set (HB.out) GB24.out : Below w.heap.size w w32)); clear HO_5; clear HO549; clear BK539; clear HB; have HO_5 := n0_; have HO549 := n1_; have BK539 := n2_; have HB := n3_; clear n0_ n1_ n2_ n3_; clear hg hw hp_; obtain ⟨hcz33_0, hcz33_1, hcz33_2, hfz33_0, hfz33_1, hfz33_2⟩ := blkc3_ BK539.out; have p552 : 0 ≤ ((rd x6_1 0) : Int) := oD_; have q552 : (rd x6_1 0) < (l0_2.length : Int) := oD_; obtain ⟨ad552, A552_0, c552_0, A552_1, c552_1, e552, hx552_0, hx552_1, hx552_2, hx552_3, hx552_4, hx552_5, hl552_0, hi552_0, hl552_1, hi552_1⟩ := at_T80 HR0_2.out (rd x6_1 0) p552 q552; cases e552; replace hx552_0 := hx_ HB.out hx552_0; replace hx552_1 := hx_ HB.out hx552_1; replace hx552_2 := hx_ HB.out hx552_2; replace hx552_3 := hx_ HB.out hx552_3; replace hx552_4 := hx_ HB.out hx552_4; replace hx552_5 := hx_ HB.out hx552_5; have HR552_0 := Aside0.mk hi552_0; have HC552_0 := Aside0.mk hl552_0; clear hi552_0 hl552_0; have HR552_1 := Aside0.mk hi552_1; have HC552_1 := Aside0.mk hl552_1; clear hi552_1 hl552_1; replace p552 := eq_true p552; replace q552 := eq_true q552) | ((with_reducible refine gate_callee (f := 55) rfl ?_); refine gL_ (some 40) Try.func55 #[.agg #[.int .i64 ((rd_T80 l0_2 (rd x6_1 0)).f2.f0), .int .i64 ((rd_T80 l0_2 (rd x6_1 0)).f2.f1), .int .i64 ((rd_T80 l0_2 (rd x6_1 0)).f2.f2), .int .i64 ((rd_T80 l0_2 (rd x6_1 0)).f2.f3)]] ?_; (with_reducible refine (impl_leadsTo.calls ((rd_T80 l0_2 (rd x6_1 0)).f2.f0) ((rd_T80 l0_2 (rd x6_1 0)).f2.f1) ((rd_T80 l0_2 (rd x6_1 0)).f2.f2) ((rd_T80 l0_2 (rd x6_1 0)).f2.f3) t553 _ A26.out).mono ?_); rintro e w34 ⟨v554, rfl, ho0, hb⟩; refine ⟨_, rfl, ?_⟩; have n0_ := Aside0.mk (Kd.R_below rHO_5_ hb); have n1_ := Aside0.mk (Kd.Q_elder' (by (with_reducible repeat (first | apply Kd.Q_alloc | apply Kd.Q_drewN | apply Kd.Q_drew)); exact HO549.out) (Kd.R_base ho0) hb); have n2_ := Aside0.mk (Kd.R_lower (Kd.R_new' ho0 (Kd.Q_lt (by (with_reducible repeat (first | apply Kd.Q_alloc | apply Kd.Q_drewN | apply Kd.Q_drew)); exact HO549.out))) (below_size hS_)); have n3_ := Aside0.mk (blk_below (g := gb539) (o := .cells #[.slice A0_0 l0_0.length c0_0, .int .i64 a0_1, .slice (some ad552) l0_2.length c0_2] 30 (0, 0)) bK539_ hb); have n4_ := Aside0.mk (below_step hS_ hb); clear HO_5; clear HO549; clear BK539; clear HB; have HO_5 := n0_; have HO549 := n1_; have HO555 := n2_; have BK539 := n3_; have HB := n4_; clear n0_ n1_ n2_ n3_ n4_; (try clear hb); (try clear hb2); (try clear hk); (try clear hi); (try clear ho0); obtain ⟨Ao36, co36, eo36⟩ := Kd.R_slice HO555.out; subst eo36) | ((with_reducible refine gate_builtin (b := .append) (xs := #[.tmp 33, .tmp 40]) rfl ?_); at_builtin; refine Kd.Q_append_rows (Kd.int .i64) (w0 := w) w.heap.size rfl (.tmp 33) (.tmp 40) 22 2 (.int .i64 0) 8 rfl Try.underlying22 info2 rfl (by decide) (by omega) (.slice A29 y547.length c29) y547 t553 _ _ _ (fun k_ => some k_ ≠ (.slice Ao36 t553.length co36 : Value).ownBlock) (fun _ => False) rfl rfl ?aO ?aR (fun _ _ h => h) (fun _ h => h.elim) ?aF ?aB ?aS ?aL ?_; (case aR => repeat (first | exact (Kd.R_reads' HO555.out).2.2 | (with_reducible refine Kd.C_alloc ?_ _) | (with_reducible refine Kd.C_drewN ?_ _) | (with_reducible refine Kd.C_drew ?_))); (case aB => exact hS_); (case aF => exact (fun k_ hk => Kd.fresh' (Kd.R_lt rHO555_) k_ hk)); (case aO => exact (by (with_reducible repeat (first | apply Kd.Q_alloc | apply Kd.Q_drewN | apply Kd.Q_drew)); exact Kd.Q_mono HO549.out (fun _ hk => hk.2))); (case aS => exact (below_size hS_)); (case aL => have := LMc27.out; omega); intro v557 w35 ho hb hg hat; rw [← Ny556.out] at ho; have n0_ := Aside0.mk (Kd.R_over' rHO_5_ (Kd.Q_typed (by (with_reducible repeat (first | apply Kd.Q_alloc | apply Kd.Q_drewN | apply Kd.Q_drew)); exact HO549.out)) (by decide) hg); have n1_ := Aside0.mk (blk_grown (g := gb539) (o := .cells #[.slice A0_0 l0_0.length c0_0, .int .i64 a0_1, .slice (some ad552) l0_2.length c0_2] 30 (0, 0)) bK539_ hg (Kd.Q_ne HO549.out BK539.out (by decide))); have n2_ := Aside0.mk (Kd.R_after (ok := (fun _ => True)) rHO555_ hg hat); have n3_ := Aside0.mk (hb); have n4_ := Aside0.mk (ho); clear HO_5; clear BK539; clear HO555; clear HB; clear HO549; have HO_5 := n0_; have BK539 := n1_; have HO555 := n2_; have HB := n3_; have HO558 := n4_; clear n0_ n1_ n2_ n3_ n4_; clear ho hb hg hat))
              go_roundg k1
              case measure => have := HK1.out; omega
              case rel => exact ⟨(y551), (y556), H', ⟨by have := HK1.out; omega⟩, ⟨rHO_5_⟩, ⟨by (with_reducible repeat (first | apply Kd.Q_alloc | apply Kd.Q_drewN | apply Kd.Q_drew)); exact Kd.Q_mono HO558.out (fun _ hk => trivial)⟩, ⟨bK539_⟩, ⟨hS_⟩⟩
             ·rw [if_neg c27] at H
              exact absurd H (by simp)
            ·rw [if_neg c25] at H
             exact absurd H (by simp)
          ·rw [if_neg c18] at H
           exact absurd H (by simp)
         ·rw [if_neg c17] at H
          exact absurd H (by simp)
       ·rw [if_neg c13] at H
        exact absurd H (by simp)
      ·rw [if_neg c12] at H
       exact absurd H (by simp)
     ·rw [if_neg c11] at H
      have c11b0 : decide (0 < (x6_1.length : Int)) = false := decide_eq_false c11
      have c11b1 : decide (0 < x6_1.length) = false := decide_eq_false (by omega)
      clear c11
      obtain rfl := Option.some.inj H
      obtain ⟨Ao37, co37, eo37, _⟩ := Kd.Q_slice HO_6.out
      subst eo37
      go_wp2
      go_ret
      exact ⟨_, rG_, rHO_5_, hS_⟩
  ·rw [if_neg c4] at H
   exact absurd H (by simp)
 ·rw [if_neg c3] at H
  exact absurd H (by simp)
/-! ### spec_l3Reach: function 39 -/
mutual
def spec_l3Reach.l0 : Nat → Int → List Int → List Int → List Int → Int → List (S80) → Option (List Int)
 | 0, _, _, _, _, _, _ => none
 | k + 1, x1, x5, x6, x507000, x507001, x507002 => if (x6.length : Int) > 0 then (if 0 < (x6.length : Int) then (if 1 ≤ (x6.length : Int) then ((spec_l1Copy.f (x6.drop 1)).bind fun t518 => (if (rd x6 0) = x1 then (spec_l3Reach.j1 k x1 x5 t518 (rd x6 0) true x507000 x507001 x507002) else ((spec_l1Has.f k x5 (rd x6 0)).bind fun t521 => (spec_l3Reach.j1 k x1 x5 t518 (rd x6 0) t521 x507000 x507001 x507002)))) else (none)) else (none)) else (some x5)
def spec_l3Reach.j1 : Nat → Int → List Int → List Int → Int → Bool → List Int → Int → List (S80) → Option (List Int)
 | 0, _, _, _, _, _, _, _, _ => none
 | k + 1, x1, x5, x6, x7, x29, x507000, x507001, x507002 => if x29 = true then (spec_l3Reach.l0 k x1 x5 x6 x507000 x507001 x507002) else ((spec_l1Put.f k x5 x7).bind fun t522 => ((spec_l3Succs.f x507000 x507001 x507002 x7).bind fun t525 => (if x6.length + t525.length < 17592186044416 then (spec_l3Reach.l0 k x1 t522 (x6 ++ t525) x507000 x507001 x507002) else (none))))
end
def spec_l3Reach.f (k : Nat) (l0_0 : List Int) (a0_1 : Int) (l0_2 : List (S80)) (a1 : Int) : Option (List Int) := (some (([] : List Int) : List Int)).bind fun y507 => (if a1 = 0 then (some y507) else (spec_l3Reach.l0 k a1 y507 (([0] : List Int)) l0_0 a0_1 l0_2))
theorem spec_l3Reach.mono_l : ∀ k, (∀ y0 y1 y2 y3 y4 y5, LeO (spec_l3Reach.l0 k y0 y1 y2 y3 y4 y5) (spec_l3Reach.l0 (k + 1) y0 y1 y2 y3 y4 y5)) ∧ (∀ y0 y1 y2 y3 y4 y5 y6 y7, LeO (spec_l3Reach.j1 k y0 y1 y2 y3 y4 y5 y6 y7) (spec_l3Reach.j1 (k + 1) y0 y1 y2 y3 y4 y5 y6 y7))
 | 0 => ⟨fun _ _ _ _ _ _ r h => by simp [spec_l3Reach.l0] at h, fun _ _ _ _ _ _ _ _ r h => by simp [spec_l3Reach.j1] at h⟩
 | k + 1 => by
  obtain ⟨ih0, ih1⟩ := spec_l3Reach.mono_l k
  refine ⟨?_, ?_⟩
  ·intro y0 y1 y2 y3 y4 y5
   unfold spec_l3Reach.l0
   repeat' first
   | (with_reducible exact ih0 _ _ _ _ _ _)
   | (with_reducible exact ih1 _ _ _ _ _ _ _ _)
   | (with_reducible exact spec_l1Has.mono _ _ _)
   | (with_reducible exact spec_l1Put.mono _ _ _)
   | (with_reducible exact LeO.refl _)
   | (with_reducible exact LeO.none _)
   | (with_reducible refine LeO.ite ?_ ?_)
   | (with_reducible refine LeO.bind ?_ (fun _ => ?_))
   | exact ih0 _ _ _ _ _ _
   | exact ih1 _ _ _ _ _ _ _ _
   | exact spec_l1Has.mono _ _ _
   | exact spec_l1Put.mono _ _ _
   | exact LeO.none _
   | refine LeO.ite ?_ ?_
   | refine LeO.bind ?_ (fun _ => ?_)
  ·intro y0 y1 y2 y3 y4 y5 y6 y7
   unfold spec_l3Reach.j1
   repeat' first
   | (with_reducible exact ih0 _ _ _ _ _ _)
   | (with_reducible exact ih1 _ _ _ _ _ _ _ _)
   | (with_reducible exact spec_l1Has.mono _ _ _)
   | (with_reducible exact spec_l1Put.mono _ _ _)
   | (with_reducible exact LeO.refl _)
   | (with_reducible exact LeO.none _)
   | (with_reducible refine LeO.ite ?_ ?_)
   | (with_reducible refine LeO.bind ?_ (fun _ => ?_))
   | exact ih0 _ _ _ _ _ _
   | exact ih1 _ _ _ _ _ _ _ _
   | exact spec_l1Has.mono _ _ _
   | exact spec_l1Put.mono _ _ _
   | exact LeO.none _
   | refine LeO.ite ?_ ?_
   | refine LeO.bind ?_ (fun _ => ?_)
theorem spec_l3Reach.mono : ∀ a0 a1 a2 a3 k, LeO (spec_l3Reach.f k a0 a1 a2 a3) (spec_l3Reach.f (k + 1) a0 a1 a2 a3) := by
 intro a0 a1 a2 a3 k
 obtain ⟨ih0, ih1⟩ := spec_l3Reach.mono_l k
 unfold spec_l3Reach.f
 repeat' first
   | (with_reducible exact ih0 _ _ _ _ _ _)
   | (with_reducible exact ih1 _ _ _ _ _ _ _ _)
   | (with_reducible exact spec_l1Has.mono _ _ _)
   | (with_reducible exact spec_l1Put.mono _ _ _)
   | (with_reducible exact LeO.refl _)
   | (with_reducible exact LeO.none _)
   | (with_reducible refine LeO.ite ?_ ?_)
   | (with_reducible refine LeO.bind ?_ (fun _ => ?_))
   | exact ih0 _ _ _ _ _ _
   | exact ih1 _ _ _ _ _ _ _ _
   | exact spec_l1Has.mono _ _ _
   | exact spec_l1Put.mono _ _ _
   | exact LeO.none _
   | refine LeO.ite ?_ ?_
   | refine LeO.bind ?_ (fun _ => ?_)
set_option maxHeartbeats 8000000 in
set_option maxRecDepth 100000 in
theorem spec_l3Reach.calls (k : Nat) (A0_0 : Option Addr) (c0_0 : Nat) (l0_0 : List Int) (a0_1 : Int) (A0_2 : Option Addr) (c0_2 : Nat) (l0_2 : List (S80)) (a1 : Int) (r : List Int) (w : World) (hr0_0 : Kd.C (Kd.int .i64) w A0_0 l0_0.length l0_0) (hc0_0 : l0_0.length ≤ c0_0) (hr0_2 : Kd.C k80 w A0_2 l0_2.length l0_2) (hc0_2 : l0_2.length ≤ c0_2) (h : spec_l3Reach.f k l0_0 a0_1 l0_2 a1 = some r) :
  Calls Try.prog 39 #[.agg #[.slice A0_0 l0_0.length c0_0, .int .i64 a0_1, .slice A0_2 l0_2.length c0_2], .int .i64 a1] w fun e w' => ∃ v0_ : Value, e = .returned (v0_) ∧ Kd.R (Kd.int .i64) 2 w' w.heap.size (fun _ => True) v0_ r ∧ Below w.heap.size w w' := by
 have hu30 := Try.underlying30
 have HR0_0 := Aside0.mk hr0_0
 have HC0_0 := Aside0.mk hc0_0
 clear hr0_0 hc0_0
 have HR0_2 := Aside0.mk hr0_2
 have HC0_2 := Aside0.mk hc0_2
 clear hr0_2 hc0_2
 have HB := Aside0.mk (Below.refl w.heap.size w)
 have H : ((some (([] : List Int) : List Int)).bind fun y507 => (if a1 = 0 then (some y507) else (spec_l3Reach.l0 k a1 y507 (([0] : List Int)) l0_0 a0_1 l0_2))) = some r := h
 clear h
 obtain ⟨y507, hy507⟩ : ∃ y_ : List Int, y_ = (([] : List Int)) := ⟨_, rfl⟩
 replace H : (if a1 = 0 then (some y507) else (spec_l3Reach.l0 k a1 y507 (([0] : List Int)) l0_0 a0_1 l0_2)) = some r := by first | (rw [hy507]; with_reducible exact H) | (have H2_ := (Option.bind_some _ _).symm.trans H; rw [hy507]; with_reducible exact H2_) | (have H2_ := (Option.bind_some _ _).symm.trans H; with_reducible exact H2_) | with_reducible exact H | (rw [hy507]; exact H) | exact H
 have Ny507 := Aside0.mk hy507
 clear hy507
 by_cases c3 : a1 = 0
 ·rw [if_pos c3] at H
  have c3b0 : (a1 == 0) = true := beq_iff_eq.mpr c3
  have c3b1 : (a1 != 0) = false := bne_eq_false_iff_eq.mpr c3
  clear c3
  obtain rfl := Option.some.inj H
  go_enter Try.func39, Try.ntmps39
  go_wp2_with (first | ((with_reducible refine gate_dst (N := 2) rfl ?_); refine box_event ?hg (N := 2) ?hd (cs := #[.slice A0_0 l0_0.length c0_0, .int .i64 a0_1, .slice A0_2 l0_2.length c0_2]) (t := 30) ?hr ?_; (case hd => rfl); (case hg => rfl); (case hr => first | (go_simp; done) | (go_simp; rfl)); intro gb506 hg w4 hbox hb; have n0_ := Aside0.mk (below_step hB_ hb); have n1_ := Aside0.mk (hbox); have n2_ := Aside0.mk ((sz_ hg (below_size hB_) : w.heap.size ≤ gb506)); have n3_ := Aside0.mk ((sz_ hg (below_size hB_) : w.heap.size ≤ gb506)); clear HB; have HB := n0_; have BK506 := n1_; have GW506 := n2_; have GE506 := n3_; clear n0_ n1_ n2_ n3_; clear hb hbox hg) | ((with_reducible refine gate_dst (N := 8) rfl ?_); refine Kd.R_lit (Kd.int .i64) _ 2 ?hg (N := 8) ?hd (xs := ([] : List Int)) (inner := []) (ok := fun _ => True) (okp := fun _ => True) ?hr ?hp (fun _ hk => hk) trivial (Below.refl _ _) (Nat.le_refl _) (by simp) ?_; (case hd => rfl); (case hg => rfl); (case hr => first | (go_simp; done) | (go_simp; rfl)); (case hp => exact (Reps.none _ _)); intro v508 w5 ho6 hb hg_ hnew_; clear hg_ hnew_; (first | rw [← Ny507.out] at ho6 | (simp only [Int.reduceToNat] at ho6; rw [← Ny507.out] at ho6)); have n0_ := Aside0.mk (Kd.R_lower ho6 (below_size hS_)); have n1_ := Aside0.mk (blk_below (g := gb506) (o := .cells #[.slice A0_0 l0_0.length c0_0, .int .i64 a0_1, .slice A0_2 l0_2.length c0_2] 30 (0, 0)) bK506_ hb); have n2_ := Aside0.mk (below_step hS_ hb); clear BK506; clear HB; have HO509 := n0_; have BK506 := n1_; have HB := n2_; clear n0_ n1_ n2_; clear hb ho6))
  go_ret
  exact ⟨_, rG_, rHO509_, hS_⟩
 ·rw [if_neg c3] at H
  have c3b0 : (a1 == 0) = false := beq_eq_false_iff_ne.mpr c3
  have c3b1 : (a1 != 0) = true := bne_iff_ne.mpr c3
  obtain ⟨y510, hy510⟩ : ∃ y_ : List Int, y_ = (([0] : List Int)) := ⟨_, rfl⟩
  replace H : (spec_l3Reach.l0 k a1 y507 y510 l0_0 a0_1 l0_2) = some r := by first | (rw [hy510]; with_reducible exact H) | (have H2_ := (Option.bind_some _ _).symm.trans H; rw [hy510]; with_reducible exact H2_) | (have H2_ := (Option.bind_some _ _).symm.trans H; with_reducible exact H2_) | with_reducible exact H | (rw [hy510]; exact H) | exact H
  have Ny510 := Aside0.mk hy510
  clear hy510
  have H' := Aside0.mk H
  clear H
  go_enter Try.func39, Try.ntmps39
  go_wp2_with (first | ((with_reducible refine gate_dst (N := 2) rfl ?_); refine box_event ?hg (N := 2) ?hd (cs := #[.slice A0_0 l0_0.length c0_0, .int .i64 a0_1, .slice A0_2 l0_2.length c0_2]) (t := 30) ?hr ?_; (case hd => rfl); (case hg => rfl); (case hr => first | (go_simp; done) | (go_simp; rfl)); intro gb506 hg w7 hbox hb; have n0_ := Aside0.mk (below_step hB_ hb); have n1_ := Aside0.mk (hbox); have n2_ := Aside0.mk ((sz_ hg (below_size hB_) : w.heap.size ≤ gb506)); have n3_ := Aside0.mk ((sz_ hg (below_size hB_) : w.heap.size ≤ gb506)); clear HB; have HB := n0_; have BK506 := n1_; have GW506 := n2_; have GE506 := n3_; clear n0_ n1_ n2_ n3_; clear hb hbox hg) | ((with_reducible refine gate_dst (N := 8) rfl ?_); refine Kd.R_lit (Kd.int .i64) _ 2 ?hg (N := 8) ?hd (xs := ([] : List Int)) (inner := []) (ok := fun _ => True) (okp := fun _ => True) ?hr ?hp (fun _ hk => hk) trivial (Below.refl _ _) (Nat.le_refl _) (by simp) ?_; (case hd => rfl); (case hg => rfl); (case hr => first | (go_simp; done) | (go_simp; rfl)); (case hp => exact (Reps.none _ _)); intro v508 w8 ho9 hb hg_ hnew_; clear hg_ hnew_; (first | rw [← Ny507.out] at ho9 | (simp only [Int.reduceToNat] at ho9; rw [← Ny507.out] at ho9)); have n0_ := Aside0.mk (Kd.R_lower ho9 (below_size hS_)); have n1_ := Aside0.mk (blk_below (g := gb506) (o := .cells #[.slice A0_0 l0_0.length c0_0, .int .i64 a0_1, .slice A0_2 l0_2.length c0_2] 30 (0, 0)) bK506_ hb); have n2_ := Aside0.mk (below_step hS_ hb); clear BK506; clear HB; have HO509 := n0_; have BK506 := n1_; have HB := n2_; clear n0_ n1_ n2_; clear hb ho9) | ((with_reducible refine gate_dst (N := 12) rfl ?_); refine Kd.R_lit (Kd.int .i64) _ 2 ?hg (N := 12) ?hd (xs := ([0] : List Int)) (inner := [.int .i64 0]) (ok := fun _ => True) (okp := fun _ => True) ?hr ?hp (fun _ hk => hk) trivial (Below.refl _ _) (Nat.le_refl _) (by simp) ?_; (case hd => rfl); (case hg => rfl); (case hr => first | (go_simp; done) | (go_simp; rfl)); (case hp => exact (Reps.one (show Kd.M (Kd.int .i64) _ _ _ 0 [.int .i64 0] from rfl) (Reps.none _ _))); intro v511 w10 ho11 hb hg_ hnew_; clear hg_ hnew_; (first | rw [← Ny510.out] at ho11 | (simp only [Int.reduceToNat] at ho11; rw [← Ny510.out] at ho11)); have n0_ := Aside0.mk (Kd.R_elder' rHO509_ (Kd.R_base ho11) hb); have n1_ := Aside0.mk (Kd.R_lower (Kd.R_new' ho11 (Kd.R_lt rHO509_)) (below_size hS_)); have n2_ := Aside0.mk (blk_below (g := gb506) (o := .cells #[.slice A0_0 l0_0.length c0_0, .int .i64 a0_1, .slice A0_2 l0_2.length c0_2] 30 (0, 0)) bK506_ hb); have n3_ := Aside0.mk (below_step hS_ hb); clear HO509; clear BK506; clear HB; have HO509 := n0_; have HO512 := n1_; have BK506 := n2_; have HB := n3_; clear n0_ n1_ n2_ n3_; clear hb ho11))
  go_loopg [5, 6] k (fun kq v5 v6 w' => ∃ (x5_1 : List Int) (x6_1 : List Int), Aside0 (spec_l3Reach.l0 kq a1 x5_1 x6_1 l0_0 a0_1 l0_2 = some r) ∧ Aside0 (kq ≤ k) ∧ Aside0 (Kd.R (Kd.int .i64) 2 w' w.heap.size (fun k_ => some k_ ≠ (v6 : Value).ownBlock) v5 x5_1) ∧ Aside0 (Kd.R (Kd.int .i64) 2 w' w.heap.size (fun k_ => some k_ ≠ (v5 : Value).ownBlock) v6 x6_1) ∧ Aside0 (w'.heap[gb506]? = some (.cells #[(.slice A0_0 l0_0.length c0_0), .int .i64 a0_1, (.slice A0_2 l0_2.length c0_2)] 30 (0, 0))) ∧ Aside0 (Below w.heap.size w w'))
  case atStart => exact ⟨(y507), (y510), H', ⟨Nat.le_refl _⟩, ⟨by (with_reducible repeat (first | apply Kd.R_alloc | apply Kd.R_drewN | apply Kd.R_drew)); exact Kd.R_mono HO509.out (fun _ hk => hk.2)⟩, ⟨by (with_reducible repeat (first | apply Kd.R_alloc | apply Kd.R_drewN | apply Kd.R_drew)); exact Kd.R_mono HO512.out (fun _ hk => hk.2)⟩, ⟨bK506_⟩, ⟨hS_⟩⟩
  case round =>
   clear H'
   try clear p2
   try clear c3
   try clear c3b0
   try clear c3b1
   obtain ⟨x5_1, x6_1, HA, HK1, HO_5, HO_6, BK506, HB⟩ := hrel
   cases gk with
   | zero => exact absurd HA.out (by simp [spec_l3Reach.l0])
   | succ k1 =>
    have H := HA.out
    clear HA
    simp only [spec_l3Reach.l0] at H
    by_cases c12 : (x6_1.length : Int) > 0
    ·rw [if_pos c12] at H
     have c12b0 : decide (0 < (x6_1.length : Int)) = true := decide_eq_true c12
     have c12b1 : decide (0 < x6_1.length) = true := decide_eq_true (by omega)
     clear c12
     by_cases c13 : 0 < (x6_1.length : Int)
     ·rw [if_pos c13] at H
      have c13b0 : decide (0 < (x6_1.length : Int)) = true := decide_eq_true c13
      have c13b1 : decide (0 < x6_1.length) = true := decide_eq_true (by omega)
      clear c13
      by_cases c14 : 1 ≤ (x6_1.length : Int)
      ·rw [if_pos c14] at H
       have c14b0 := eq_true c14
       have c14b1 : decide (1 ≤ (x6_1.length : Int)) = true := decide_eq_true c14
       clear c14
       obtain ⟨y514, hy514⟩ : ∃ y_ : List Int, y_ = (x6_1.drop 1) := ⟨_, rfl⟩
       replace H : ((spec_l1Copy.f y514).bind fun t518 => (if (rd x6_1 0) = a1 then (spec_l3Reach.j1 k1 a1 x5_1 t518 (rd x6_1 0) true l0_0 a0_1 l0_2) else ((spec_l1Has.f k1 x5_1 (rd x6_1 0)).bind fun t521 => (spec_l3Reach.j1 k1 a1 x5_1 t518 (rd x6_1 0) t521 l0_0 a0_1 l0_2)))) = some r := by first | (rw [hy514]; with_reducible exact H) | (have H2_ := (Option.bind_some _ _).symm.trans H; rw [hy514]; with_reducible exact H2_) | (have H2_ := (Option.bind_some _ _).symm.trans H; with_reducible exact H2_) | with_reducible exact H | (rw [hy514]; exact H) | exact H
       have Ny514 := Aside0.mk hy514
       clear hy514
       replace H := Option.bind_eq_some_iff.mp H
       obtain ⟨t518, A150, H⟩ := H
       replace H : (if (rd x6_1 0) = a1 then (spec_l3Reach.j1 k1 a1 x5_1 t518 (rd x6_1 0) true l0_0 a0_1 l0_2) else ((spec_l1Has.f k1 x5_1 (rd x6_1 0)).bind fun t521 => (spec_l3Reach.j1 k1 a1 x5_1 t518 (rd x6_1 0) t521 l0_0 a0_1 l0_2))) = some r := H
       have A15 := Aside0.mk A150
       clear A150
       have HC16 := Aside0.mk H
       clear H
       obtain ⟨Ao17, co17, eo17⟩ := Kd.R_slice HO_6.out
       subst eo17
       have p513 : 0 ≤ (0 : Int) := (by omega)
       have q513 : 0 < (x6_1.length : Int) := oD_
       obtain ⟨ad513, e513, hx513_0⟩ := Kd.at_int (Kd.R_reads' HO_6.out).2.2 0 p513 q513
       cases e513
       have qi513 : (0 < x6_1.length) = True := eq_true (by omega)
       (try rw [show ((0 : Int)).toNat = 0 from rfl] at hx513_0)
       (try rw [Addr.add_zero'] at hx513_0)
       replace p513 := eq_true p513
       replace q513 := eq_true q513
       have q18 : (1 : Int) ≤ ((x6_1.length : Int) : Int) := oD_
       obtain ⟨i018, hi018, _, hsz18, _⟩ := info_parts info2
       have hroom18 : x6_1.length ≤ co17 := (Kd.R_reads' HO_6.out).2.1
       have hC18 : Kd.C (Kd.int .i64) _ (some ad513) x6_1.length x6_1 := (Kd.R_reads' HO_6.out).2.2
       have hcut18 := cut_from (P := Try.prog) 22 2 .i64 Try.underlying22 hi018 1 hsz18 (some ad513) x6_1.length co17 1 (by omega) q18
       have hr18 := Kd.C_drop (m := (1 : Int).toNat) (c := co17) hC18 (by omega) hroom18
       obtain ⟨A18, hA18⟩ : ∃ A1, A1 = (if co17 = (1 : Int).toNat then (some ad513) else ((some ad513) : Option Addr).map (·.add ((1 : Int).toNat * 1))) := ⟨_, rfl⟩
       obtain ⟨c18, hc18⟩ : ∃ c1, c1 = co17 - (1 : Int).toNat := ⟨_, rfl⟩
       have hy18 : y514.length = x6_1.length - (1 : Int).toNat := (by rw [Ny514.out, List.length_drop] <;> omega)
       rw [show (x6_1).drop (1 : Int).toNat = y514 from Ny514.out.symm] at hr18
       replace hr18 : Kd.C (Kd.int .i64) _ A18 y514.length y514 := (by rw [hA18]; exact hr18)
       rw [← hy18, ← hA18, ← hc18] at hcut18
       have HR517 := Aside0.mk hr18
       have HC517 := Aside0.mk (show y514.length ≤ c18 from by rw [hy18, hc18]; exact Nat.sub_le_sub_right hroom18 _)
       clear hr18 hC18 hroom18 hi018 hsz18 hc18
       have KY18 := Aside0.mk hy18
       have KA18 := Aside0.mk hA18
       clear hy18 hA18
       have KL18 := Aside0.mk (show 1 ≤ x6_1.length from by omega)
       replace q18 := eq_true q18
       go_upto_region 8 with (first | ((with_reducible refine gate_callee (f := 64) rfl ?_); refine gL_ (some 21) Try.func64 #[.slice A18 y514.length c18] ?_; (with_reducible refine (spec_l1Copy.calls _ _ y514 t518 _ ?side1 ?side2 A15.out).mono ?_); (case side1 => repeat (first | exact (by repeat (first | (with_reducible exact HR517.out) | (with_reducible refine Kd.C_alloc ?_ _) | (with_reducible refine Kd.C_drewN ?_ _) | (with_reducible refine Kd.C_drew ?_) | exact HR517.out)) | (with_reducible refine Kd.C_alloc ?_ _) | (with_reducible refine Kd.C_drewN ?_ _) | (with_reducible refine Kd.C_drew ?_))); (case side2 => exact HC517.out); rintro e w19 ⟨v519, rfl, ho0, hb⟩; refine ⟨_, rfl, ?_⟩; have n0_ := Aside0.mk (Kd.R_elder' rHO_5_ (Kd.R_base ho0) hb); have n1_ := Aside0.mk (Kd.R_elder' rHO_6_ (Kd.R_base ho0) hb); have n2_ := Aside0.mk (Kd.R_lower (Kd.R_new' (Kd.R_new' ho0 (Kd.R_lt rHO_5_)) (Kd.R_lt rHO_6_)) (below_size hS_)); have n3_ := Aside0.mk (blk_below (g := gb506) (o := .cells #[.slice A0_0 l0_0.length c0_0, .int .i64 a0_1, .slice A0_2 l0_2.length c0_2] 30 (0, 0)) bK506_ hb); have n4_ := Aside0.mk (Kd.C_below (by repeat (first | (with_reducible exact HR517.out) | (with_reducible refine Kd.C_alloc ?_ _) | (with_reducible refine Kd.C_drewN ?_ _) | (with_reducible refine Kd.C_drew ?_) | exact HR517.out)) hb); have n5_ := Aside0.mk (below_step hS_ hb); clear HO_5; clear HO_6; clear BK506; clear HR517; clear HB; have HO_5 := n0_; have HO_6 := n1_; have HO520 := n2_; have BK506 := n3_; have HR517 := n4_; have HB := n5_; clear n0_ n1_ n2_ n3_ n4_ n5_; (try clear hb); (try clear hb2); (try clear hk); (try clear hi); (try clear ho0)))
       (try simp only [Act.put, List.setIfInBounds_toArray, List.set_cons_zero, List.set_cons_succ])
       go_cut [29] (fun v29 wc => ∃ (kq : Nat) (x29_15 : Bool), v29 = .bool x29_15 ∧ Aside0 (spec_l3Reach.j1 kq a1 x5_1 t518 (rd x6_1 0) x29_15 l0_0 a0_1 l0_2 = some r) ∧ Aside0 (kq ≤ k1) ∧ Aside0 (Kd.R (Kd.int .i64) 2 wc w.heap.size (fun k_ => some k_ ≠ (v519 : Value).ownBlock) u5 x5_1) ∧ Aside0 (Kd.R (Kd.int .i64) 2 wc w.heap.size (fun k_ => some k_ ≠ (u5 : Value).ownBlock) v519 t518) ∧ Aside0 (wc.heap[gb506]? = some (.cells #[(.slice A0_0 l0_0.length c0_0), .int .i64 a0_1, (.slice A0_2 l0_2.length c0_2)] 30 (0, 0))) ∧ Aside0 (Kd.C (Kd.int .i64) wc A18 y514.length y514) ∧ Aside0 (Below w.heap.size w wc))
       case first =>
        have H := HC16.out
        clear HC16
        by_cases c20 : (rd x6_1 0) = a1
        ·rw [if_pos c20] at H
         have c20b0 : ((rd x6_1 0) == a1) = true := beq_iff_eq.mpr c20
         have c20b1 : ((rd x6_1 0) != a1) = false := bne_eq_false_iff_eq.mpr c20
         clear c20
         (first | rw [c20b0] | (simp only [i64_w, i32_w]; rw [c20b0]) | skip)
         have H' := Aside0.mk H
         clear H
         go_wp2
         go_meet
         case rel => exact ⟨_, (true), rF_, H', ⟨by have := HK1.out; first | omega | exact Nat.le_refl _⟩, ⟨by (with_reducible repeat (first | apply Kd.R_alloc | apply Kd.R_drewN | apply Kd.R_drew)); exact Kd.R_mono HO_5.out (fun _ hk => hk.2)⟩, ⟨by (with_reducible repeat (first | apply Kd.R_alloc | apply Kd.R_drewN | apply Kd.R_drew)); exact Kd.R_mono HO520.out (fun _ hk => hk.1.2)⟩, ⟨bK506_⟩, ⟨by repeat (first | (with_reducible exact HR517.out) | (with_reducible refine Kd.C_alloc ?_ _) | (with_reducible refine Kd.C_drewN ?_ _) | (with_reducible refine Kd.C_drew ?_) | exact HR517.out)⟩, ⟨hS_⟩⟩
        ·rw [if_neg c20] at H
         have c20b0 : ((rd x6_1 0) == a1) = false := beq_eq_false_iff_ne.mpr c20
         have c20b1 : ((rd x6_1 0) != a1) = true := bne_iff_ne.mpr c20
         (first | rw [c20b0] | (simp only [i64_w, i32_w]; rw [c20b0]) | skip)
         replace H := Option.bind_eq_some_iff.mp H
         obtain ⟨t521, A210, H⟩ := H
         replace H : (spec_l3Reach.j1 k1 a1 x5_1 t518 (rd x6_1 0) t521 l0_0 a0_1 l0_2) = some r := H
         have A21 := Aside0.mk A210
         clear A210
         have H' := Aside0.mk H
         clear H
         obtain ⟨Ao22, co22, eo22⟩ := Kd.R_slice HO_5.out
         subst eo22
         go_wp2_with (first | (go_at_call 52; (with_reducible refine (spec_l1Has.calls k1 _ _ x5_1 (rd x6_1 0) t521 _ ?side1 ?side2 A21.out).mono ?_); (case side1 => repeat (first | exact (Kd.R_reads' HO_5.out).2.2 | (with_reducible refine Kd.C_alloc ?_ _) | (with_reducible refine Kd.C_drewN ?_ _) | (with_reducible refine Kd.C_drew ?_))); (case side2 => exact (Kd.R_reads' HO_5.out).2.1); rintro e w' ⟨rfl, ⟨nd, rfl⟩⟩))
         go_meet
         case rel => exact ⟨_, (t521), rF_, H', ⟨by have := HK1.out; first | omega | exact Nat.le_refl _⟩, ⟨by (with_reducible repeat (first | apply Kd.R_alloc | apply Kd.R_drewN | apply Kd.R_drew)); exact Kd.R_mono HO_5.out (fun _ hk => hk.2)⟩, ⟨by (with_reducible repeat (first | apply Kd.R_alloc | apply Kd.R_drewN | apply Kd.R_drew)); exact Kd.R_mono HO520.out (fun _ hk => hk.1.2)⟩, ⟨bK506_⟩, ⟨by repeat (first | (with_reducible exact HR517.out) | (with_reducible refine Kd.C_alloc ?_ _) | (with_reducible refine Kd.C_drewN ?_ _) | (with_reducible refine Kd.C_drew ?_) | exact HR517.out)⟩, ⟨hS_⟩⟩
       case rest =>
        clear HC16
        try clear c1
        try clear q1
        try clear c2
        try clear p2
        try clear c3
        try clear c3b0
        try clear c3b1
        try clear p5
        try clear q5
        try clear hx5
        try clear qi5
        try clear c6
        try clear c12
        try clear c12b0
        try clear c12b1
        try clear c13
        try clear c13b0
        try clear c13b1
        try clear c14
        try clear c14b0
        try clear c14b1
        try clear c18
        try clear q18
        try clear c20
        try clear c20b0
        try clear c20b1
        try clear hx513_0
        try clear p2
        try clear p513
        try clear q18
        try clear q513
        obtain ⟨kq, x29_15, rfl, HA, HJ15, HO_5, HO_6, BK506, HR517, HB⟩ := hcut
        cases kq with
        | zero => exact absurd HA.out (by simp [spec_l3Reach.j1])
        | succ kj15 =>
         have H := HA.out
         clear HA
         simp only [spec_l3Reach.j1] at H
         by_cases c23 : x29_15 = true
         ·subst c23
          have H1 := (if_pos rfl).symm.trans H
          clear H
          have H := H1
          clear H1
          have H' := Aside0.mk H
          clear H
          go_wp2
          go_roundg kj15
          case measure => have := HK1.out; have := HJ15.out; omega
          case rel => exact ⟨(x5_1), (t518), H', ⟨by have := HK1.out; have := HJ15.out; omega⟩, ⟨rHO_5_⟩, ⟨rHO_6_⟩, ⟨bK506_⟩, ⟨hS_⟩⟩
         ·replace c23 := Bool.eq_false_iff.mpr c23
          subst c23
          have H1 := (if_neg (show ¬ (false = true) by decide)).symm.trans H
          clear H
          have H := H1
          clear H1
          replace H := Option.bind_eq_some_iff.mp H
          obtain ⟨t522, A240, H⟩ := H
          replace H : ((spec_l3Succs.f l0_0 a0_1 l0_2 (rd x6_1 0)).bind fun t525 => (if t518.length + t525.length < 17592186044416 then (spec_l3Reach.l0 kj15 a1 t522 (t518 ++ t525) l0_0 a0_1 l0_2) else (none))) = some r := H
          have A24 := Aside0.mk A240
          clear A240
          replace H := Option.bind_eq_some_iff.mp H
          obtain ⟨t525, A250, H⟩ := H
          replace H : (if t518.length + t525.length < 17592186044416 then (spec_l3Reach.l0 kj15 a1 t522 (t518 ++ t525) l0_0 a0_1 l0_2) else (none)) = some r := H
          have A25 := Aside0.mk A250
          clear A250
          by_cases c26 : t518.length + t525.length < 17592186044416
          ·rw [if_pos c26] at H
           have LMc26 := Aside0.mk c26
           clear c26
           obtain ⟨y528, hy528⟩ : ∃ y_ : List Int, y_ = (t518 ++ t525) := ⟨_, rfl⟩
           replace H : (spec_l3Reach.l0 kj15 a1 t522 y528 l0_0 a0_1 l0_2) = some r := by first | (rw [hy528]; with_reducible exact H) | (have H2_ := (Option.bind_some _ _).symm.trans H; rw [hy528]; with_reducible exact H2_) | (have H2_ := (Option.bind_some _ _).symm.trans H; with_reducible exact H2_) | with_reducible exact H | (rw [hy528]; exact H) | exact H
           have Ny528 := Aside0.mk hy528
           clear hy528
           have H' := Aside0.mk H
           clear H
           obtain ⟨Ao27, co27, eo27⟩ := Kd.R_slice HO_5.out
           subst eo27
           go_wp2_with (first | ((with_reducible refine gate_callee (f := 59) rfl ?_); refine gL_ (some 32) Try.func59 #[.slice Ao27 x5_1.length co27, .int .i64 (rd x6_1 0)] ?_; (with_reducible refine (spec_l1Put.calls kj15 (fun k_ => some k_ = (.slice Ao27 x5_1.length co27 : Value).ownBlock) (.slice Ao27 x5_1.length co27) x5_1 (rd x6_1 0) t522 w _ ?side1 ?side2 A24.out).mono ?_); (case side1 => repeat (first | (with_reducible first | exact HB.out | apply below_alloc | apply pw_below_drewN | apply below_drew1 | refine below_set ?_ GE506.out) | exact HB.out)); (case side2 => exact Kd.R_tight rfl HO_5.out); rintro e w28 ⟨v523, rfl, ho0, hb, hkp⟩; refine ⟨_, rfl, ?_⟩; have n0_ := Aside0.mk (Kd.R_mono (ok' := fun k_ => some k_ ≠ (v523 : Value).ownBlock) (Kd.R_keptB (HO_6.out) hkp (fun k_ hk_ hs_ => (hk_) hs_)) (fun k_ hk_ => fun e_ => Or.elim (ho0.1 k_ e_.symm) (fun hs_ => hk_.2.1 hs_) (fun hn_ => Nat.not_le.2 hk_.2.2 hn_))); have n1_ := Aside0.mk (blk_kept bK506_ hkp (fun hs_ => (fun e_ => (Kd.R_ne HO_5.out BK506.out (by decide)) e_) hs_)); have n2_ := Aside0.mk (Kd.R_mono (ok' := fun k_ => some k_ ≠ (v519 : Value).ownBlock) ho0 (fun k_ hk_ => Or.elim hk_ (fun hs_ => fun e_ => (((HO_6.out).1 k_ e_.symm)) hs_) (fun hn_ => (Kd.fresh' (Kd.R_lt rHO_6_) k_ hn_)))); have n3_ := Aside0.mk (hb); clear HO_6; clear BK506; clear HB; clear HO_5; have HO_6 := n0_; have BK506 := n1_; have HO524 := n2_; have HB := n3_; clear n0_ n1_ n2_ n3_; (try clear hb); (try clear hkp); (try clear ho0); obtain ⟨hcz29_0, hcz29_1, hcz29_2, hfz29_0, hfz29_1, hfz29_2⟩ := blkc3_ BK506.out) | ((with_reducible refine gate_callee (f := 51) rfl ?_); refine gL_ (some 36) Try.func51 #[.agg #[.slice A0_0 l0_0.length c0_0, .int .i64 a0_1, .slice A0_2 l0_2.length c0_2], .int .i64 (rd x6_1 0)] ?_; (with_reducible refine (spec_l3Succs.calls _ _ l0_0 a0_1 _ _ l0_2 (rd x6_1 0) t525 _ ?side1 ?side2 ?side3 ?side4 A25.out).mono ?_); (case side1 => exact cHR0_0_); (case side2 => exact HC0_0.out); (case side3 => exact cHR0_2_); (case side4 => exact HC0_2.out); rintro e w30 ⟨v526, rfl, ho0, hb⟩; refine ⟨_, rfl, ?_⟩; have n0_ := Aside0.mk (Kd.R_elder' rHO_6_ (Kd.R_base ho0) hb); have n1_ := Aside0.mk (Kd.R_elder' rHO524_ (Kd.R_base ho0) hb); have n2_ := Aside0.mk (Kd.R_lower (Kd.R_new' (Kd.R_new' ho0 (Kd.R_lt rHO_6_)) (Kd.R_lt rHO524_)) (below_size hS_)); have n3_ := Aside0.mk (blk_below (g := gb506) (o := .cells #[.slice A0_0 l0_0.length c0_0, .int .i64 a0_1, .slice A0_2 l0_2.length c0_2] 30 (0, 0)) bK506_ hb); have n4_ := Aside0.mk (below_step hS_ hb); clear HO_6; clear HO524; clear BK506; clear HB; have HO_6 := n0_; have HO524 := n1_; have HO527 := n2_; have BK506 := n3_; have HB := n4_; clear n0_ n1_ n2_ n3_ n4_; (try clear hb); (try clear hb2); (try clear hk); (try clear hi); (try clear ho0); obtain ⟨Ao32, co32, eo32⟩ := Kd.R_slice HO527.out; subst eo32) | ((with_reducible refine gate_builtin (b := .append) (xs := #[.tmp 33, .tmp 36]) rfl ?_); at_builtin; refine Kd.R_append_rows (Kd.int .i64) (w0 := w) w.heap.size rfl (.tmp 33) (.tmp 36) 22 2 (.int .i64 0) 8 rfl Try.underlying22 info2 rfl (by decide) (by omega) v519 t518 t525 _ _ _ (fun k_ => some k_ ≠ (v523 : Value).ownBlock ∧ some k_ ≠ (.slice Ao32 t525.length co32 : Value).ownBlock) (fun _ => False) rfl rfl ?aO ?aR (fun _ _ h => h) (fun _ h => h.elim) ?aF ?aB ?aS ?aL ?_; (case aR => repeat (first | exact (Kd.R_reads' HO527.out).2.2 | (with_reducible refine Kd.C_alloc ?_ _) | (with_reducible refine Kd.C_drewN ?_ _) | (with_reducible refine Kd.C_drew ?_))); (case aB => exact hS_); (case aF => exact (fun k_ hk => ⟨Kd.fresh' (Kd.R_lt rHO524_) k_ hk, Kd.fresh' (Kd.R_lt rHO527_) k_ hk⟩)); (case aO => exact rHO_6_); (case aS => exact (below_size hS_)); (case aL => have := LMc26.out; omega); intro v529 w31 ho hb hg hat; rw [← Ny528.out] at ho; have n0_ := Aside0.mk (blk_grown (g := gb506) (o := .cells #[.slice A0_0 l0_0.length c0_0, .int .i64 a0_1, .slice A0_2 l0_2.length c0_2] 30 (0, 0)) bK506_ hg (Kd.R_ne HO_6.out BK506.out (by decide))); have n1_ := Aside0.mk (Kd.R_after (ok := (fun k_ => some k_ ≠ (.slice Ao32 t525.length co32 : Value).ownBlock)) (by (with_reducible repeat (first | apply Kd.R_alloc | apply Kd.R_drewN | apply Kd.R_drew)); exact Kd.R_mono HO524.out (fun _ hk => ⟨hk.2, hk.1⟩)) hg hat); have n2_ := Aside0.mk (Kd.R_after (ok := (fun k_ => some k_ ≠ (v523 : Value).ownBlock)) (by (with_reducible repeat (first | apply Kd.R_alloc | apply Kd.R_drewN | apply Kd.R_drew)); exact Kd.R_mono HO527.out (fun _ hk => ⟨hk.2, hk.1.2⟩)) hg hat); have n3_ := Aside0.mk (hb); have n4_ := Aside0.mk (ho); clear BK506; clear HO524; clear HO527; clear HB; clear HO_6; have BK506 := n0_; have HO524 := n1_; have HO527 := n2_; have HB := n3_; have HO530 := n4_; clear n0_ n1_ n2_ n3_ n4_; clear ho hb hg hat))
           go_roundg kj15
           case measure => have := HK1.out; have := HJ15.out; omega
           case rel => exact ⟨(t522), (y528), H', ⟨by have := HK1.out; have := HJ15.out; omega⟩, ⟨by (with_reducible repeat (first | apply Kd.R_alloc | apply Kd.R_drewN | apply Kd.R_drew)); exact Kd.R_mono HO524.out (fun _ hk => hk.2)⟩, ⟨by (with_reducible repeat (first | apply Kd.R_alloc | apply Kd.R_drewN | apply Kd.R_drew)); exact Kd.R_mono HO530.out (fun _ hk => hk.1)⟩, ⟨bK506_⟩, ⟨hS_⟩⟩
          ·rw [if_neg c26] at H
           exact absurd H (by simp)
      ·rw [if_neg c14] at H
       exact absurd H (by simp)
     ·rw [if_neg c13] at H
      exact absurd H (by simp)
    ·rw [if_neg c12] at H
     have c12b0 : decide (0 < (x6_1.length : Int)) = false := decide_eq_false c12
     have c12b1 : decide (0 < x6_1.length) = false := decide_eq_false (by omega)
     clear c12
     obtain rfl := Option.some.inj H
     obtain ⟨Ao33, co33, eo33⟩ := Kd.R_slice HO_6.out
     subst eo33
     go_wp2
     go_ret
     exact ⟨_, rG_, by (with_reducible repeat (first | apply Kd.R_alloc | apply Kd.R_drewN | apply Kd.R_drew)); exact Kd.R_mono HO_5.out (fun _ hk => trivial), hS_⟩
end Go.Proofs.Ytobfgnjdcoidoaa.X
namespace Go.Proofs.Ytobfgnjdcoidoaa.X
set_option linter.unusedVariables false
set_option linter.unusedSimpArgs false
open Go.RowKit Go.Proofs.YtobfgnjdcoidoaaW.PrintWords Go.Proofs.YtobfgnjdcoidoaaW.PrintLast Go.Proofs.YtobfgnjdcoidoaaW.PrintMore
/-- The places that are marked, from i on. -/
def idx : List Bool → Int → List Int
  | [], _ => []
  | x :: l, i => if x = true then i :: idx l (i + 1) else idx l (i + 1)
theorem idx_ge : ∀ (l : List Bool) (i n : Int), n ∈ idx l i → i ≤ n
  | [], i, n, h => by simp [idx] at h
  | x :: l, i, n, h => by
    simp only [idx] at h
    split at h
    · rcases List.mem_cons.1 h with rfl | h
      · omega
      · have := idx_ge l (i + 1) n h; omega
    · have := idx_ge l (i + 1) n h; omega
theorem mem_idx : ∀ (l : List Bool) (i : Int) (b : Nat), (i + b) ∈ idx l i ↔ l.getD b false = true
  | [], i, b => by simp [idx]
  | x :: l, i, 0 => by
    simp only [idx]
    have hn : ¬ (i ∈ idx l (i + 1)) := fun h => by have := idx_ge _ _ _ h; omega
    by_cases hx : x = true
    · simp [hx]
    · rw [if_neg hx]
      simp only [Int.natCast_zero, Int.add_zero, List.getD_cons_zero]
      exact ⟨fun h => absurd h hn, fun h => absurd h hx⟩
  | x :: l, i, b + 1 => by
    have ih := mem_idx l (i + 1) b
    rw [show i + 1 + (b : Int) = i + ((b + 1 : Nat) : Int) by push_cast; omega] at ih
    simp only [idx, List.getD_cons_succ]
    split
    · rw [List.mem_cons, ih]
      exact ⟨fun h => h.elim (fun h => by exfalso; push_cast at h; omega) id, .inr⟩
    · exact ih
theorem mem_idx0 (l : List Bool) (b : Int) (h : 0 ≤ b) : b ∈ idx l 0 ↔ l.getD b.toNat false = true := by
  have := mem_idx l 0 b.toNat
  rw [show (0 : Int) + (b.toNat : Int) = b by omega] at this
  exact this
theorem idx_length : ∀ (l : List Bool) (i : Int), (idx l i).length ≤ l.length
  | [], i => by simp [idx]
  | x :: l, i => by
    have := idx_length l (i + 1)
    simp only [idx]
    split <;> simp <;> omega
/-- A number put into a list of numbers that rise. -/
def putI (n : Int) : List Int → List Int
  | [] => [n]
  | x :: l => if x < n then x :: putI n l else n :: x :: l
theorem putI_ge (n : Int) : ∀ (l : List Int), (∀ x ∈ l, n ≤ x) → putI n l = n :: l
  | [], _ => rfl
  | x :: l, h => by simp only [putI]; rw [if_neg (by have := h x (by simp); omega)]
theorem idx_set : ∀ (l : List Bool) (i : Int) (b : Nat), b < l.length → l.getD b false = false → idx (l.set b true) i = putI (i + b) (idx l i)
  | [], i, b, h, _ => by simp at h
  | x :: l, i, 0, h, hx => by
    simp only [List.getD_cons_zero] at hx
    subst hx
    simp only [List.set_cons_zero, idx, if_true, Int.natCast_zero, Int.add_zero]
    rw [if_neg (by decide), putI_ge]
    intro y hy
    have := idx_ge _ _ _ hy; omega
  | x :: l, i, b + 1, h, hx => by
    have ih := idx_set l (i + 1) b (by simpa using h) (by simpa using hx)
    rw [show i + 1 + (b : Int) = i + ((b + 1 : Nat) : Int) by push_cast; omega] at ih
    simp only [List.set_cons_succ, idx, ih]
    split
    · simp only [putI]; rw [if_pos (by push_cast; omega)]
    · rfl
/-- Where a block leads. -/
def succsOf (b : Block) : List Int := if b.f2.f0 = 2 then [b.f2.f2] else if b.f2.f0 = 3 then [b.f2.f2, b.f2.f3] else []
theorem succsOf_len (b : Block) : (succsOf b).length ≤ 2 := by
  unfold succsOf
  split
  · simp
  · split <;> simp
/-- All ends lead to blocks, of which there are at most ten. -/
def There (l : List Block) : Prop := l.length ≤ 10 ∧ ∀ b ∈ l, ∀ s ∈ succsOf b, 0 ≤ s ∧ s < l.length
instance (l : List Block) : Decidable (There l) := by unfold There; infer_instance
/-- How many are not marked. -/
def off (out : List Bool) : Nat := out.count false
theorem off_set : ∀ (out : List Bool) (b : Nat), b < out.length → out.getD b false = false → off (out.set b true) + 1 = off out
  | [], b, h, _ => by simp at h
  | x :: l, 0, h, hx => by
    simp only [List.getD_cons_zero] at hx
    subst hx
    simp [off]
  | x :: l, b + 1, h, hx => by
    have ih := off_set l b (by simpa using h) (by simpa using hx)
    unfold off at ih ⊢
    simp only [List.set_cons_succ, List.count_cons]
    omega
theorem off_replicate (n : Nat) : off (List.replicate n false) = n := by unfold off; simp
theorem idx_replicate : ∀ (n : Nat) (i : Int), idx (List.replicate n false) i = []
  | 0, _ => rfl
  | n + 1, i => by simp only [List.replicate_succ, idx]; rw [if_neg (by decide)]; exact idx_replicate n (i + 1)
theorem has_l (l : List Int) (n : Int) (h : smI l) : ∀ (d i : Nat), i + d = l.length → Ev (fun k => spec_l1Has.l0 k l n i) (decide (n ∈ l.drop i)) := by
  unfold smI at h
  intro d
  induction d with
  | zero =>
    intro i hi
    refine Ev.step (fun k => rfl) (Ev.ineg (by omega) (Ev.rw (Ev.now _) ?_))
    rw [List.drop_of_length_le (by omega)]; simp
  | succ d ih =>
    intro i hi
    have hlt : i < l.length := by omega
    refine Ev.step (fun k => rfl) (Ev.ipos (by omega) (Ev.ipos (by omega) ?_))
    rw [show rd l (i : Int) = l[i] from getD_at l _ i hlt, List.drop_eq_getElem_cons hlt]
    by_cases c : l[i] = n
    · exact Ev.ipos c (Ev.rw (Ev.now _) (by simp [c]))
    · refine Ev.ineg c ?_
      rw [show wrap64 ((i : Int) + 1) = ((i + 1 : Nat) : Int) by rw [w64 (by omega) (by omega)]; rfl]
      refine Ev.rw (ih (i + 1) (by omega)) ?_
      rw [decide_eq_decide, List.mem_cons]
      exact ⟨.inr, fun h => h.elim (fun e => absurd e.symm c) id⟩
theorem has_ev (l : List Int) (n : Int) (h : smI l) : Ev (fun k => spec_l1Has.f k l n) (decide (n ∈ l)) := by
  have := has_l l n h l.length 0 (by omega)
  rw [List.drop_zero] at this
  exact this
theorem put_l (l : List Int) (n : Int) (h : smI l) (hn : n ∉ l) : ∀ (d i : Nat), i + d = l.length → Ev (fun k => spec_l1Put.l0 k l n i) (l.take i ++ putI n (l.drop i)) := by
  unfold smI at h
  intro d
  induction d with
  | zero =>
    intro i hi
    obtain rfl : i = l.length := by omega
    refine Ev.step (fun k => rfl) (Ev.ineg (by omega) ?_)
    rw [List.drop_of_length_le (Nat.le_refl _), List.take_of_length_le (Nat.le_refl _)]
    refine Ev.cst ?_
    simp only [Option.bind_some, Int.toNat_natCast, List.nil_append, List.length_nil, List.take_length, List.drop_length, List.append_nil]
    rw [if_pos (by omega), if_pos (by omega), if_pos (by omega), if_pos (by omega), if_pos (by simp; omega)]
    rfl
  | succ d ih =>
    intro i hi
    have hlt : i < l.length := by omega
    refine Ev.step (fun k => rfl) (Ev.ipos (by omega) (Ev.ipos (by omega) ?_))
    rw [show rd l (i : Int) = l[i] from getD_at l _ i hlt]
    by_cases c : l[i] < n
    · refine Ev.ipos c ?_
      rw [show wrap64 ((i : Int) + 1) = ((i + 1 : Nat) : Int) by rw [w64 (by omega) (by omega)]; rfl]
      refine Ev.rw (ih (i + 1) (by omega)) ?_
      rw [List.drop_eq_getElem_cons hlt, List.take_succ_eq_append_getElem hlt]
      simp only [putI]
      rw [if_pos c, List.append_assoc]; rfl
    · refine Ev.ineg c (Ev.ineg (fun e => hn (e ▸ List.getElem_mem hlt)) (Ev.cst ?_))
      simp only [Option.bind_some, Int.toNat_natCast, List.nil_append, List.length_nil]
      have hm : (List.take i l).length = i := by rw [List.length_take]; omega
      rw [if_pos (by omega), if_pos (by omega), if_pos (by omega), if_pos (by simp; omega)]
      have e : putI n (l.drop i) = n :: l.drop i := by
        rw [List.drop_eq_getElem_cons hlt]
        simp only [putI]
        rw [if_neg c]
      rw [e, List.append_assoc]; rfl
theorem put_ev (l : List Int) (n : Int) (h : smI l) (hn : n ∉ l) : Ev (fun k => spec_l1Put.f k l n) (putI n l) := by
  have := put_l l n h hn l.length 0 (by omega)
  rw [List.drop_zero, List.take_zero, List.nil_append] at this
  exact this
theorem implLeads_eq (b : Block) : impl_leadsTo.f b.f2.f0 b.f2.f1 b.f2.f2 b.f2.f3 = some (succsOf b) := by
  unfold impl_leadsTo.f succsOf
  by_cases c2 : b.f2.f0 = 2
  · rw [if_pos c2, if_pos c2]
  · rw [if_neg c2, if_neg c2]
    by_cases c3 : b.f2.f0 = 3
    · rw [if_pos c3, if_pos c3]
    · rw [if_neg c3, if_neg c3]
theorem specSuccs_eq (p : List Int) (r : Int) (l : List Block) (x : Int) (h0 : 0 ≤ x) (h1 : x < (l.length : Int)) : spec_l3Succs.f p r l x = some (succsOf (l.getD x.toNat z80)) := by
  have e : rd_T80 l x = l.getD x.toNat z80 := rfl
  unfold spec_l3Succs.f
  rw [if_pos h0, if_pos h1, e]
  generalize l.getD x.toNat z80 = b
  unfold succsOf
  by_cases c2 : b.f2.f0 = 2
  · rw [if_pos c2, if_pos c2]
  · rw [if_neg c2, if_neg c2]
    by_cases c3 : b.f2.f0 = 3
    · rw [if_pos c3, if_pos c3]
    · rw [if_neg c3, if_neg c3]
theorem smI_small {l : List Int} (h : l.length ≤ 200) : smI l := Nat.le_trans h (by decide)
/-- All ends lead to blocks (any number of blocks). -/
def EndsOk (l : List Block) : Prop := ∀ b ∈ l, ∀ s ∈ succsOf b, 0 ≤ s ∧ s < (l.length : Int)
instance (l : List Block) : Decidable (EndsOk l) := by unfold EndsOk; infer_instance
theorem There_iff (l : List Block) : There l ↔ l.length ≤ 10 ∧ EndsOk l := Iff.rfl
theorem implGraph_eq (p : List Int) (r : Int) (l : List Block) (h : l.length ≤ 1048576) : impl_isGraph.f p r l = some (decide (1 ≤ l.length ∧ There l)) := by
  have hw : wrap64 ((l.length : Int) - 1) = (l.length : Int) - 1 := w64 (by omega) (by omega)
  unfold impl_isGraph.f
  congr 1
  have key : ∀ b : Block, ((impl_isGraph.ends b).any (impl_isGraph.far (l.length : Int)) = true) ↔ ∃ s ∈ succsOf b, ¬ (0 ≤ s ∧ s < (l.length : Int)) := by
    intro b
    rw [List.any_eq_true]
    constructor
    · rintro ⟨s, hs, hf⟩
      refine ⟨s, hs, ?_⟩
      unfold impl_isGraph.far at hf
      rw [hw] at hf
      simp at hf
      omega
    · rintro ⟨s, hs, hf⟩
      refine ⟨s, hs, ?_⟩
      unfold impl_isGraph.far
      rw [hw]
      simp
      omega
  have e : (!(l.any fun b => (impl_isGraph.ends b).any (impl_isGraph.far (l.length : Int)))) = decide (EndsOk l) := by
    rw [Bool.eq_iff_iff, decide_eq_true_eq, Bool.not_eq_true', List.any_eq_false]
    constructor
    · intro hh b hb s hs
      exact Classical.byContradiction fun c => hh b hb ((key b).2 ⟨s, hs, c⟩)
    · intro hh b hb hany
      obtain ⟨s, hs, c⟩ := (key b).1 hany
      exact c (hh b hb s hs)
  rw [e, Bool.eq_iff_iff, Bool.and_eq_true, decide_eq_true_eq, decide_eq_true_eq, decide_eq_true_eq, There_iff]
  constructor
  · rintro ⟨⟨h1, h2⟩, h3⟩; exact ⟨by omega, by omega, h3⟩
  · rintro ⟨h1, h2, h3⟩; exact ⟨⟨by omega, by omega⟩, h3⟩
theorem specThere_l1 (p : List Int) (r : Int) (l : List Block) (a : Int) (h : l.length ≤ 1048576) (i : Nat) (hil : i < l.length) (s : List Int) (hs : s.length ≤ 2) (R : Bool) (hR : Ev (fun k => spec_l3There.l0 k a (l.length : Int) ((i + 1 : Nat) : Int) p r l) R) :
    ∀ (d j : Nat), j + d = s.length → Ev (fun k => spec_l3There.l1 k a (l.length : Int) i s j p r l) (decide (∀ x ∈ s.drop j, 0 ≤ x ∧ x < (l.length : Int)) && R) := by
  have hw : wrap64 ((l.length : Int) - 1) = (l.length : Int) - 1 := w64 (by omega) (by omega)
  intro d
  induction d with
  | zero =>
    intro j hj
    refine Ev.succ ?_
    simp only [spec_l3There.l1]
    refine Ev.ineg (by omega) ?_
    rw [show wrap64 ((i : Int) + 1) = ((i + 1 : Nat) : Int) by rw [w64 (by omega) (by omega)]; rfl]
    refine Ev.rw hR ?_
    rw [List.drop_of_length_le (by omega)]; simp
  | succ d ih =>
    intro j hj
    have hlt : j < s.length := by omega
    refine Ev.succ ?_
    simp only [spec_l3There.l1]
    rw [hw, show rd s (j : Int) = s[j] from getD_at s _ j hlt]
    refine Ev.ipos (by omega) (Ev.ipos (by omega) (Ev.bind (Ev.cst (specIn_eq _ _ _)) ?_))
    rw [List.drop_eq_getElem_cons hlt]
    by_cases c : 0 ≤ s[j] ∧ s[j] ≤ (l.length : Int) - 1
    · refine Ev.ipos (decide_eq_true c) ?_
      rw [show wrap64 ((j : Int) + 1) = ((j + 1 : Nat) : Int) by rw [w64 (by omega) (by omega)]; rfl]
      refine Ev.rw (ih (j + 1) (by omega)) ?_
      congr 1
      rw [decide_eq_decide]
      simp only [List.mem_cons, forall_eq_or_imp]
      exact ⟨fun h => ⟨⟨c.1, by omega⟩, h⟩, fun h => h.2⟩
    · refine Ev.ineg (by rw [decide_eq_false c]; decide) (Ev.rw (Ev.now _) ?_)
      rw [decide_eq_false (fun h => c (by have := h _ List.mem_cons_self; exact ⟨this.1, by omega⟩))]; rfl
theorem specThere_l0 (p : List Int) (r : Int) (l : List Block) (a : Int) (h : l.length ≤ 1048576) : ∀ (d i : Nat), i + d = l.length →
    Ev (fun k => spec_l3There.l0 k a (l.length : Int) i p r l) (decide (∀ b ∈ l.drop i, ∀ s ∈ succsOf b, 0 ≤ s ∧ s < (l.length : Int)) && (decide (0 ≤ a ∧ a ≤ (l.length : Int) - 1) && decide ((l.length : Int) ≤ 10))) := by
  have hw : wrap64 ((l.length : Int) - 1) = (l.length : Int) - 1 := w64 (by omega) (by omega)
  intro d
  induction d with
  | zero =>
    intro i hi
    refine Ev.succ ?_
    simp only [spec_l3There.l0]
    rw [hw]
    refine Ev.ineg (by omega) (Ev.bind (Ev.cst (specIn_eq _ _ _)) ?_)
    rw [List.drop_of_length_le (by omega), show decide (∀ b ∈ ([] : List Block), ∀ s ∈ succsOf b, 0 ≤ s ∧ s < (l.length : Int)) = true by simp, Bool.true_and]
    by_cases c : 0 ≤ a ∧ a ≤ (l.length : Int) - 1
    · rw [decide_eq_true c, Bool.true_and]; exact Ev.ipos rfl (Ev.now _)
    · rw [decide_eq_false c, Bool.false_and]; exact Ev.ineg (by decide) (Ev.now _)
  | succ d ih =>
    intro i hi
    have hlt : i < l.length := by omega
    refine Ev.succ ?_
    simp only [spec_l3There.l0]
    refine Ev.ipos (by omega) (Ev.bind (Ev.cst (specSuccs_eq p r l i (by omega) (by omega))) ?_)
    rw [show (i : Int).toNat = i from rfl, getD_at l _ i hlt]
    refine Ev.rw (specThere_l1 p r l a h i hlt (succsOf l[i]) (succsOf_len _) _ (ih (i + 1) (by omega)) _ 0 (Nat.zero_add _)) ?_
    rw [List.drop_zero, ← Bool.and_assoc, ← Bool.decide_and]
    congr 1
    rw [decide_eq_decide, List.drop_eq_getElem_cons hlt]
    simp only [List.mem_cons, forall_eq_or_imp]
theorem specThere_ev (p : List Int) (r : Int) (l : List Block) (a : Int) (h : l.length ≤ 1048576) : Ev (fun k => spec_l3There.f k p r l a) (decide ((0 ≤ a ∧ a < (l.length : Int)) ∧ There l)) := by
  refine Ev.rw (specThere_l0 p r l a h l.length 0 (by omega)) ?_
  rw [List.drop_zero, ← Bool.decide_and, ← Bool.decide_and, decide_eq_decide, There_iff]
  unfold EndsOk
  exact ⟨fun h => ⟨by omega, by omega, h.1⟩, fun h => ⟨h.2.2, by omega, by omega⟩⟩
end Go.Proofs.Ytobfgnjdcoidoaa.X
