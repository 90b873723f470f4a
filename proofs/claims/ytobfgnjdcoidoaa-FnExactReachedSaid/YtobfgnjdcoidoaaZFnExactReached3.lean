/- PROVED HERE: what the functions that the law FnExactReached reaches do in memory, each as a plain Lean function, and what these tell: part 4 of 5 of the proof of that law; no condition beyond those written out at each theorem. -/
import Derived.Deep.Slices
import Derived.ProofKit
import Derived.Test.YtobfgnjdcoidoaaZFnExactReached0
import Derived.Test.YtobfgnjdcoidoaaZFnExactReached1
import Derived.Test.YtobfgnjdcoidoaaZFnExactReached2
namespace Go.Proofs.Ytobfgnjdcoidoaa.X
open Go.RowKit Go.Proofs.YtobfgnjdcoidoaaW.PrintWords Go.Proofs.YtobfgnjdcoidoaaW.PrintLast Go.Proofs.YtobfgnjdcoidoaaW.PrintMore
theorem pk_ {p : Prop} (h : p := by first | exact hk_ | exact hk_.1 | exact hk_.2 | exact hk_.1.1 | exact hk_.1.2 | exact hk_.2.1 | exact hk_.2.2 | exact hk_.1.1.1 | exact hk_.1.1.2 | exact hk_.1.2.1 | exact hk_.1.2.2 | exact hk_.2.1.1 | exact hk_.2.1.2 | exact hk_.2.2.1 | exact hk_.2.2.2 | exact hk_.1.1.1.1 | exact hk_.1.1.1.2 | exact hk_.1.1.2.1 | exact hk_.1.1.2.2 | exact hk_.1.2.1.1 | exact hk_.1.2.1.2 | exact hk_.1.2.2.1 | exact hk_.1.2.2.2 | exact hk_.2.1.1.1 | exact hk_.2.1.1.2 | exact hk_.2.1.2.1 | exact hk_.2.1.2.2 | exact hk_.2.2.1.1 | exact hk_.2.2.1.2 | exact hk_.2.2.2.1 | exact hk_.2.2.2.2 | exact hk_.1.1.1.1.1 | exact hk_.1.1.1.1.2 | exact hk_.1.1.1.2.1 | exact hk_.1.1.1.2.2 | exact hk_.1.1.2.1.1 | exact hk_.1.1.2.1.2 | exact hk_.1.1.2.2.1 | exact hk_.1.1.2.2.2 | exact hk_.1.2.1.1.1 | exact hk_.1.2.1.1.2 | exact hk_.1.2.1.2.1 | exact hk_.1.2.1.2.2 | exact hk_.1.2.2.1.1 | exact hk_.1.2.2.1.2 | exact hk_.1.2.2.2.1 | exact hk_.1.2.2.2.2 | exact hk_.2.1.1.1.1 | exact hk_.2.1.1.1.2 | exact hk_.2.1.1.2.1 | exact hk_.2.1.1.2.2 | exact hk_.2.1.2.1.1 | exact hk_.2.1.2.1.2 | exact hk_.2.1.2.2.1 | exact hk_.2.1.2.2.2 | exact hk_.2.2.1.1.1 | exact hk_.2.2.1.1.2 | exact hk_.2.2.1.2.1 | exact hk_.2.2.1.2.2 | exact hk_.2.2.2.1.1 | exact hk_.2.2.2.1.2 | exact hk_.2.2.2.2.1 | exact hk_.2.2.2.2.2 | exact hk_.1.1.1.1.1.2 | exact hk_.1.1.1.1.1.1.2 | exact hk_.1.1.1.1.1.1.1.2 | exact hk_.1.1.1.1.1.1.1.1.2 | exact hk_.1.1.1.1.1.1.1.1.1.2 | exact hk_.1.1.1.1.1.1.1.1.1.1.2 | exact hk_.1.1.1.1.1.1.1.1.1.1.1.2 | exact hk_.1.1.1.1.1.1.1.1.1.1.1.1.2 | exact hk_.1.1.1.1.1.1.1.1.1.1.1.1.1.2) : p := h
theorem ph_ {p : Prop} (h : p := by first | exact hk | exact hk.1 | exact hk.2 | exact hk.1.1 | exact hk.1.2 | exact hk.2.1 | exact hk.2.2 | exact hk.1.1.1 | exact hk.1.1.2 | exact hk.1.2.1 | exact hk.1.2.2 | exact hk.2.1.1 | exact hk.2.1.2 | exact hk.2.2.1 | exact hk.2.2.2 | exact hk.1.1.1.1 | exact hk.1.1.1.2 | exact hk.1.1.2.1 | exact hk.1.1.2.2 | exact hk.1.2.1.1 | exact hk.1.2.1.2 | exact hk.1.2.2.1 | exact hk.1.2.2.2 | exact hk.2.1.1.1 | exact hk.2.1.1.2 | exact hk.2.1.2.1 | exact hk.2.1.2.2 | exact hk.2.2.1.1 | exact hk.2.2.1.2 | exact hk.2.2.2.1 | exact hk.2.2.2.2 | exact hk.1.1.1.1.1 | exact hk.1.1.1.1.2 | exact hk.1.1.1.2.1 | exact hk.1.1.1.2.2 | exact hk.1.1.2.1.1 | exact hk.1.1.2.1.2 | exact hk.1.1.2.2.1 | exact hk.1.1.2.2.2 | exact hk.1.2.1.1.1 | exact hk.1.2.1.1.2 | exact hk.1.2.1.2.1 | exact hk.1.2.1.2.2 | exact hk.1.2.2.1.1 | exact hk.1.2.2.1.2 | exact hk.1.2.2.2.1 | exact hk.1.2.2.2.2 | exact hk.2.1.1.1.1 | exact hk.2.1.1.1.2 | exact hk.2.1.1.2.1 | exact hk.2.1.1.2.2 | exact hk.2.1.2.1.1 | exact hk.2.1.2.1.2 | exact hk.2.1.2.2.1 | exact hk.2.1.2.2.2 | exact hk.2.2.1.1.1 | exact hk.2.2.1.1.2 | exact hk.2.2.1.2.1 | exact hk.2.2.1.2.2 | exact hk.2.2.2.1.1 | exact hk.2.2.2.1.2 | exact hk.2.2.2.2.1 | exact hk.2.2.2.2.2 | exact hk.1.1.1.1.1.2 | exact hk.1.1.1.1.1.1.2 | exact hk.1.1.1.1.1.1.1.2 | exact hk.1.1.1.1.1.1.1.1.2 | exact hk.1.1.1.1.1.1.1.1.1.2 | exact hk.1.1.1.1.1.1.1.1.1.1.2 | exact hk.1.1.1.1.1.1.1.1.1.1.1.2 | exact hk.1.1.1.1.1.1.1.1.1.1.1.1.2 | exact hk.1.1.1.1.1.1.1.1.1.1.1.1.1.2) : p := h
attribute [local go_sem] max2_int min2_int max_two min_two max_three min_three max_four min_four   -- for this text's walks alone
set_option linter.unusedVariables false
set_option linter.unusedSimpArgs false

/-! ### laws_FnExactReached: function 5 -/
def laws_FnExactReached.j0 : Nat → List Int → List Int → Bool → List Int → Int → List (S74) → Option (Bool)
 | 0, _, _, _, _, _, _ => none
 | k + 1, x4, x6, x42, x572000, x572001, x572002 => if x42 = true then (some false) else ((laws_markInt64S.f k x6 1).bind fun bt605 => ((laws_heldInt64S.f k bt605.2 1).bind fun t607 => (if t607 < 0 then (some false) else (if t607 = bt605.1 then ((laws_toFunc.f k x572000 x572001 x572002).bind fun bt608 => ((impl_Reached.f k bt608.1 bt608.2.1 bt608.2.2).bind fun t615 => ((laws_eqInt64S.f k t615 x4).bind fun t618 => (if t618 = true then ((laws_heldInt64S.f k bt605.2 1).bind fun t619 => (if t619 < 0 then (some false) else (if t619 = bt605.1 then (some true) else (some false)))) else (some false))))) else (some false)))))
def laws_FnExactReached.f (k : Nat) (l0_0 : List Int) (a0_1 : Int) (l0_2 : List (S74)) : Option (Bool) := (laws_szFunc.f k l0_0 a0_1 l0_2 1048576).bind fun t572 => (if t572 < 0 then (some true) else ((laws_toFunc.f k l0_0 a0_1 l0_2).bind fun bt573 => ((spec_Reached.f k bt573.1 bt573.2.1 bt573.2.2).bind fun t580 => ((laws_toFunc.f k l0_0 a0_1 l0_2).bind fun bt583 => ((impl_Reached.f k bt583.1 bt583.2.1 bt583.2.2).bind fun t591 => ((laws_eqInt64S.f k t591 t580).bind fun t594 => (if t594 = true then ((laws_toFunc.f k l0_0 a0_1 l0_2).bind fun bt595 => ((laws_eqFunc.f k bt583.1 bt583.2.1 bt583.2.2 bt595.1 bt595.2.1 bt595.2.2).bind fun t602 => (if t602 = true then ((laws_markFunc.f bt583.1 bt583.2.1 bt583.2.2 1).bind fun t603 => (if t603 < 0 then (laws_FnExactReached.j0 k t580 t591 true l0_0 a0_1 l0_2) else ((laws_eqInt64S.f k t591 t580).bind fun t604 => (laws_FnExactReached.j0 k t580 t591 (!t604) l0_0 a0_1 l0_2)))) else (some false)))) else (some false))))))))
theorem laws_FnExactReached.mono_l : ∀ k, (∀ y0 y1 y2 y3 y4 y5, LeO (laws_FnExactReached.j0 k y0 y1 y2 y3 y4 y5) (laws_FnExactReached.j0 (k + 1) y0 y1 y2 y3 y4 y5))
 | 0 => fun _ _ _ _ _ _ r h => by simp [laws_FnExactReached.j0] at h
 | k + 1 => by
  have ih0 := laws_FnExactReached.mono_l k
  ·intro y0 y1 y2 y3 y4 y5
   unfold laws_FnExactReached.j0
   repeat' first
   | (with_reducible exact ih0 _ _ _ _ _ _)
   | (with_reducible exact impl_Reached.mono _ _ _ _)
   | (with_reducible exact laws_eqFunc.mono _ _ _ _ _ _ _)
   | (with_reducible exact laws_eqInt64S.mono _ _ _)
   | (with_reducible exact laws_heldInt64S.mono _ _ _)
   | (with_reducible exact laws_markInt64S.mono _ _ _)
   | (with_reducible exact laws_szFunc.mono _ _ _ _ _)
   | (with_reducible exact laws_toFunc.mono _ _ _ _)
   | (with_reducible exact spec_Reached.mono _ _ _ _)
   | (with_reducible exact LeO.refl _)
   | (with_reducible exact LeO.none _)
   | (with_reducible refine LeO.ite ?_ ?_)
   | (with_reducible refine LeO.bind ?_ (fun _ => ?_))
   | exact ih0 _ _ _ _ _ _
   | exact impl_Reached.mono _ _ _ _
   | exact laws_eqFunc.mono _ _ _ _ _ _ _
   | exact laws_eqInt64S.mono _ _ _
   | exact laws_heldInt64S.mono _ _ _
   | exact laws_markInt64S.mono _ _ _
   | exact laws_szFunc.mono _ _ _ _ _
   | exact laws_toFunc.mono _ _ _ _
   | exact spec_Reached.mono _ _ _ _
   | exact LeO.none _
   | refine LeO.ite ?_ ?_
   | refine LeO.bind ?_ (fun _ => ?_)
theorem laws_FnExactReached.mono : ∀ a0 a1 a2 k, LeO (laws_FnExactReached.f k a0 a1 a2) (laws_FnExactReached.f (k + 1) a0 a1 a2) := by
 intro a0 a1 a2 k
 have ih0 := laws_FnExactReached.mono_l k
 unfold laws_FnExactReached.f
 repeat' first
   | (with_reducible exact ih0 _ _ _ _ _ _)
   | (with_reducible exact impl_Reached.mono _ _ _ _)
   | (with_reducible exact laws_eqFunc.mono _ _ _ _ _ _ _)
   | (with_reducible exact laws_eqInt64S.mono _ _ _)
   | (with_reducible exact laws_heldInt64S.mono _ _ _)
   | (with_reducible exact laws_markInt64S.mono _ _ _)
   | (with_reducible exact laws_szFunc.mono _ _ _ _ _)
   | (with_reducible exact laws_toFunc.mono _ _ _ _)
   | (with_reducible exact spec_Reached.mono _ _ _ _)
   | (with_reducible exact LeO.refl _)
   | (with_reducible exact LeO.none _)
   | (with_reducible refine LeO.ite ?_ ?_)
   | (with_reducible refine LeO.bind ?_ (fun _ => ?_))
   | exact ih0 _ _ _ _ _ _
   | exact impl_Reached.mono _ _ _ _
   | exact laws_eqFunc.mono _ _ _ _ _ _ _
   | exact laws_eqInt64S.mono _ _ _
   | exact laws_heldInt64S.mono _ _ _
   | exact laws_markInt64S.mono _ _ _
   | exact laws_szFunc.mono _ _ _ _ _
   | exact laws_toFunc.mono _ _ _ _
   | exact spec_Reached.mono _ _ _ _
   | exact LeO.none _
   | refine LeO.ite ?_ ?_
   | refine LeO.bind ?_ (fun _ => ?_)
set_option maxHeartbeats 8000000 in
set_option maxRecDepth 100000 in
theorem laws_FnExactReached.calls (k : Nat) (A0_0 : Option Addr) (c0_0 : Nat) (l0_0 : List Int) (a0_1 : Int) (A0_2 : Option Addr) (c0_2 : Nat) (l0_2 : List (S74)) (r : Bool) (w : World) (hr0_0 : Kd.C (Kd.int .i64) w A0_0 l0_0.length l0_0) (hc0_0 : l0_0.length ≤ c0_0) (hr0_2 : Kd.C k74 w A0_2 l0_2.length l0_2) (hc0_2 : l0_2.length ≤ c0_2) (h : laws_FnExactReached.f k l0_0 a0_1 l0_2 = some r) :
  Calls Try.prog 5 #[.agg #[.slice A0_0 l0_0.length c0_0, .int .i64 a0_1, .slice A0_2 l0_2.length c0_2]] w fun e w' => e = .returned (.bool r) ∧ Below w.heap.size w w' := by
 have hu25 := Try.underlying25
 have hu30 := Try.underlying30
 have HR0_0 := Aside0.mk hr0_0
 have HC0_0 := Aside0.mk hc0_0
 clear hr0_0 hc0_0
 have HR0_2 := Aside0.mk hr0_2
 have HC0_2 := Aside0.mk hc0_2
 clear hr0_2 hc0_2
 have HB := Aside0.mk (Below.refl w.heap.size w)
 have H : ((laws_szFunc.f k l0_0 a0_1 l0_2 1048576).bind fun t572 => (if t572 < 0 then (some true) else ((laws_toFunc.f k l0_0 a0_1 l0_2).bind fun bt573 => ((spec_Reached.f k bt573.1 bt573.2.1 bt573.2.2).bind fun t580 => ((laws_toFunc.f k l0_0 a0_1 l0_2).bind fun bt583 => ((impl_Reached.f k bt583.1 bt583.2.1 bt583.2.2).bind fun t591 => ((laws_eqInt64S.f k t591 t580).bind fun t594 => (if t594 = true then ((laws_toFunc.f k l0_0 a0_1 l0_2).bind fun bt595 => ((laws_eqFunc.f k bt583.1 bt583.2.1 bt583.2.2 bt595.1 bt595.2.1 bt595.2.2).bind fun t602 => (if t602 = true then ((laws_markFunc.f bt583.1 bt583.2.1 bt583.2.2 1).bind fun t603 => (if t603 < 0 then (laws_FnExactReached.j0 k t580 t591 true l0_0 a0_1 l0_2) else ((laws_eqInt64S.f k t591 t580).bind fun t604 => (laws_FnExactReached.j0 k t580 t591 (!t604) l0_0 a0_1 l0_2)))) else (some false)))) else (some false))))))))) = some r := h
 clear h
 replace H := Option.bind_eq_some_iff.mp H
 obtain ⟨t572, A20, H⟩ := H
 replace H : (if t572 < 0 then (some true) else ((laws_toFunc.f k l0_0 a0_1 l0_2).bind fun bt573 => ((spec_Reached.f k bt573.1 bt573.2.1 bt573.2.2).bind fun t580 => ((laws_toFunc.f k l0_0 a0_1 l0_2).bind fun bt583 => ((impl_Reached.f k bt583.1 bt583.2.1 bt583.2.2).bind fun t591 => ((laws_eqInt64S.f k t591 t580).bind fun t594 => (if t594 = true then ((laws_toFunc.f k l0_0 a0_1 l0_2).bind fun bt595 => ((laws_eqFunc.f k bt583.1 bt583.2.1 bt583.2.2 bt595.1 bt595.2.1 bt595.2.2).bind fun t602 => (if t602 = true then ((laws_markFunc.f bt583.1 bt583.2.1 bt583.2.2 1).bind fun t603 => (if t603 < 0 then (laws_FnExactReached.j0 k t580 t591 true l0_0 a0_1 l0_2) else ((laws_eqInt64S.f k t591 t580).bind fun t604 => (laws_FnExactReached.j0 k t580 t591 (!t604) l0_0 a0_1 l0_2)))) else (some false)))) else (some false)))))))) = some r := H
 have A2 := Aside0.mk A20
 clear A20
 by_cases c3 : t572 < 0
 ·rw [if_pos c3] at H
  have c3b0 : decide (t572 < 0) = true := decide_eq_true c3
  clear c3
  obtain rfl := Option.some.inj H
  go_enter Try.func5, Try.ntmps5
  go_wp2_with (first | ((with_reducible refine gate_dst (N := 1) rfl ?_); refine box_event ?hg (N := 1) ?hd (cs := #[.slice A0_0 l0_0.length c0_0, .int .i64 a0_1, .slice A0_2 l0_2.length c0_2]) (t := 25) ?hr ?_; (case hd => rfl); (case hg => rfl); (case hr => first | (go_simp; done) | (go_simp; rfl)); intro gb571 hg w4 hbox hb; have n0_ := Aside0.mk (below_step hB_ hb); have n1_ := Aside0.mk (hbox); have n2_ := Aside0.mk ((by rw [hg]; exact (below_size hB_) : w.heap.size ≤ gb571)); have n3_ := Aside0.mk ((by rw [hg]; exact (below_size hB_) : w.heap.size ≤ gb571)); clear HB; have HB := n0_; have BK571 := n1_; have GW571 := n2_; have GE571 := n3_; clear n0_ n1_ n2_ n3_; clear hb hbox hg; obtain ⟨hcz5_0, hcz5_1, hcz5_2, hfz5_0, hfz5_1, hfz5_2⟩ := blkc3_ BK571.out) | ((with_reducible refine gate_callee (f := 7) rfl ?_); refine gL_ (some 13) Try.func7 #[.agg #[.slice A0_0 l0_0.length c0_0, .int .i64 a0_1, .slice A0_2 l0_2.length c0_2], .int .i64 1048576] ?_; (with_reducible refine (laws_szFunc.calls k _ _ l0_0 a0_1 _ _ l0_2 1048576 t572 _ ?side1 ?side2 ?side3 ?side4 A2.out).mono ?_); (case side1 => repeat (first | exact (Kd.C_below HR0_0.out HB.out) | (with_reducible refine Kd.C_alloc ?_ _) | (with_reducible refine Kd.C_drewN ?_ _) | (with_reducible refine Kd.C_drew ?_))); (case side2 => exact HC0_0.out); (case side3 => repeat (first | exact (Kd.C_below HR0_2.out HB.out) | (with_reducible refine Kd.C_alloc ?_ _) | (with_reducible refine Kd.C_drewN ?_ _) | (with_reducible refine Kd.C_drew ?_))); (case side4 => exact HC0_2.out); rintro e w6 ⟨rfl, hb⟩; refine ⟨_, rfl, ?_⟩; have n0_ := Aside0.mk (blk_below (g := gb571) (o := .cells #[.slice A0_0 l0_0.length c0_0, .int .i64 a0_1, .slice A0_2 l0_2.length c0_2] 25 (0, 0)) bK571_ hb); have n1_ := Aside0.mk (below_step hS_ hb); clear BK571; clear HB; have BK571 := n0_; have HB := n1_; clear n0_ n1_; (try clear hb); (try clear hb2); (try clear hk); (try clear hi)))
  go_ret
  exact ⟨rG_, hS_⟩
 ·rw [if_neg c3] at H
  have c3b0 : decide (t572 < 0) = false := decide_eq_false c3
  clear c3
  replace H := Option.bind_eq_some_iff.mp H
  obtain ⟨⟨t573, t576, t577⟩, A70, H⟩ := H
  replace H : ((spec_Reached.f k t573 t576 t577).bind fun t580 => ((laws_toFunc.f k l0_0 a0_1 l0_2).bind fun bt583 => ((impl_Reached.f k bt583.1 bt583.2.1 bt583.2.2).bind fun t591 => ((laws_eqInt64S.f k t591 t580).bind fun t594 => (if t594 = true then ((laws_toFunc.f k l0_0 a0_1 l0_2).bind fun bt595 => ((laws_eqFunc.f k bt583.1 bt583.2.1 bt583.2.2 bt595.1 bt595.2.1 bt595.2.2).bind fun t602 => (if t602 = true then ((laws_markFunc.f bt583.1 bt583.2.1 bt583.2.2 1).bind fun t603 => (if t603 < 0 then (laws_FnExactReached.j0 k t580 t591 true l0_0 a0_1 l0_2) else ((laws_eqInt64S.f k t591 t580).bind fun t604 => (laws_FnExactReached.j0 k t580 t591 (!t604) l0_0 a0_1 l0_2)))) else (some false)))) else (some false)))))) = some r := H
  have A7 := Aside0.mk A70
  clear A70
  replace H := Option.bind_eq_some_iff.mp H
  obtain ⟨t580, A80, H⟩ := H
  replace H : ((laws_toFunc.f k l0_0 a0_1 l0_2).bind fun bt583 => ((impl_Reached.f k bt583.1 bt583.2.1 bt583.2.2).bind fun t591 => ((laws_eqInt64S.f k t591 t580).bind fun t594 => (if t594 = true then ((laws_toFunc.f k l0_0 a0_1 l0_2).bind fun bt595 => ((laws_eqFunc.f k bt583.1 bt583.2.1 bt583.2.2 bt595.1 bt595.2.1 bt595.2.2).bind fun t602 => (if t602 = true then ((laws_markFunc.f bt583.1 bt583.2.1 bt583.2.2 1).bind fun t603 => (if t603 < 0 then (laws_FnExactReached.j0 k t580 t591 true l0_0 a0_1 l0_2) else ((laws_eqInt64S.f k t591 t580).bind fun t604 => (laws_FnExactReached.j0 k t580 t591 (!t604) l0_0 a0_1 l0_2)))) else (some false)))) else (some false))))) = some r := H
  have A8 := Aside0.mk A80
  clear A80
  replace H := Option.bind_eq_some_iff.mp H
  obtain ⟨⟨t583, t586, t587⟩, A90, H⟩ := H
  replace H : ((impl_Reached.f k t583 t586 t587).bind fun t591 => ((laws_eqInt64S.f k t591 t580).bind fun t594 => (if t594 = true then ((laws_toFunc.f k l0_0 a0_1 l0_2).bind fun bt595 => ((laws_eqFunc.f k t583 t586 t587 bt595.1 bt595.2.1 bt595.2.2).bind fun t602 => (if t602 = true then ((laws_markFunc.f t583 t586 t587 1).bind fun t603 => (if t603 < 0 then (laws_FnExactReached.j0 k t580 t591 true l0_0 a0_1 l0_2) else ((laws_eqInt64S.f k t591 t580).bind fun t604 => (laws_FnExactReached.j0 k t580 t591 (!t604) l0_0 a0_1 l0_2)))) else (some false)))) else (some false)))) = some r := H
  have A9 := Aside0.mk A90
  clear A90
  replace H := Option.bind_eq_some_iff.mp H
  obtain ⟨t591, A100, H⟩ := H
  replace H : ((laws_eqInt64S.f k t591 t580).bind fun t594 => (if t594 = true then ((laws_toFunc.f k l0_0 a0_1 l0_2).bind fun bt595 => ((laws_eqFunc.f k t583 t586 t587 bt595.1 bt595.2.1 bt595.2.2).bind fun t602 => (if t602 = true then ((laws_markFunc.f t583 t586 t587 1).bind fun t603 => (if t603 < 0 then (laws_FnExactReached.j0 k t580 t591 true l0_0 a0_1 l0_2) else ((laws_eqInt64S.f k t591 t580).bind fun t604 => (laws_FnExactReached.j0 k t580 t591 (!t604) l0_0 a0_1 l0_2)))) else (some false)))) else (some false))) = some r := H
  have A10 := Aside0.mk A100
  clear A100
  replace H := Option.bind_eq_some_iff.mp H
  obtain ⟨t594, A110, H⟩ := H
  replace H : (if t594 = true then ((laws_toFunc.f k l0_0 a0_1 l0_2).bind fun bt595 => ((laws_eqFunc.f k t583 t586 t587 bt595.1 bt595.2.1 bt595.2.2).bind fun t602 => (if t602 = true then ((laws_markFunc.f t583 t586 t587 1).bind fun t603 => (if t603 < 0 then (laws_FnExactReached.j0 k t580 t591 true l0_0 a0_1 l0_2) else ((laws_eqInt64S.f k t591 t580).bind fun t604 => (laws_FnExactReached.j0 k t580 t591 (!t604) l0_0 a0_1 l0_2)))) else (some false)))) else (some false)) = some r := H
  have A11 := Aside0.mk A110
  clear A110
  by_cases c12 : t594 = true
  ·subst c12
   have H1 := (if_pos rfl).symm.trans H
   clear H
   have H := H1
   clear H1
   replace H := Option.bind_eq_some_iff.mp H
   obtain ⟨⟨t595, t598, t599⟩, A130, H⟩ := H
   replace H : ((laws_eqFunc.f k t583 t586 t587 t595 t598 t599).bind fun t602 => (if t602 = true then ((laws_markFunc.f t583 t586 t587 1).bind fun t603 => (if t603 < 0 then (laws_FnExactReached.j0 k t580 t591 true l0_0 a0_1 l0_2) else ((laws_eqInt64S.f k t591 t580).bind fun t604 => (laws_FnExactReached.j0 k t580 t591 (!t604) l0_0 a0_1 l0_2)))) else (some false))) = some r := H
   have A13 := Aside0.mk A130
   clear A130
   replace H := Option.bind_eq_some_iff.mp H
   obtain ⟨t602, A140, H⟩ := H
   replace H : (if t602 = true then ((laws_markFunc.f t583 t586 t587 1).bind fun t603 => (if t603 < 0 then (laws_FnExactReached.j0 k t580 t591 true l0_0 a0_1 l0_2) else ((laws_eqInt64S.f k t591 t580).bind fun t604 => (laws_FnExactReached.j0 k t580 t591 (!t604) l0_0 a0_1 l0_2)))) else (some false)) = some r := H
   have A14 := Aside0.mk A140
   clear A140
   by_cases c15 : t602 = true
   ·subst c15
    have H1 := (if_pos rfl).symm.trans H
    clear H
    have H := H1
    clear H1
    replace H := Option.bind_eq_some_iff.mp H
    obtain ⟨t603, A160, H⟩ := H
    replace H : (if t603 < 0 then (laws_FnExactReached.j0 k t580 t591 true l0_0 a0_1 l0_2) else ((laws_eqInt64S.f k t591 t580).bind fun t604 => (laws_FnExactReached.j0 k t580 t591 (!t604) l0_0 a0_1 l0_2))) = some r := H
    have A16 := Aside0.mk A160
    clear A160
    have HC17 := Aside0.mk H
    clear H
    go_enter Try.func5, Try.ntmps5
    try go_wp2_with (first | ((with_reducible refine gate_dst (N := 1) rfl ?_); refine box_event ?hg (N := 1) ?hd (cs := #[.slice A0_0 l0_0.length c0_0, .int .i64 a0_1, .slice A0_2 l0_2.length c0_2]) (t := 25) ?hr ?_; (case hd => rfl); (case hg => rfl); (case hr => first | (go_simp; done) | (go_simp; rfl)); intro gb571 hg w18 hbox hb; have n0_ := Aside0.mk (below_step hB_ hb); have n1_ := Aside0.mk (hbox); have n2_ := Aside0.mk ((by rw [hg]; exact (below_size hB_) : w.heap.size ≤ gb571)); have n3_ := Aside0.mk ((by rw [hg]; exact (below_size hB_) : w.heap.size ≤ gb571)); clear HB; have HB := n0_; have BK571 := n1_; have GW571 := n2_; have GE571 := n3_; clear n0_ n1_ n2_ n3_; clear hb hbox hg; obtain ⟨hcz19_0, hcz19_1, hcz19_2, hfz19_0, hfz19_1, hfz19_2⟩ := blkc3_ BK571.out) | ((with_reducible refine gate_callee (f := 7) rfl ?_); refine gL_ (some 13) Try.func7 #[.agg #[.slice A0_0 l0_0.length c0_0, .int .i64 a0_1, .slice A0_2 l0_2.length c0_2], .int .i64 1048576] ?_; (with_reducible refine (laws_szFunc.calls k _ _ l0_0 a0_1 _ _ l0_2 1048576 t572 _ ?side1 ?side2 ?side3 ?side4 A2.out).mono ?_); (case side1 => repeat (first | exact (Kd.C_below HR0_0.out HB.out) | (with_reducible refine Kd.C_alloc ?_ _) | (with_reducible refine Kd.C_drewN ?_ _) | (with_reducible refine Kd.C_drew ?_))); (case side2 => exact HC0_0.out); (case side3 => repeat (first | exact (Kd.C_below HR0_2.out HB.out) | (with_reducible refine Kd.C_alloc ?_ _) | (with_reducible refine Kd.C_drewN ?_ _) | (with_reducible refine Kd.C_drew ?_))); (case side4 => exact HC0_2.out); rintro e w20 ⟨rfl, hb⟩; refine ⟨_, rfl, ?_⟩; have n0_ := Aside0.mk (blk_below (g := gb571) (o := .cells #[.slice A0_0 l0_0.length c0_0, .int .i64 a0_1, .slice A0_2 l0_2.length c0_2] 25 (0, 0)) bK571_ hb); have n1_ := Aside0.mk (below_step hS_ hb); clear BK571; clear HB; have BK571 := n0_; have HB := n1_; clear n0_ n1_; (try clear hb); (try clear hb2); (try clear hk); (try clear hi); obtain ⟨hcz21_0, hcz21_1, hcz21_2, hfz21_0, hfz21_1, hfz21_2⟩ := blkc3_ BK571.out) | ((with_reducible refine gate_callee (f := 9) rfl ?_); refine gL_ (some 17) Try.func9 #[.agg #[.slice A0_0 l0_0.length c0_0, .int .i64 a0_1, .slice A0_2 l0_2.length c0_2]] ?_; (with_reducible refine (laws_toFunc.calls k _ _ l0_0 a0_1 _ _ l0_2 t573 t576 t577 _ ?side1 ?side2 ?side3 ?side4 A7.out).mono ?_); (case side1 => repeat (first | exact (Kd.C_below HR0_0.out HB.out) | (with_reducible refine Kd.C_alloc ?_ _) | (with_reducible refine Kd.C_drewN ?_ _) | (with_reducible refine Kd.C_drew ?_))); (case side2 => exact HC0_0.out); (case side3 => repeat (first | exact (Kd.C_below HR0_2.out HB.out) | (with_reducible refine Kd.C_alloc ?_ _) | (with_reducible refine Kd.C_drewN ?_ _) | (with_reducible refine Kd.C_drew ?_))); (case side4 => exact HC0_2.out); rintro e w22 ⟨v574, v578, rfl, ho0, ho1, hb⟩; refine ⟨_, rfl, ?_⟩; have n0_ := Aside0.mk (Kd.R_lower ho0 (below_size hS_)); have n1_ := Aside0.mk (Kd.R_lower ho1 (below_size hS_)); have n2_ := Aside0.mk (blk_below (g := gb571) (o := .cells #[.slice A0_0 l0_0.length c0_0, .int .i64 a0_1, .slice A0_2 l0_2.length c0_2] 25 (0, 0)) bK571_ hb); have n3_ := Aside0.mk (below_step hS_ hb); clear BK571; clear HB; have HO575 := n0_; have HO579 := n1_; have BK571 := n2_; have HB := n3_; clear n0_ n1_ n2_ n3_; (try clear hb); (try clear hb2); (try clear hk); (try clear hi); (try clear ho0); (try clear ho1); obtain ⟨Ao23, co23, eo23⟩ := Kd.R_slice HO575.out; subst eo23; obtain ⟨Ao24, co24, eo24⟩ := Kd.R_slice HO579.out; subst eo24) | ((with_reducible refine gate_callee (f := 18) rfl ?_); refine gL_ (some 18) Try.func18 #[.agg #[.slice Ao23 t573.length co23, .int .i64 t576, .slice Ao24 t577.length co24]] ?_; (with_reducible refine (spec_Reached.calls k _ _ t573 t576 _ _ t577 t580 _ ?side1 ?side2 ?side3 ?side4 A8.out).mono ?_); (case side1 => repeat (first | exact (Kd.R_reads' HO575.out).2.2 | (with_reducible refine Kd.C_alloc ?_ _) | (with_reducible refine Kd.C_drewN ?_ _) | (with_reducible refine Kd.C_drew ?_))); (case side2 => exact (Kd.R_reads' HO575.out).2.1); (case side3 => repeat (first | exact (Kd.R_reads' HO579.out).2.2 | (with_reducible refine Kd.C_alloc ?_ _) | (with_reducible refine Kd.C_drewN ?_ _) | (with_reducible refine Kd.C_drew ?_))); (case side4 => exact (Kd.R_reads' HO579.out).2.1); rintro e w25 ⟨v581, rfl, ho0, hb⟩; refine ⟨_, rfl, ?_⟩; have n0_ := Aside0.mk (Kd.R_elder' rHO575_ (Kd.R_base ho0) hb); have n1_ := Aside0.mk (Kd.R_elder' rHO579_ (Kd.R_base ho0) hb); have n2_ := Aside0.mk (Kd.R_lower (Kd.R_new' ho0 (Kd.R_lt rHO575_)) (below_size hS_)); have n3_ := Aside0.mk (blk_below (g := gb571) (o := .cells #[.slice A0_0 l0_0.length c0_0, .int .i64 a0_1, .slice A0_2 l0_2.length c0_2] 25 (0, 0)) bK571_ hb); have n4_ := Aside0.mk (below_step hS_ hb); clear HO575; clear HO579; clear BK571; clear HB; have HO575 := n0_; have HO579 := n1_; have HO582 := n2_; have BK571 := n3_; have HB := n4_; clear n0_ n1_ n2_ n3_ n4_; (try clear hb); (try clear hb2); (try clear hk); (try clear hi); (try clear ho0); obtain ⟨hcz26_0, hcz26_1, hcz26_2, hfz26_0, hfz26_1, hfz26_2⟩ := blkc3_ BK571.out) | ((with_reducible refine gate_callee (f := 9) rfl ?_); refine gL_ (some 20) Try.func9 #[.agg #[.slice A0_0 l0_0.length c0_0, .int .i64 a0_1, .slice A0_2 l0_2.length c0_2]] ?_; (with_reducible refine (laws_toFunc.calls k _ _ l0_0 a0_1 _ _ l0_2 t583 t586 t587 _ ?side1 ?side2 ?side3 ?side4 A9.out).mono ?_); (case side1 => repeat (first | exact (Kd.C_below HR0_0.out HB.out) | (with_reducible refine Kd.C_alloc ?_ _) | (with_reducible refine Kd.C_drewN ?_ _) | (with_reducible refine Kd.C_drew ?_))); (case side2 => exact HC0_0.out); (case side3 => repeat (first | exact (Kd.C_below HR0_2.out HB.out) | (with_reducible refine Kd.C_alloc ?_ _) | (with_reducible refine Kd.C_drewN ?_ _) | (with_reducible refine Kd.C_drew ?_))); (case side4 => exact HC0_2.out); rintro e w27 ⟨v584, v588, rfl, ho0, ho1, hb⟩; refine ⟨_, rfl, ?_⟩; have n0_ := Aside0.mk (Kd.R_elder' rHO575_ (Kd.R_base ho0) hb); have n1_ := Aside0.mk (Kd.R_mono (Kd.R_told (Kd.R_told (Kd.R_old rHO579_ hb) (Kd.R_base ho0)) (Kd.R_base ho1)) (fun _ h_ => h_.1)); have n2_ := Aside0.mk (Kd.R_elder' rHO582_ (Kd.R_base ho0) hb); have n3_ := Aside0.mk (Kd.R_lower (Kd.R_new' (Kd.R_new' ho0 (Kd.R_lt rHO575_)) (Kd.R_lt rHO582_)) (below_size hS_)); have n4_ := Aside0.mk (Kd.R_lower (Kd.R_new' (Kd.R_new' (Kd.R_new' ho1 (Kd.R_lt rHO575_)) (Kd.R_lt rHO579_)) (Kd.R_lt rHO582_)) (below_size hS_)); have n5_ := Aside0.mk (blk_below (g := gb571) (o := .cells #[.slice A0_0 l0_0.length c0_0, .int .i64 a0_1, .slice A0_2 l0_2.length c0_2] 25 (0, 0)) bK571_ hb); have n6_ := Aside0.mk (below_step hS_ hb); clear HO575; clear HO579; clear HO582; clear BK571; clear HB; have HO575 := n0_; have HO579 := n1_; have HO582 := n2_; have HO585 := n3_; have HO589 := n4_; have BK571 := n5_; have HB := n6_; clear n0_ n1_ n2_ n3_ n4_ n5_ n6_; (try clear hb); (try clear hb2); (try clear hk); (try clear hi); (try clear ho0); (try clear ho1)) | ((with_reducible refine gate_dst (N := 5) rfl ?_); refine box_event ?hg (N := 5) ?hd (cs := #[.slice none 0 0, .int .i64 0, .slice none 0 0]) (t := 30) ?hr ?_; (case hd => rfl); (case hg => rfl); (case hr => first | (go_simp; done) | (go_simp; rfl)); intro gb590 hg w28 hbox hb; have n0_ := Aside0.mk (Kd.R_below rHO575_ hb); have n1_ := Aside0.mk (Kd.R_below rHO579_ hb); have n2_ := Aside0.mk (Kd.R_below rHO582_ hb); have n3_ := Aside0.mk (Kd.R_below rHO585_ hb); have n4_ := Aside0.mk (Kd.R_below rHO589_ hb); have n5_ := Aside0.mk (blk_below (g := gb571) (o := .cells #[.slice A0_0 l0_0.length c0_0, .int .i64 a0_1, .slice A0_2 l0_2.length c0_2] 25 (0, 0)) bK571_ hb); have n6_ := Aside0.mk (below_step hS_ hb); have n7_ := Aside0.mk (hbox); have n8_ := Aside0.mk ((by rw [hg]; exact (below_size hS_) : w.heap.size ≤ gb590)); have n9_ := Aside0.mk ((by rw [hg]; exact (below_size hS_) : w.heap.size ≤ gb590)); have n10_ := Aside0.mk ((by rw [hg]; exact Nat.ne_of_lt (blk_lt (g := gb571) (o := .cells #[.slice A0_0 l0_0.length c0_0, .int .i64 a0_1, .slice A0_2 l0_2.length c0_2] 25 (0, 0)) bK571_) : gb571 ≠ gb590)); have n11_ := Aside0.mk ((by rw [hg]; exact Nat.ne_of_gt (blk_lt (g := gb571) (o := .cells #[.slice A0_0 l0_0.length c0_0, .int .i64 a0_1, .slice A0_2 l0_2.length c0_2] 25 (0, 0)) bK571_) : gb590 ≠ gb571)); clear HO575; clear HO579; clear HO582; clear HO585; clear HO589; clear BK571; clear HB; have HO575 := n0_; have HO579 := n1_; have HO582 := n2_; have HO585 := n3_; have HO589 := n4_; have BK571 := n5_; have HB := n6_; have BK590 := n7_; have GW590 := n8_; have GE590 := n9_; have NB571_590 := n10_; have NB590_571 := n11_; clear n0_ n1_ n2_ n3_ n4_ n5_ n6_ n7_ n8_ n9_ n10_ n11_; clear hb hbox hg; obtain ⟨Ao29, co29, eo29⟩ := Kd.R_slice HO585.out; subst eo29; have hnb30 := NB590_571.out; have hnc30 := NB571_590.out; obtain ⟨hcz31_0, hcz31_1, hcz31_2, hfz31_0, hfz31_1, hfz31_2⟩ := blkc3_ BK590.out; obtain ⟨Ao32, co32, eo32⟩ := Kd.R_slice HO589.out; subst eo32) | ((with_reducible refine gate_callee (f := 19) rfl ?_); refine gL_ (some 22) Try.func19 #[.agg #[.slice Ao29 t583.length co29, .int .i64 t586, .slice Ao32 t587.length co32]] ?_; (with_reducible refine (impl_Reached.calls k _ _ t583 t586 _ _ t587 t591 _ ?side1 ?side2 ?side3 ?side4 A10.out).mono ?_); (case side1 => refine (Kd.R_reads' (e := 2) (base := w.heap.size) (ok := fun k_ => ((True ∧ some k_ ≠ (.slice Ao23 t573.length co23 : Value).ownBlock) ∧ some k_ ≠ (v581 : Value).ownBlock)) (n := t583.length) (c := co29) ?_).2.2; exact (by (with_reducible repeat (first | apply Kd.R_alloc | apply Kd.R_drewN | apply Kd.R_drew)); exact (rf3_ HO585.out BK590.out (by decide) (.slice Ao29 t583.length co29) (.int .i64 t586) (.slice Ao32 t587.length co32)))); (case side2 => exact (Kd.R_reads' HO585.out).2.1); (case side3 => refine (Kd.R_reads' (e := 80) (base := w.heap.size) (ok := fun k_ => (((some k_ ≠ (.slice Ao29 t583.length co29 : Value).ownBlock ∧ some k_ ≠ (.slice Ao23 t573.length co23 : Value).ownBlock) ∧ some k_ ≠ (.slice Ao24 t577.length co24 : Value).ownBlock) ∧ some k_ ≠ (v581 : Value).ownBlock)) (n := t587.length) (c := co32) ?_).2.2; exact (by (with_reducible repeat (first | apply Kd.R_alloc | apply Kd.R_drewN | apply Kd.R_drew)); exact (rf3_ HO589.out BK590.out (by decide) (.slice Ao29 t583.length co29) (.int .i64 t586) (.slice Ao32 t587.length co32)))); (case side4 => exact (Kd.R_reads' HO589.out).2.1); rintro e w33 ⟨v592, rfl, ho0, hb⟩; refine ⟨_, rfl, ?_⟩; have n0_ := Aside0.mk (Kd.R_elder' (by (with_reducible repeat (first | apply Kd.R_alloc | apply Kd.R_drewN | apply Kd.R_drew)); exact (rf3_ HO575.out BK590.out (by decide) (.slice Ao29 t583.length co29) (.int .i64 t586) (.slice Ao32 t587.length co32))) (Kd.R_base ho0) hb); have n1_ := Aside0.mk (Kd.R_elder' (by (with_reducible repeat (first | apply Kd.R_alloc | apply Kd.R_drewN | apply Kd.R_drew)); exact (rf3_ HO579.out BK590.out (by decide) (.slice Ao29 t583.length co29) (.int .i64 t586) (.slice Ao32 t587.length co32))) (Kd.R_base ho0) hb); have n2_ := Aside0.mk (Kd.R_elder' (by (with_reducible repeat (first | apply Kd.R_alloc | apply Kd.R_drewN | apply Kd.R_drew)); exact (rf3_ HO582.out BK590.out (by decide) (.slice Ao29 t583.length co29) (.int .i64 t586) (.slice Ao32 t587.length co32))) (Kd.R_base ho0) hb); have n3_ := Aside0.mk (Kd.R_elder' (by (with_reducible repeat (first | apply Kd.R_alloc | apply Kd.R_drewN | apply Kd.R_drew)); exact (rf3_ HO585.out BK590.out (by decide) (.slice Ao29 t583.length co29) (.int .i64 t586) (.slice Ao32 t587.length co32))) (Kd.R_base ho0) hb); have n4_ := Aside0.mk (Kd.R_elder' (by (with_reducible repeat (first | apply Kd.R_alloc | apply Kd.R_drewN | apply Kd.R_drew)); exact (rf3_ HO589.out BK590.out (by decide) (.slice Ao29 t583.length co29) (.int .i64 t586) (.slice Ao32 t587.length co32))) (Kd.R_base ho0) hb); have n5_ := Aside0.mk (Kd.R_lower (Kd.R_new' (Kd.R_new' (Kd.R_new' ho0 (Kd.R_lt (by (with_reducible repeat (first | apply Kd.R_alloc | apply Kd.R_drewN | apply Kd.R_drew)); exact (rf3_ HO575.out BK590.out (by decide) (.slice Ao29 t583.length co29) (.int .i64 t586) (.slice Ao32 t587.length co32))))) (Kd.R_lt (by (with_reducible repeat (first | apply Kd.R_alloc | apply Kd.R_drewN | apply Kd.R_drew)); exact (rf3_ HO582.out BK590.out (by decide) (.slice Ao29 t583.length co29) (.int .i64 t586) (.slice Ao32 t587.length co32))))) (Kd.R_lt (by (with_reducible repeat (first | apply Kd.R_alloc | apply Kd.R_drewN | apply Kd.R_drew)); exact (rf3_ HO585.out BK590.out (by decide) (.slice Ao29 t583.length co29) (.int .i64 t586) (.slice Ao32 t587.length co32))))) (below_size hS_)); have n6_ := Aside0.mk (blk_below (g := gb571) (o := .cells #[.slice A0_0 l0_0.length c0_0, .int .i64 a0_1, .slice A0_2 l0_2.length c0_2] 25 (0, 0)) fK571_ hb); have n7_ := Aside0.mk (blk_below (g := gb590) (o := .cells #[.slice Ao29 t583.length co29, .int .i64 t586, .slice Ao32 t587.length co32] 30 (0, 0)) (by (with_reducible repeat (first | refine blk_drewN ?_ _ | refine blk_drew ?_ | refine blk_alloc ?_ _)); refine blk_put (cs := #[.slice Ao29 t583.length co29, .int .i64 t586, .slice none 0 0]) ?_ 2 _ rfl; (with_reducible repeat (first | refine blk_drewN ?_ _ | refine blk_drew ?_ | refine blk_alloc ?_ _)); refine blk_put (cs := #[.slice Ao29 t583.length co29, .int .i64 0, .slice none 0 0]) ?_ 1 _ rfl; (with_reducible repeat (first | refine blk_drewN ?_ _ | refine blk_drew ?_ | refine blk_alloc ?_ _)); refine blk_put (cs := #[.slice none 0 0, .int .i64 0, .slice none 0 0]) ?_ 0 _ rfl; (with_reducible repeat (first | refine blk_drewN ?_ _ | refine blk_drew ?_ | refine blk_alloc ?_ _)); exact BK590.out) hb); have n8_ := Aside0.mk (below_step hS_ hb); clear HO575; clear HO579; clear HO582; clear HO585; clear HO589; clear BK571; clear BK590; clear HB; have HO575 := n0_; have HO579 := n1_; have HO582 := n2_; have HO585 := n3_; have HO589 := n4_; have HO593 := n5_; have BK571 := n6_; have BK590 := n7_; have HB := n8_; clear n0_ n1_ n2_ n3_ n4_ n5_ n6_ n7_ n8_; (try clear hb); (try clear hb2); (try clear hk); (try clear hi); (try clear ho0); obtain ⟨Ao34, co34, eo34⟩ := Kd.R_slice HO593.out; subst eo34; obtain ⟨Ao35, co35, eo35⟩ := Kd.R_slice HO582.out; subst eo35) | ((with_reducible refine gate_callee (f := 11) rfl ?_); refine gL_ (some 25) Try.func11 #[.slice Ao34 t591.length co34, .slice Ao35 t580.length co35] ?_; (with_reducible refine (laws_eqInt64S.calls k _ _ t591 _ _ t580 true _ ?side1 ?side2 ?side3 ?side4 A11.out).mono ?_); (case side1 => repeat (first | exact (Kd.R_reads' HO593.out).2.2 | (with_reducible refine Kd.C_alloc ?_ _) | (with_reducible refine Kd.C_drewN ?_ _) | (with_reducible refine Kd.C_drew ?_))); (case side2 => exact (Kd.R_reads' HO593.out).2.1); (case side3 => repeat (first | exact (Kd.R_reads' HO582.out).2.2 | (with_reducible refine Kd.C_alloc ?_ _) | (with_reducible refine Kd.C_drewN ?_ _) | (with_reducible refine Kd.C_drew ?_))); (case side4 => exact (Kd.R_reads' HO582.out).2.1); rintro e w' ⟨rfl, ⟨nd, rfl⟩⟩; refine ⟨_, rfl, ?_⟩))
    (try (rw [drewN_self w33]; generalize hq_ : World.drewN w33 _ = w33; have n0_ : Aside0 (Kd.R (Kd.int .i64) 2 w33 w.heap.size (fun k_ => some k_ ≠ (.slice Ao35 t580.length co35 : Value).ownBlock ∧ some k_ ≠ (.slice Ao29 t583.length co29 : Value).ownBlock ∧ some k_ ≠ (.slice Ao34 t591.length co34 : Value).ownBlock) (.slice Ao23 t573.length co23) t573) := ⟨by rw [← hq_]; exact (by (with_reducible repeat (first | apply Kd.R_alloc | apply Kd.R_drewN | apply Kd.R_drew)); exact Kd.R_mono HO575.out (fun _ hk => ⟨hk.1.1.2, ⟨hk.1.2, hk.2⟩⟩))⟩; have n1_ : Aside0 (Kd.R k80 80 w33 w.heap.size (fun k_ => some k_ ≠ (.slice Ao23 t573.length co23 : Value).ownBlock ∧ some k_ ≠ (.slice Ao35 t580.length co35 : Value).ownBlock ∧ some k_ ≠ (.slice Ao29 t583.length co29 : Value).ownBlock ∧ some k_ ≠ (.slice Ao32 t587.length co32 : Value).ownBlock ∧ some k_ ≠ (.slice Ao34 t591.length co34 : Value).ownBlock) (.slice Ao24 t577.length co24) t577) := ⟨by rw [← hq_]; exact (by (with_reducible repeat (first | apply Kd.R_alloc | apply Kd.R_drewN | apply Kd.R_drew)); exact Kd.R_mono HO579.out (fun _ hk => ⟨hk.1.1.1.1, ⟨hk.1.1.1.2, ⟨hk.1.1.2, ⟨hk.1.2, hk.2⟩⟩⟩⟩))⟩; have n2_ : Aside0 (Kd.R (Kd.int .i64) 2 w33 w.heap.size (fun k_ => some k_ ≠ (.slice Ao23 t573.length co23 : Value).ownBlock ∧ some k_ ≠ (.slice Ao29 t583.length co29 : Value).ownBlock ∧ some k_ ≠ (.slice Ao34 t591.length co34 : Value).ownBlock) (.slice Ao35 t580.length co35) t580) := ⟨by rw [← hq_]; exact (by (with_reducible repeat (first | apply Kd.R_alloc | apply Kd.R_drewN | apply Kd.R_drew)); exact Kd.R_mono HO582.out (fun _ hk => ⟨hk.1.1.2, ⟨hk.1.2, hk.2⟩⟩))⟩; have n3_ : Aside0 (Kd.R (Kd.int .i64) 2 w33 w.heap.size (fun k_ => some k_ ≠ (.slice Ao23 t573.length co23 : Value).ownBlock ∧ some k_ ≠ (.slice Ao35 t580.length co35 : Value).ownBlock ∧ some k_ ≠ (.slice Ao34 t591.length co34 : Value).ownBlock) (.slice Ao29 t583.length co29) t583) := ⟨by rw [← hq_]; exact (by (with_reducible repeat (first | apply Kd.R_alloc | apply Kd.R_drewN | apply Kd.R_drew)); exact Kd.R_mono HO585.out (fun _ hk => ⟨hk.1.1.2, ⟨hk.1.2, hk.2⟩⟩))⟩; have n4_ : Aside0 (Kd.R k80 80 w33 w.heap.size (fun k_ => some k_ ≠ (.slice Ao23 t573.length co23 : Value).ownBlock ∧ some k_ ≠ (.slice Ao24 t577.length co24 : Value).ownBlock ∧ some k_ ≠ (.slice Ao35 t580.length co35 : Value).ownBlock ∧ some k_ ≠ (.slice Ao29 t583.length co29 : Value).ownBlock ∧ some k_ ≠ (.slice Ao34 t591.length co34 : Value).ownBlock) (.slice Ao32 t587.length co32) t587) := ⟨by rw [← hq_]; exact (by (with_reducible repeat (first | apply Kd.R_alloc | apply Kd.R_drewN | apply Kd.R_drew)); exact Kd.R_mono HO589.out (fun _ hk => ⟨hk.1.1.1.2, ⟨hk.1.1.2, ⟨hk.1.2, ⟨hk.1.1.1.1, hk.2⟩⟩⟩⟩))⟩; have n5_ : Aside0 (Kd.R (Kd.int .i64) 2 w33 w.heap.size (fun k_ => some k_ ≠ (.slice Ao23 t573.length co23 : Value).ownBlock ∧ some k_ ≠ (.slice Ao35 t580.length co35 : Value).ownBlock ∧ some k_ ≠ (.slice Ao29 t583.length co29 : Value).ownBlock) (.slice Ao34 t591.length co34) t591) := ⟨by rw [← hq_]; exact (by (with_reducible repeat (first | apply Kd.R_alloc | apply Kd.R_drewN | apply Kd.R_drew)); exact Kd.R_mono HO593.out (fun _ hk => ⟨hk.1.1.2, ⟨hk.1.2, hk.2⟩⟩))⟩; have n6_ : Aside0 (w33.heap[gb571]? = some (.cells #[.slice A0_0 l0_0.length c0_0, .int .i64 a0_1, .slice A0_2 l0_2.length c0_2] 25 (0, 0))) := ⟨by rw [← hq_]; exact bK571_⟩; have n7_ : Aside0 (w33.heap[gb590]? = some (.cells #[.slice Ao29 t583.length co29, .int .i64 t586, .slice Ao32 t587.length co32] 30 (0, 0))) := ⟨by rw [← hq_]; exact bK590_⟩; have n8_ : Aside0 (Below w.heap.size w w33) := ⟨by rw [← hq_]; exact hS_⟩; clear HO575 HO579 HO582 HO585 HO589 HO593 BK571 BK590 HB hq_; have HO575 := n0_; have HO579 := n1_; have HO582 := n2_; have HO585 := n3_; have HO589 := n4_; have HO593 := n5_; have BK571 := n6_; have BK590 := n7_; have HB := n8_; clear n0_ n1_ n2_ n3_ n4_ n5_ n6_ n7_ n8_))
    have n0_ := Aside0.mk (Kd.R_drew HO575.out)
    have n1_ := Aside0.mk (Kd.R_drew HO579.out)
    have n2_ := Aside0.mk (Kd.R_drew HO582.out)
    have n3_ := Aside0.mk (Kd.R_drew HO585.out)
    have n4_ := Aside0.mk (Kd.R_drew HO589.out)
    have n5_ := Aside0.mk (Kd.R_drew HO593.out)
    have n6_ := Aside0.mk (blk_drew BK571.out)
    have n7_ := Aside0.mk (blk_drew BK590.out)
    have n8_ := Aside0.mk (below_drew1 HB.out)
    clear HO575
    clear HO579
    clear HO582
    clear HO585
    clear HO589
    clear HO593
    clear BK571
    clear BK590
    clear HB
    have HO575 := n0_
    have HO579 := n1_
    have HO582 := n2_
    have HO585 := n3_
    have HO589 := n4_
    have HO593 := n5_
    have BK571 := n6_
    have BK590 := n7_
    have HB := n8_
    clear n0_ n1_ n2_ n3_ n4_ n5_ n6_ n7_ n8_
    refine start_ (n := 5) (S := fun w' => w'.cell? ⟨gb590, 0, none⟩ = some (.slice Ao29 t583.length co29) ∧ w'.cell? ⟨gb590, 1, none⟩ = some (.int .i64 t586) ∧ w'.cell? ⟨gb590, 2, none⟩ = some (.slice Ao32 t587.length co32) ∧ w'.cell? ⟨gb571, 0, none⟩ = some (.slice A0_0 l0_0.length c0_0) ∧ w'.cell? ⟨gb571, 1, none⟩ = some (.int .i64 a0_1) ∧ w'.cell? ⟨gb571, 2, none⟩ = some (.slice A0_2 l0_2.length c0_2)) (ds := []) #[false, false, false, false, false] (by kernel_rfl) rfl rfl ⟨(blk_cell BK590.out 0).trans rfl, (blk_cell BK590.out 1).trans rfl, (blk_cell BK590.out 2).trans rfl, (blk_cell BK571.out 0).trans rfl, (blk_cell BK571.out 1).trans rfl, (blk_cell BK571.out 2).trans rfl⟩ (fun hHeld => ?_)
    generalize w33.drew = w36 at HO575 HO579 HO582 HO585 HO589 HO593 BK571 BK590 HB hHeld ⊢
    refine take_ (i := 0) (N := some 27) (v := ?_) (a' := ?_) #[true, false, false, false, false] rfl rfl (by kernel_rfl) (fun _ _ _ h => h) (Or.inl ⟨by rfl, ?_⟩) hHeld ?_ ?_
    rotate_left
    ·rintro w' ⟨s0, s1, s2, s3, s4, s5⟩
     go_simp
     with_reducible rfl
    rotate_left
    ·simp only [Act.put, List.setIfInBounds_toArray, List.set_cons_zero, List.set_cons_succ, i64_w, i32_w]
     rfl
    refine take_ (i := 1) (N := some 28) (v := ?_) (a' := ?_) #[true, true, false, false, false] rfl rfl (by kernel_rfl) (fun _ _ _ h => h) (Or.inl ⟨by rfl, ?_⟩) hHeld ?_ ?_
    rotate_left
    ·rintro w' ⟨s0, s1, s2, s3, s4, s5⟩
     go_simp
     with_reducible rfl
    rotate_left
    ·simp only [Act.put, List.setIfInBounds_toArray, List.set_cons_zero, List.set_cons_succ, i64_w, i32_w]
     rfl
    refine one_ (i := 2) (N := some 29) #[true, true, true, false, false] rfl rfl (by kernel_rfl) (by decide) (fun K hK => ?_)
    refine goes_ Try.func9 (by kernel_rfl) rfl #[.agg #[.slice A0_0 l0_0.length c0_0, .int .i64 a0_1, .slice A0_2 l0_2.length c0_2]] (by rfl) rfl rfl (by (try simp only [List.map_toArray, List.map_cons, List.map_nil]); first | done | rfl | (simp only [List.length_drop, List.length_take]; rfl)) ?_
    with_reducible refine (laws_toFunc.calls k _ _ l0_0 a0_1 _ _ l0_2 t595 t598 t599 _ ?side1 ?side2 ?side3 ?side4 A13.out).mono ?_
    (case side1 => repeat (first | exact (Kd.C_below HR0_0.out HB.out) | (with_reducible refine Kd.C_alloc ?_ _) | (with_reducible refine Kd.C_drewN ?_ _) | (with_reducible refine Kd.C_drew ?_)))
    (case side2 => exact HC0_0.out)
    (case side3 => repeat (first | exact (Kd.C_below HR0_2.out HB.out) | (with_reducible refine Kd.C_alloc ?_ _) | (with_reducible refine Kd.C_drewN ?_ _) | (with_reducible refine Kd.C_drew ?_)))
    (case side4 => exact HC0_2.out)
    rintro e w37 ⟨v596, v600, rfl, ho0, ho1, hb⟩
    refine ⟨_, rfl, ?_⟩
    have n0_ := Aside0.mk (Kd.R_elder' rHO575_ (Kd.R_base ho0) hb)
    have n1_ := Aside0.mk (Kd.R_mono (Kd.R_told (Kd.R_told (Kd.R_old rHO579_ hb) (Kd.R_base ho0)) (Kd.R_base ho1)) (fun _ h_ => h_.1))
    have n2_ := Aside0.mk (Kd.R_elder' rHO582_ (Kd.R_base ho0) hb)
    have n3_ := Aside0.mk (Kd.R_elder' rHO585_ (Kd.R_base ho0) hb)
    have n4_ := Aside0.mk (Kd.R_mono (Kd.R_told (Kd.R_told (Kd.R_old rHO589_ hb) (Kd.R_base ho0)) (Kd.R_base ho1)) (fun _ h_ => h_.1))
    have n5_ := Aside0.mk (Kd.R_elder' rHO593_ (Kd.R_base ho0) hb)
    have n6_ := Aside0.mk (Kd.R_lower (Kd.R_new' (Kd.R_new' (Kd.R_new' (Kd.R_new' ho0 (Kd.R_lt rHO575_)) (Kd.R_lt rHO582_)) (Kd.R_lt rHO585_)) (Kd.R_lt rHO593_)) (below_size hS_))
    have n7_ := Aside0.mk (Kd.R_lower (Kd.R_new' (Kd.R_new' (Kd.R_new' (Kd.R_new' (Kd.R_new' (Kd.R_new' ho1 (Kd.R_lt rHO575_)) (Kd.R_lt rHO579_)) (Kd.R_lt rHO582_)) (Kd.R_lt rHO585_)) (Kd.R_lt rHO589_)) (Kd.R_lt rHO593_)) (below_size hS_))
    have n8_ := Aside0.mk (blk_below (g := gb571) (o := .cells #[.slice A0_0 l0_0.length c0_0, .int .i64 a0_1, .slice A0_2 l0_2.length c0_2] 25 (0, 0)) bK571_ hb)
    have n9_ := Aside0.mk (blk_below (g := gb590) (o := .cells #[.slice Ao29 t583.length co29, .int .i64 t586, .slice Ao32 t587.length co32] 30 (0, 0)) bK590_ hb)
    have n10_ := Aside0.mk (below_step hS_ hb)
    clear HO575
    clear HO579
    clear HO582
    clear HO585
    clear HO589
    clear HO593
    clear BK571
    clear BK590
    clear HB
    have HO575 := n0_
    have HO579 := n1_
    have HO582 := n2_
    have HO585 := n3_
    have HO589 := n4_
    have HO593 := n5_
    have HO597 := n6_
    have HO601 := n7_
    have BK571 := n8_
    have BK590 := n9_
    have HB := n10_
    clear n0_ n1_ n2_ n3_ n4_ n5_ n6_ n7_ n8_ n9_ n10_
    (try clear hb)
    (try clear hb2)
    (try clear hk)
    (try clear hi)
    (try clear ho0)
    (try clear ho1)
    obtain ⟨Ao38, co38, eo38⟩ := Kd.R_slice HO597.out
    (first | subst eo38 | (injection eo38 with f1_ f2_ f3_; have f4_ := f1_.symm; have f5_ := f3_.symm; clear f1_ f2_ f3_; subst f4_; subst f5_))
    obtain ⟨Ao39, co39, eo39⟩ := Kd.R_slice HO601.out
    (first | subst eo39 | (injection eo39 with f1_ f2_ f3_; have f4_ := f1_.symm; have f5_ := f3_.symm; clear f1_ f2_ f3_; subst f4_; subst f5_))
    refine hK.out _ _ ⟨(blk_cell BK590.out 0).trans rfl, (blk_cell BK590.out 1).trans rfl, (blk_cell BK590.out 2).trans rfl, (blk_cell BK571.out 0).trans rfl, (blk_cell BK571.out 1).trans rfl, (blk_cell BK571.out 2).trans rfl⟩ (fun hHeld => ?_)
    clear hK K
    refine norm_ (a' := ?_) ?_ ?_
    rotate_left
    ·show Act.put _ (some 29) _ = _
     simp only [Act.put, List.setIfInBounds_toArray, List.set_cons_zero, List.set_cons_succ, i64_w, i32_w]
     rfl
    refine one_ (i := 3) (N := some 30) #[true, true, true, true, false] rfl rfl (by kernel_rfl) (by decide) (fun K hK => ?_)
    refine goes_ Try.func12 (by kernel_rfl) rfl #[.agg #[.slice Ao29 t583.length co29, .int .i64 t586, .slice Ao32 t587.length co32], .agg #[.slice Ao38 t595.length co38, .int .i64 t598, .slice Ao39 t599.length co39]] (by rfl) rfl rfl (by (try simp only [List.map_toArray, List.map_cons, List.map_nil]); first | done | rfl | (simp only [List.length_drop, List.length_take]; rfl)) ?_
    with_reducible refine (laws_eqFunc.calls k _ _ t583 t586 _ _ t587 _ _ t595 t598 _ _ t599 true _ ?side1 ?side2 ?side3 ?side4 ?side5 ?side6 ?side7 ?side8 A14.out).mono ?_
    (case side1 => repeat (first | exact (Kd.R_reads' HO585.out).2.2 | (with_reducible refine Kd.C_alloc ?_ _) | (with_reducible refine Kd.C_drewN ?_ _) | (with_reducible refine Kd.C_drew ?_)))
    (case side2 => exact (Kd.R_reads' HO585.out).2.1)
    (case side3 => repeat (first | exact (Kd.R_reads' HO589.out).2.2 | (with_reducible refine Kd.C_alloc ?_ _) | (with_reducible refine Kd.C_drewN ?_ _) | (with_reducible refine Kd.C_drew ?_)))
    (case side4 => exact (Kd.R_reads' HO589.out).2.1)
    (case side5 => repeat (first | exact (Kd.R_reads' HO597.out).2.2 | (with_reducible refine Kd.C_alloc ?_ _) | (with_reducible refine Kd.C_drewN ?_ _) | (with_reducible refine Kd.C_drew ?_)))
    (case side6 => exact (Kd.R_reads' HO597.out).2.1)
    (case side7 => repeat (first | exact (Kd.R_reads' HO601.out).2.2 | (with_reducible refine Kd.C_alloc ?_ _) | (with_reducible refine Kd.C_drewN ?_ _) | (with_reducible refine Kd.C_drew ?_)))
    (case side8 => exact (Kd.R_reads' HO601.out).2.1)
    rintro e w40 ⟨rfl, hb⟩
    refine ⟨_, rfl, ?_⟩
    have n0_ := Aside0.mk (Kd.R_below rHO575_ hb)
    have n1_ := Aside0.mk (Kd.R_below rHO579_ hb)
    have n2_ := Aside0.mk (Kd.R_below rHO582_ hb)
    have n3_ := Aside0.mk (Kd.R_below rHO585_ hb)
    have n4_ := Aside0.mk (Kd.R_below rHO589_ hb)
    have n5_ := Aside0.mk (Kd.R_below rHO593_ hb)
    have n6_ := Aside0.mk (Kd.R_below rHO597_ hb)
    have n7_ := Aside0.mk (Kd.R_below rHO601_ hb)
    have n8_ := Aside0.mk (blk_below (g := gb571) (o := .cells #[.slice A0_0 l0_0.length c0_0, .int .i64 a0_1, .slice A0_2 l0_2.length c0_2] 25 (0, 0)) bK571_ hb)
    have n9_ := Aside0.mk (blk_below (g := gb590) (o := .cells #[.slice Ao29 t583.length co29, .int .i64 t586, .slice Ao32 t587.length co32] 30 (0, 0)) bK590_ hb)
    have n10_ := Aside0.mk (below_step hS_ hb)
    clear HO575
    clear HO579
    clear HO582
    clear HO585
    clear HO589
    clear HO593
    clear HO597
    clear HO601
    clear BK571
    clear BK590
    clear HB
    have HO575 := n0_
    have HO579 := n1_
    have HO582 := n2_
    have HO585 := n3_
    have HO589 := n4_
    have HO593 := n5_
    have HO597 := n6_
    have HO601 := n7_
    have BK571 := n8_
    have BK590 := n9_
    have HB := n10_
    clear n0_ n1_ n2_ n3_ n4_ n5_ n6_ n7_ n8_ n9_ n10_
    (try clear hb)
    (try clear hb2)
    (try clear hk)
    (try clear hi)
    refine hK.out _ _ ⟨(blk_cell BK590.out 0).trans rfl, (blk_cell BK590.out 1).trans rfl, (blk_cell BK590.out 2).trans rfl, (blk_cell BK571.out 0).trans rfl, (blk_cell BK571.out 1).trans rfl, (blk_cell BK571.out 2).trans rfl⟩ (fun hHeld => ?_)
    clear hK K
    refine norm_ (a' := ?_) ?_ ?_
    rotate_left
    ·show Act.put _ (some 30) _ = _
     simp only [Act.put, List.setIfInBounds_toArray, List.set_cons_zero, List.set_cons_succ, i64_w, i32_w]
     rfl
    refine pure_ (i := 4) (N := some 31) (v := ?_) (a' := ?_) #[true, true, true, true, true] rfl rfl (by kernel_rfl) (fun _ _ _ h => h) (Or.inl ⟨by rfl, ?_⟩) ?_ ?_
    rotate_left
    ·intro w'
     go_simp
     with_reducible rfl
    rotate_left
    ·simp only [Act.put, List.setIfInBounds_toArray, List.set_cons_zero, List.set_cons_succ, i64_w, i32_w]
     rfl
    refine done_ (by kernel_rfl) ?_
    obtain ⟨hcz41_0, hcz41_1, hcz41_2, hfz41_0, hfz41_1, hfz41_2⟩ := blkc3_ BK590.out
    go_upto_region 14 with (first | ((with_reducible refine gate_callee (f := 13) rfl ?_); refine gL_ (some 34) Try.func13 #[.agg #[.slice Ao29 t583.length co29, .int .i64 t586, .slice Ao32 t587.length co32], .int .i64 1] ?_; (with_reducible refine (laws_markFunc.calls (fun k_ => some k_ = (.slice Ao29 t583.length co29 : Value).ownBlock) (.slice Ao29 t583.length co29) t583 t586 ?pp_ (.slice Ao32 t587.length co32) t587 1 t603 w _ ?side1 ?side2 ?side3 A16.out).mono ?_); (case side1 => repeat (first | (with_reducible first | exact HB.out | apply below_alloc | apply pw_below_drewN | apply below_drew1 | refine below_set ?_ GE571.out | refine below_set ?_ GE590.out) | exact HB.out)); (case side2 => exact Kd.R_tight rfl HO585.out); (case side3 => exact Kd.R_bound HO589.out); rintro e w42 ⟨rfl, hb, hkp⟩; refine ⟨_, rfl, ?_⟩; have n0_ := Aside0.mk (blk_kept bK571_ hkp (fun hs_ => Or.elim hs_ (fun e_ => (fun e_ => (Kd.R_ne HO585.out BK571.out (by decide)) e_) e_) (fun e_ => mk_box BK571.out e_ (by decide)))); have n1_ := Aside0.mk (Kd.R_mono (ok' := fun k_ => some k_ ≠ (.slice Ao35 t580.length co35 : Value).ownBlock ∧ some k_ ≠ (.slice Ao34 t591.length co34 : Value).ownBlock ∧ some k_ ≠ (.slice Ao38 t595.length co38 : Value).ownBlock) (mk_row HO575.out rfl hkp (fun k_ hf_ hs_ => Or.elim hs_ (fun e_ => by have a_ := HO575.out.1 k_ hf_.symm; have b_ := HO585.out.1 k_ e_.symm; first | (simp only [hf_, ne_eq, not_true_eq_false, and_false, false_and] at b_) | (simp only [e_, ne_eq, not_true_eq_false, and_false, false_and] at a_)) (fun e_ => by have b_ := e_.1; simp only [hf_, ne_eq, not_true_eq_false, and_false, false_and] at b_))) (fun k_ hk_ => ⟨pk_, pk_, pk_⟩)); have n3_ := Aside0.mk (Kd.R_mono (ok' := fun k_ => some k_ ≠ (.slice Ao23 t573.length co23 : Value).ownBlock ∧ some k_ ≠ (.slice Ao34 t591.length co34 : Value).ownBlock ∧ some k_ ≠ (.slice Ao38 t595.length co38 : Value).ownBlock) (mk_row HO582.out rfl hkp (fun k_ hf_ hs_ => Or.elim hs_ (fun e_ => by have a_ := HO582.out.1 k_ hf_.symm; have b_ := HO585.out.1 k_ e_.symm; first | (simp only [hf_, ne_eq, not_true_eq_false, and_false, false_and] at b_) | (simp only [e_, ne_eq, not_true_eq_false, and_false, false_and] at a_)) (fun e_ => by have b_ := e_.1; simp only [hf_, ne_eq, not_true_eq_false, and_false, false_and] at b_))) (fun k_ hk_ => ⟨pk_, pk_, pk_⟩)); have n4_ := Aside0.mk (blk_kept bK590_ hkp (fun hs_ => Or.elim hs_ (fun e_ => (fun e_ => (Kd.R_ne HO585.out BK590.out (by decide)) e_) e_) (fun e_ => mk_box BK590.out e_ (by decide)))); have n5_ := Aside0.mk (Kd.R_mono (ok' := fun k_ => some k_ ≠ (.slice Ao23 t573.length co23 : Value).ownBlock ∧ some k_ ≠ (.slice Ao35 t580.length co35 : Value).ownBlock ∧ some k_ ≠ (.slice Ao38 t595.length co38 : Value).ownBlock) (mk_row HO593.out rfl hkp (fun k_ hf_ hs_ => Or.elim hs_ (fun e_ => by have a_ := HO593.out.1 k_ hf_.symm; have b_ := HO585.out.1 k_ e_.symm; first | (simp only [hf_, ne_eq, not_true_eq_false, and_false, false_and] at b_) | (simp only [e_, ne_eq, not_true_eq_false, and_false, false_and] at a_)) (fun e_ => by have b_ := e_.1; simp only [hf_, ne_eq, not_true_eq_false, and_false, false_and] at b_))) (fun k_ hk_ => ⟨pk_, pk_, pk_⟩)); have n6_ := Aside0.mk (Kd.R_mono (ok' := fun k_ => some k_ ≠ (.slice Ao23 t573.length co23 : Value).ownBlock ∧ some k_ ≠ (.slice Ao35 t580.length co35 : Value).ownBlock ∧ some k_ ≠ (.slice Ao34 t591.length co34 : Value).ownBlock) (mk_row HO597.out rfl hkp (fun k_ hf_ hs_ => Or.elim hs_ (fun e_ => by have a_ := HO597.out.1 k_ hf_.symm; have b_ := HO585.out.1 k_ e_.symm; first | (simp only [hf_, ne_eq, not_true_eq_false, and_false, false_and] at b_) | (simp only [e_, ne_eq, not_true_eq_false, and_false, false_and] at a_)) (fun e_ => by have b_ := e_.1; simp only [hf_, ne_eq, not_true_eq_false, and_false, false_and] at b_))) (fun k_ hk_ => ⟨pk_, pk_, pk_⟩)); have n8_ := Aside0.mk (hb); clear BK571; clear HO575; clear HO579; clear HO582; clear BK590; clear HO593; clear HO597; clear HO601; clear HB; clear HO585; clear HO589; have BK571 := n0_; have HO575 := n1_; have HO582 := n3_; have BK590 := n4_; have HO593 := n5_; have HO597 := n6_; have HB := n8_; clear n0_ n1_ n3_ n4_ n5_ n6_ n8_; (try clear hb); (try clear hkp)))
    (try simp only [Act.put, List.setIfInBounds_toArray, List.set_cons_zero, List.set_cons_succ])
    go_cut [42] (fun v42 wc => ∃ (kq : Nat) (x42_16 : Bool), v42 = .bool x42_16 ∧ Aside0 (laws_FnExactReached.j0 kq t580 t591 x42_16 l0_0 a0_1 l0_2 = some r) ∧ Aside0 (kq ≤ k) ∧ Aside0 (Kd.R (Kd.int .i64) 2 wc w.heap.size (fun k_ => some k_ ≠ ((.slice Ao34 t591.length co34) : Value).ownBlock) (.slice Ao35 t580.length co35) t580) ∧ Aside0 (Kd.R (Kd.int .i64) 2 wc w.heap.size (fun k_ => some k_ ≠ ((.slice Ao35 t580.length co35) : Value).ownBlock) (.slice Ao34 t591.length co34) t591) ∧ Aside0 (wc.heap[gb571]? = some (.cells #[(.slice A0_0 l0_0.length c0_0), .int .i64 a0_1, (.slice A0_2 l0_2.length c0_2)] 25 (0, 0))) ∧ Aside0 (Below w.heap.size w wc))
    case first =>
     have H := HC17.out
     clear HC17
     by_cases c43 : t603 < 0
     ·rw [if_pos c43] at H
      have c43b0 : decide (t603 < 0) = true := decide_eq_true c43
      clear c43
      (first | rw [c43b0] | (simp only [i64_w, i32_w]; rw [c43b0]) | skip)
      have H' := Aside0.mk H
      clear H
      go_wp2
      go_meet
      case rel => exact ⟨_, (true), rF_, H', ⟨by first | omega | exact Nat.le_refl _⟩, ⟨by (with_reducible repeat (first | apply Kd.R_alloc | apply Kd.R_drewN | apply Kd.R_drew)); exact Kd.R_mono HO582.out (fun _ hk => hk.2.1)⟩, ⟨by (with_reducible repeat (first | apply Kd.R_alloc | apply Kd.R_drewN | apply Kd.R_drew)); exact Kd.R_mono HO593.out (fun _ hk => hk.2.1)⟩, ⟨bK571_⟩, ⟨hS_⟩⟩
     ·rw [if_neg c43] at H
      have c43b0 : decide (t603 < 0) = false := decide_eq_false c43
      clear c43
      (first | rw [c43b0] | (simp only [i64_w, i32_w]; rw [c43b0]) | skip)
      replace H := Option.bind_eq_some_iff.mp H
      obtain ⟨t604, A440, H⟩ := H
      replace H : (laws_FnExactReached.j0 k t580 t591 (!t604) l0_0 a0_1 l0_2) = some r := H
      have A44 := Aside0.mk A440
      clear A440
      have H' := Aside0.mk H
      clear H
      go_wp2_with (first | (go_at_call 11; (with_reducible refine (laws_eqInt64S.calls k _ _ t591 _ _ t580 t604 _ ?side1 ?side2 ?side3 ?side4 A44.out).mono ?_); (case side1 => repeat (first | exact (Kd.R_reads' HO593.out).2.2 | (with_reducible refine Kd.C_alloc ?_ _) | (with_reducible refine Kd.C_drewN ?_ _) | (with_reducible refine Kd.C_drew ?_))); (case side2 => exact (Kd.R_reads' HO593.out).2.1); (case side3 => repeat (first | exact (Kd.R_reads' HO582.out).2.2 | (with_reducible refine Kd.C_alloc ?_ _) | (with_reducible refine Kd.C_drewN ?_ _) | (with_reducible refine Kd.C_drew ?_))); (case side4 => exact (Kd.R_reads' HO582.out).2.1); rintro e w' ⟨rfl, ⟨nd, rfl⟩⟩))
      go_meet
      case rel => exact ⟨_, (!t604), rF_, H', ⟨by first | omega | exact Nat.le_refl _⟩, ⟨by (with_reducible repeat (first | apply Kd.R_alloc | apply Kd.R_drewN | apply Kd.R_drew)); exact Kd.R_mono HO582.out (fun _ hk => hk.2.1)⟩, ⟨by (with_reducible repeat (first | apply Kd.R_alloc | apply Kd.R_drewN | apply Kd.R_drew)); exact Kd.R_mono HO593.out (fun _ hk => hk.2.1)⟩, ⟨bK571_⟩, ⟨hS_⟩⟩
    case rest =>
     clear HC17
     try clear c1
     try clear p2
     try clear c3
     try clear c3b0
     try clear c4
     try clear c5
     try clear c7
     try clear c9
     try clear c11
     try clear c12
     try clear c13
     try clear c15
     try clear c18
     try clear c19
     try clear c30
     try clear c43
     try clear c43b0
     try clear hcz19_0 hcz19_1 hcz19_2 hfz19_0 hfz19_1 hfz19_2
     try clear hcz21_0 hcz21_1 hcz21_2 hfz21_0 hfz21_1 hfz21_2
     try clear hcz26_0 hcz26_1 hcz26_2 hfz26_0 hfz26_1 hfz26_2
     try clear hcz31_0 hcz31_1 hcz31_2 hfz31_0 hfz31_1 hfz31_2
     try clear hcz41_0 hcz41_1 hcz41_2 hfz41_0 hfz41_1 hfz41_2
     try clear hcz5_0 hcz5_1 hcz5_2 hfz5_0 hfz5_1 hfz5_2
     obtain ⟨kq, x42_16, rfl, HA, HJ16, HO_4, HO_6, BK571, HB⟩ := hcut
     cases kq with
     | zero => exact absurd HA.out (by simp [laws_FnExactReached.j0])
     | succ kj16 =>
      have H := HA.out
      clear HA
      simp only [laws_FnExactReached.j0] at H
      by_cases c45 : x42_16 = true
      ·subst c45
       have H1 := (if_pos rfl).symm.trans H
       clear H
       have H := H1
       clear H1
       obtain rfl := Option.some.inj H
       go_wp2
       go_ret
       exact ⟨rG_, hS_⟩
      ·replace c45 := Bool.eq_false_iff.mpr c45
       subst c45
       have H1 := (if_neg (show ¬ (false = true) by decide)).symm.trans H
       clear H
       have H := H1
       clear H1
       replace H := Option.bind_eq_some_iff.mp H
       obtain ⟨⟨t605, t606⟩, A460, H⟩ := H
       replace H : ((laws_heldInt64S.f kj16 t606 1).bind fun t607 => (if t607 < 0 then (some false) else (if t607 = t605 then ((laws_toFunc.f kj16 l0_0 a0_1 l0_2).bind fun bt608 => ((impl_Reached.f kj16 bt608.1 bt608.2.1 bt608.2.2).bind fun t615 => ((laws_eqInt64S.f kj16 t615 t580).bind fun t618 => (if t618 = true then ((laws_heldInt64S.f kj16 t606 1).bind fun t619 => (if t619 < 0 then (some false) else (if t619 = t605 then (some true) else (some false)))) else (some false))))) else (some false)))) = some r := H
       have A46 := Aside0.mk A460
       clear A460
       replace H := Option.bind_eq_some_iff.mp H
       obtain ⟨t607, A470, H⟩ := H
       replace H : (if t607 < 0 then (some false) else (if t607 = t605 then ((laws_toFunc.f kj16 l0_0 a0_1 l0_2).bind fun bt608 => ((impl_Reached.f kj16 bt608.1 bt608.2.1 bt608.2.2).bind fun t615 => ((laws_eqInt64S.f kj16 t615 t580).bind fun t618 => (if t618 = true then ((laws_heldInt64S.f kj16 t606 1).bind fun t619 => (if t619 < 0 then (some false) else (if t619 = t605 then (some true) else (some false)))) else (some false))))) else (some false))) = some r := H
       have A47 := Aside0.mk A470
       clear A470
       by_cases c48 : t607 < 0
       ·rw [if_pos c48] at H
        have c48b0 : decide (t607 < 0) = true := decide_eq_true c48
        clear c48
        obtain rfl := Option.some.inj H
        go_wp2_with (first | ((with_reducible refine gate_callee (f := 14) rfl ?_); refine gL_ (some 45) Try.func14 #[.slice Ao34 t591.length co34, .int .i64 1] ?_; (with_reducible refine (laws_markInt64S.calls kj16 (fun k_ => some k_ = (.slice Ao34 t591.length co34 : Value).ownBlock) (.slice Ao34 t591.length co34) t591 1 t605 t606 w _ ?side1 ?side2 A46.out).mono ?_); (case side1 => repeat (first | (with_reducible first | exact HB.out | apply below_alloc | apply pw_below_drewN | apply below_drew1 | refine below_set ?_ GE571.out) | exact HB.out)); (case side2 => exact Kd.R_tight rfl HO_6.out); rintro e w49 ⟨rfl, hy0, hb, hkp⟩; refine ⟨_, rfl, ?_⟩; have n0_ := Aside0.mk (Kd.R_mono (ok' := fun k_ => some k_ ≠ (.slice Ao34 t591.length co34 : Value).ownBlock) (Kd.R_keptB (HO_4.out) hkp (fun k_ hk_ hs_ => (hk_) hs_)) (fun k_ hk_ => hk_.1)); have n1_ := Aside0.mk (Kd.R_reok rfl hy0 (fun k_ e_ => HO_6.out.1 k_ e_)); have n2_ := Aside0.mk (blk_kept bK571_ hkp (fun hs_ => (fun e_ => (Kd.R_ne HO_6.out BK571.out (by decide)) e_) hs_)); have n3_ := Aside0.mk (hb); clear HO_4; clear HO_6; clear BK571; clear HB; have HO_4 := n0_; have HO_6 := n1_; have BK571 := n2_; have HB := n3_; clear n0_ n1_ n2_ n3_; (try clear hb); (try clear hkp); (try clear hy0)) | ((with_reducible refine gate_callee (f := 15) rfl ?_); refine goesL_ (some 48) rfl rfl Try.func15 (by kernel_rfl) rfl #[.slice Ao34 t606.length co34, .int .i64 1] rfl (by (try simp only [List.map_toArray, List.map_cons, List.map_nil]); first | done | (rw [show t606.length = t591.length from (Kd.R_reads' HO_6.out).1.symm] <;> rfl) | rfl | (simp only [List.length_drop, List.length_take]; rfl)) ?_; (with_reducible refine (laws_heldInt64S.calls kj16 _ _ t606 1 t607 _ ?side1 ?side2 A47.out).mono ?_); (case side1 => repeat (first | exact (Kd.R_reads' HO_6.out).2.2 | (with_reducible refine Kd.C_alloc ?_ _) | (with_reducible refine Kd.C_drewN ?_ _) | (with_reducible refine Kd.C_drew ?_))); (case side2 => rw [show t606.length = t591.length from (Kd.R_reads' HO_6.out).1.symm]; exact (Kd.R_reads' HO_6.out).2.1); rintro e w' ⟨rfl, ⟨nd, rfl⟩⟩; refine ⟨_, rfl, ?_⟩))
        go_ret
        exact ⟨rG_, hS_⟩
       ·rw [if_neg c48] at H
        have c48b0 : decide (t607 < 0) = false := decide_eq_false c48
        clear c48
        by_cases c50 : t607 = t605
        ·rw [if_pos c50] at H
         have c50b0 : (t607 == t605) = true := beq_iff_eq.mpr c50
         have c50b1 : (t607 != t605) = false := bne_eq_false_iff_eq.mpr c50
         clear c50
         replace H := Option.bind_eq_some_iff.mp H
         obtain ⟨⟨t608, t611, t612⟩, A510, H⟩ := H
         replace H : ((impl_Reached.f kj16 t608 t611 t612).bind fun t615 => ((laws_eqInt64S.f kj16 t615 t580).bind fun t618 => (if t618 = true then ((laws_heldInt64S.f kj16 t606 1).bind fun t619 => (if t619 < 0 then (some false) else (if t619 = t605 then (some true) else (some false)))) else (some false)))) = some r := H
         have A51 := Aside0.mk A510
         clear A510
         replace H := Option.bind_eq_some_iff.mp H
         obtain ⟨t615, A520, H⟩ := H
         replace H : ((laws_eqInt64S.f kj16 t615 t580).bind fun t618 => (if t618 = true then ((laws_heldInt64S.f kj16 t606 1).bind fun t619 => (if t619 < 0 then (some false) else (if t619 = t605 then (some true) else (some false)))) else (some false))) = some r := H
         have A52 := Aside0.mk A520
         clear A520
         replace H := Option.bind_eq_some_iff.mp H
         obtain ⟨t618, A530, H⟩ := H
         replace H : (if t618 = true then ((laws_heldInt64S.f kj16 t606 1).bind fun t619 => (if t619 < 0 then (some false) else (if t619 = t605 then (some true) else (some false)))) else (some false)) = some r := H
         have A53 := Aside0.mk A530
         clear A530
         by_cases c54 : t618 = true
         ·subst c54
          have H1 := (if_pos rfl).symm.trans H
          clear H
          have H := H1
          clear H1
          replace H := Option.bind_eq_some_iff.mp H
          obtain ⟨t619, A550, H⟩ := H
          replace H : (if t619 < 0 then (some false) else (if t619 = t605 then (some true) else (some false))) = some r := H
          have A55 := Aside0.mk A550
          clear A550
          by_cases c56 : t619 < 0
          ·rw [if_pos c56] at H
           have c56b0 : decide (t619 < 0) = true := decide_eq_true c56
           clear c56
           obtain rfl := Option.some.inj H
           go_wp2_with (first | ((with_reducible refine gate_callee (f := 14) rfl ?_); refine gL_ (some 45) Try.func14 #[.slice Ao34 t591.length co34, .int .i64 1] ?_; (with_reducible refine (laws_markInt64S.calls kj16 (fun k_ => some k_ = (.slice Ao34 t591.length co34 : Value).ownBlock) (.slice Ao34 t591.length co34) t591 1 t605 t606 w _ ?side1 ?side2 A46.out).mono ?_); (case side1 => repeat (first | (with_reducible first | exact HB.out | apply below_alloc | apply pw_below_drewN | apply below_drew1 | refine below_set ?_ GE571.out) | exact HB.out)); (case side2 => exact Kd.R_tight rfl HO_6.out); rintro e w57 ⟨rfl, hy0, hb, hkp⟩; refine ⟨_, rfl, ?_⟩; have n0_ := Aside0.mk (Kd.R_mono (ok' := fun k_ => some k_ ≠ (.slice Ao34 t591.length co34 : Value).ownBlock) (Kd.R_keptB (HO_4.out) hkp (fun k_ hk_ hs_ => (hk_) hs_)) (fun k_ hk_ => hk_.1)); have n1_ := Aside0.mk (Kd.R_reok rfl hy0 (fun k_ e_ => HO_6.out.1 k_ e_)); have n2_ := Aside0.mk (blk_kept bK571_ hkp (fun hs_ => (fun e_ => (Kd.R_ne HO_6.out BK571.out (by decide)) e_) hs_)); have n3_ := Aside0.mk (hb); clear HO_4; clear HO_6; clear BK571; clear HB; have HO_4 := n0_; have HO_6 := n1_; have BK571 := n2_; have HB := n3_; clear n0_ n1_ n2_ n3_; (try clear hb); (try clear hkp); (try clear hy0)) | ((with_reducible refine gate_callee (f := 15) rfl ?_); refine goesL_ (some 48) rfl rfl Try.func15 (by kernel_rfl) rfl #[.slice Ao34 t606.length co34, .int .i64 1] rfl (by (try simp only [List.map_toArray, List.map_cons, List.map_nil]); first | done | (rw [show t606.length = t591.length from (Kd.R_reads' HO_6.out).1.symm] <;> rfl) | rfl | (simp only [List.length_drop, List.length_take]; rfl)) ?_; (with_reducible refine (laws_heldInt64S.calls kj16 _ _ t606 1 t607 _ ?side1 ?side2 A47.out).mono ?_); (case side1 => repeat (first | exact (Kd.R_reads' HO_6.out).2.2 | (with_reducible refine Kd.C_alloc ?_ _) | (with_reducible refine Kd.C_drewN ?_ _) | (with_reducible refine Kd.C_drew ?_))); (case side2 => rw [show t606.length = t591.length from (Kd.R_reads' HO_6.out).1.symm]; exact (Kd.R_reads' HO_6.out).2.1); rintro e w' ⟨rfl, ⟨nd, rfl⟩⟩; refine ⟨_, rfl, ?_⟩; obtain ⟨hcz58_0, hcz58_1, hcz58_2, hfz58_0, hfz58_1, hfz58_2⟩ := blkc3_ BK571.out) | ((with_reducible refine gate_callee (f := 9) rfl ?_); refine gL_ (some 55) Try.func9 #[.agg #[.slice A0_0 l0_0.length c0_0, .int .i64 a0_1, .slice A0_2 l0_2.length c0_2]] ?_; (with_reducible refine (laws_toFunc.calls kj16 _ _ l0_0 a0_1 _ _ l0_2 t608 t611 t612 _ ?side1 ?side2 ?side3 ?side4 A51.out).mono ?_); (case side1 => repeat (first | exact (Kd.C_below HR0_0.out hS_) | (with_reducible refine Kd.C_alloc ?_ _) | (with_reducible refine Kd.C_drewN ?_ _) | (with_reducible refine Kd.C_drew ?_))); (case side2 => exact HC0_0.out); (case side3 => repeat (first | exact (Kd.C_below HR0_2.out hS_) | (with_reducible refine Kd.C_alloc ?_ _) | (with_reducible refine Kd.C_drewN ?_ _) | (with_reducible refine Kd.C_drew ?_))); (case side4 => exact HC0_2.out); rintro e w59 ⟨v609, v613, rfl, ho0, ho1, hb⟩; refine ⟨_, rfl, ?_⟩; have n0_ := Aside0.mk (Kd.R_elder' rHO_4_ (Kd.R_base ho0) hb); have n1_ := Aside0.mk (Kd.R_elder' rHO_6_ (Kd.R_base ho0) hb); have n2_ := Aside0.mk (Kd.R_lower (Kd.R_new' (Kd.R_new' ho0 (Kd.R_lt rHO_4_)) (Kd.R_lt rHO_6_)) (below_size hS_)); have n3_ := Aside0.mk (Kd.R_lower (Kd.R_new' (Kd.R_new' ho1 (Kd.R_lt rHO_4_)) (Kd.R_lt rHO_6_)) (below_size hS_)); have n4_ := Aside0.mk (blk_below (g := gb571) (o := .cells #[.slice A0_0 l0_0.length c0_0, .int .i64 a0_1, .slice A0_2 l0_2.length c0_2] 25 (0, 0)) bK571_ hb); have n5_ := Aside0.mk (below_step hS_ hb); clear HO_4; clear HO_6; clear BK571; clear HB; have HO_4 := n0_; have HO_6 := n1_; have HO610 := n2_; have HO614 := n3_; have BK571 := n4_; have HB := n5_; clear n0_ n1_ n2_ n3_ n4_ n5_; (try clear hb); (try clear hb2); (try clear hk); (try clear hi); (try clear ho0); (try clear ho1); obtain ⟨Ao60, co60, eo60⟩ := Kd.R_slice HO610.out; subst eo60; obtain ⟨Ao61, co61, eo61⟩ := Kd.R_slice HO614.out; subst eo61) | ((with_reducible refine gate_callee (f := 19) rfl ?_); refine gL_ (some 56) Try.func19 #[.agg #[.slice Ao60 t608.length co60, .int .i64 t611, .slice Ao61 t612.length co61]] ?_; (with_reducible refine (impl_Reached.calls kj16 _ _ t608 t611 _ _ t612 t615 _ ?side1 ?side2 ?side3 ?side4 A52.out).mono ?_); (case side1 => repeat (first | exact (Kd.R_reads' HO610.out).2.2 | (with_reducible refine Kd.C_alloc ?_ _) | (with_reducible refine Kd.C_drewN ?_ _) | (with_reducible refine Kd.C_drew ?_))); (case side2 => exact (Kd.R_reads' HO610.out).2.1); (case side3 => repeat (first | exact (Kd.R_reads' HO614.out).2.2 | (with_reducible refine Kd.C_alloc ?_ _) | (with_reducible refine Kd.C_drewN ?_ _) | (with_reducible refine Kd.C_drew ?_))); (case side4 => exact (Kd.R_reads' HO614.out).2.1); rintro e w62 ⟨v616, rfl, ho0, hb⟩; refine ⟨_, rfl, ?_⟩; have n0_ := Aside0.mk (Kd.R_elder' rHO_4_ (Kd.R_base ho0) hb); have n1_ := Aside0.mk (Kd.R_elder' rHO_6_ (Kd.R_base ho0) hb); have n2_ := Aside0.mk (Kd.R_elder' rHO610_ (Kd.R_base ho0) hb); have n3_ := Aside0.mk (Kd.R_elder' rHO614_ (Kd.R_base ho0) hb); have n4_ := Aside0.mk (Kd.R_lower (Kd.R_new' (Kd.R_new' (Kd.R_new' ho0 (Kd.R_lt rHO_4_)) (Kd.R_lt rHO_6_)) (Kd.R_lt rHO610_)) (below_size hS_)); have n5_ := Aside0.mk (blk_below (g := gb571) (o := .cells #[.slice A0_0 l0_0.length c0_0, .int .i64 a0_1, .slice A0_2 l0_2.length c0_2] 25 (0, 0)) bK571_ hb); have n6_ := Aside0.mk (below_step hS_ hb); clear HO_4; clear HO_6; clear HO610; clear HO614; clear BK571; clear HB; have HO_4 := n0_; have HO_6 := n1_; have HO610 := n2_; have HO614 := n3_; have HO617 := n4_; have BK571 := n5_; have HB := n6_; clear n0_ n1_ n2_ n3_ n4_ n5_ n6_; (try clear hb); (try clear hb2); (try clear hk); (try clear hi); (try clear ho0); obtain ⟨Ao63, co63, eo63⟩ := Kd.R_slice HO617.out; subst eo63) | ((with_reducible refine gate_callee (f := 11) rfl ?_); refine gL_ (some 59) Try.func11 #[.slice Ao63 t615.length co63, .slice Ao35 t580.length co35] ?_; (with_reducible refine (laws_eqInt64S.calls kj16 _ _ t615 _ _ t580 true _ ?side1 ?side2 ?side3 ?side4 A53.out).mono ?_); (case side1 => repeat (first | exact (Kd.R_reads' HO617.out).2.2 | (with_reducible refine Kd.C_alloc ?_ _) | (with_reducible refine Kd.C_drewN ?_ _) | (with_reducible refine Kd.C_drew ?_))); (case side2 => exact (Kd.R_reads' HO617.out).2.1); (case side3 => repeat (first | exact (Kd.R_reads' HO_4.out).2.2 | (with_reducible refine Kd.C_alloc ?_ _) | (with_reducible refine Kd.C_drewN ?_ _) | (with_reducible refine Kd.C_drew ?_))); (case side4 => exact (Kd.R_reads' HO_4.out).2.1); rintro e w' ⟨rfl, ⟨nd, rfl⟩⟩; refine ⟨_, rfl, ?_⟩) | ((with_reducible refine gate_callee (f := 15) rfl ?_); refine goesL_ (some 63) rfl rfl Try.func15 (by kernel_rfl) rfl #[.slice Ao34 t606.length co34, .int .i64 1] rfl (by (try simp only [List.map_toArray, List.map_cons, List.map_nil]); first | done | (rw [show t606.length = t591.length from (Kd.R_reads' HO_6.out).1.symm] <;> rfl) | rfl | (simp only [List.length_drop, List.length_take]; rfl)) ?_; (with_reducible refine (laws_heldInt64S.calls kj16 _ _ t606 1 t619 _ ?side1 ?side2 A55.out).mono ?_); (case side1 => repeat (first | exact (Kd.R_reads' HO_6.out).2.2 | (with_reducible refine Kd.C_alloc ?_ _) | (with_reducible refine Kd.C_drewN ?_ _) | (with_reducible refine Kd.C_drew ?_))); (case side2 => rw [show t606.length = t591.length from (Kd.R_reads' HO_6.out).1.symm]; exact (Kd.R_reads' HO_6.out).2.1); rintro e w' ⟨rfl, ⟨nd, rfl⟩⟩; refine ⟨_, rfl, ?_⟩))
           go_ret
           exact ⟨rG_, hS_⟩
          ·rw [if_neg c56] at H
           have c56b0 : decide (t619 < 0) = false := decide_eq_false c56
           clear c56
           by_cases c64 : t619 = t605
           ·rw [if_pos c64] at H
            have c64b0 : (t619 == t605) = true := beq_iff_eq.mpr c64
            have c64b1 : (t619 != t605) = false := bne_eq_false_iff_eq.mpr c64
            clear c64
            obtain rfl := Option.some.inj H
            go_wp2_with (first | ((with_reducible refine gate_callee (f := 14) rfl ?_); refine gL_ (some 45) Try.func14 #[.slice Ao34 t591.length co34, .int .i64 1] ?_; (with_reducible refine (laws_markInt64S.calls kj16 (fun k_ => some k_ = (.slice Ao34 t591.length co34 : Value).ownBlock) (.slice Ao34 t591.length co34) t591 1 t605 t606 w _ ?side1 ?side2 A46.out).mono ?_); (case side1 => repeat (first | (with_reducible first | exact HB.out | apply below_alloc | apply pw_below_drewN | apply below_drew1 | refine below_set ?_ GE571.out) | exact HB.out)); (case side2 => exact Kd.R_tight rfl HO_6.out); rintro e w65 ⟨rfl, hy0, hb, hkp⟩; refine ⟨_, rfl, ?_⟩; have n0_ := Aside0.mk (Kd.R_mono (ok' := fun k_ => some k_ ≠ (.slice Ao34 t591.length co34 : Value).ownBlock) (Kd.R_keptB (HO_4.out) hkp (fun k_ hk_ hs_ => (hk_) hs_)) (fun k_ hk_ => hk_.1)); have n1_ := Aside0.mk (Kd.R_reok rfl hy0 (fun k_ e_ => HO_6.out.1 k_ e_)); have n2_ := Aside0.mk (blk_kept bK571_ hkp (fun hs_ => (fun e_ => (Kd.R_ne HO_6.out BK571.out (by decide)) e_) hs_)); have n3_ := Aside0.mk (hb); clear HO_4; clear HO_6; clear BK571; clear HB; have HO_4 := n0_; have HO_6 := n1_; have BK571 := n2_; have HB := n3_; clear n0_ n1_ n2_ n3_; (try clear hb); (try clear hkp); (try clear hy0)) | ((with_reducible refine gate_callee (f := 15) rfl ?_); refine goesL_ (some 48) rfl rfl Try.func15 (by kernel_rfl) rfl #[.slice Ao34 t606.length co34, .int .i64 1] rfl (by (try simp only [List.map_toArray, List.map_cons, List.map_nil]); first | done | (rw [show t606.length = t591.length from (Kd.R_reads' HO_6.out).1.symm] <;> rfl) | rfl | (simp only [List.length_drop, List.length_take]; rfl)) ?_; (with_reducible refine (laws_heldInt64S.calls kj16 _ _ t606 1 t607 _ ?side1 ?side2 A47.out).mono ?_); (case side1 => repeat (first | exact (Kd.R_reads' HO_6.out).2.2 | (with_reducible refine Kd.C_alloc ?_ _) | (with_reducible refine Kd.C_drewN ?_ _) | (with_reducible refine Kd.C_drew ?_))); (case side2 => rw [show t606.length = t591.length from (Kd.R_reads' HO_6.out).1.symm]; exact (Kd.R_reads' HO_6.out).2.1); rintro e w' ⟨rfl, ⟨nd, rfl⟩⟩; refine ⟨_, rfl, ?_⟩; obtain ⟨hcz66_0, hcz66_1, hcz66_2, hfz66_0, hfz66_1, hfz66_2⟩ := blkc3_ BK571.out) | ((with_reducible refine gate_callee (f := 9) rfl ?_); refine gL_ (some 55) Try.func9 #[.agg #[.slice A0_0 l0_0.length c0_0, .int .i64 a0_1, .slice A0_2 l0_2.length c0_2]] ?_; (with_reducible refine (laws_toFunc.calls kj16 _ _ l0_0 a0_1 _ _ l0_2 t608 t611 t612 _ ?side1 ?side2 ?side3 ?side4 A51.out).mono ?_); (case side1 => repeat (first | exact (Kd.C_below HR0_0.out hS_) | (with_reducible refine Kd.C_alloc ?_ _) | (with_reducible refine Kd.C_drewN ?_ _) | (with_reducible refine Kd.C_drew ?_))); (case side2 => exact HC0_0.out); (case side3 => repeat (first | exact (Kd.C_below HR0_2.out hS_) | (with_reducible refine Kd.C_alloc ?_ _) | (with_reducible refine Kd.C_drewN ?_ _) | (with_reducible refine Kd.C_drew ?_))); (case side4 => exact HC0_2.out); rintro e w67 ⟨v609, v613, rfl, ho0, ho1, hb⟩; refine ⟨_, rfl, ?_⟩; have n0_ := Aside0.mk (Kd.R_elder' rHO_4_ (Kd.R_base ho0) hb); have n1_ := Aside0.mk (Kd.R_elder' rHO_6_ (Kd.R_base ho0) hb); have n2_ := Aside0.mk (Kd.R_lower (Kd.R_new' (Kd.R_new' ho0 (Kd.R_lt rHO_4_)) (Kd.R_lt rHO_6_)) (below_size hS_)); have n3_ := Aside0.mk (Kd.R_lower (Kd.R_new' (Kd.R_new' ho1 (Kd.R_lt rHO_4_)) (Kd.R_lt rHO_6_)) (below_size hS_)); have n4_ := Aside0.mk (blk_below (g := gb571) (o := .cells #[.slice A0_0 l0_0.length c0_0, .int .i64 a0_1, .slice A0_2 l0_2.length c0_2] 25 (0, 0)) bK571_ hb); have n5_ := Aside0.mk (below_step hS_ hb); clear HO_4; clear HO_6; clear BK571; clear HB; have HO_4 := n0_; have HO_6 := n1_; have HO610 := n2_; have HO614 := n3_; have BK571 := n4_; have HB := n5_; clear n0_ n1_ n2_ n3_ n4_ n5_; (try clear hb); (try clear hb2); (try clear hk); (try clear hi); (try clear ho0); (try clear ho1); obtain ⟨Ao68, co68, eo68⟩ := Kd.R_slice HO610.out; subst eo68; obtain ⟨Ao69, co69, eo69⟩ := Kd.R_slice HO614.out; subst eo69) | ((with_reducible refine gate_callee (f := 19) rfl ?_); refine gL_ (some 56) Try.func19 #[.agg #[.slice Ao68 t608.length co68, .int .i64 t611, .slice Ao69 t612.length co69]] ?_; (with_reducible refine (impl_Reached.calls kj16 _ _ t608 t611 _ _ t612 t615 _ ?side1 ?side2 ?side3 ?side4 A52.out).mono ?_); (case side1 => repeat (first | exact (Kd.R_reads' HO610.out).2.2 | (with_reducible refine Kd.C_alloc ?_ _) | (with_reducible refine Kd.C_drewN ?_ _) | (with_reducible refine Kd.C_drew ?_))); (case side2 => exact (Kd.R_reads' HO610.out).2.1); (case side3 => repeat (first | exact (Kd.R_reads' HO614.out).2.2 | (with_reducible refine Kd.C_alloc ?_ _) | (with_reducible refine Kd.C_drewN ?_ _) | (with_reducible refine Kd.C_drew ?_))); (case side4 => exact (Kd.R_reads' HO614.out).2.1); rintro e w70 ⟨v616, rfl, ho0, hb⟩; refine ⟨_, rfl, ?_⟩; have n0_ := Aside0.mk (Kd.R_elder' rHO_4_ (Kd.R_base ho0) hb); have n1_ := Aside0.mk (Kd.R_elder' rHO_6_ (Kd.R_base ho0) hb); have n2_ := Aside0.mk (Kd.R_elder' rHO610_ (Kd.R_base ho0) hb); have n3_ := Aside0.mk (Kd.R_elder' rHO614_ (Kd.R_base ho0) hb); have n4_ := Aside0.mk (Kd.R_lower (Kd.R_new' (Kd.R_new' (Kd.R_new' ho0 (Kd.R_lt rHO_4_)) (Kd.R_lt rHO_6_)) (Kd.R_lt rHO610_)) (below_size hS_)); have n5_ := Aside0.mk (blk_below (g := gb571) (o := .cells #[.slice A0_0 l0_0.length c0_0, .int .i64 a0_1, .slice A0_2 l0_2.length c0_2] 25 (0, 0)) bK571_ hb); have n6_ := Aside0.mk (below_step hS_ hb); clear HO_4; clear HO_6; clear HO610; clear HO614; clear BK571; clear HB; have HO_4 := n0_; have HO_6 := n1_; have HO610 := n2_; have HO614 := n3_; have HO617 := n4_; have BK571 := n5_; have HB := n6_; clear n0_ n1_ n2_ n3_ n4_ n5_ n6_; (try clear hb); (try clear hb2); (try clear hk); (try clear hi); (try clear ho0); obtain ⟨Ao71, co71, eo71⟩ := Kd.R_slice HO617.out; subst eo71) | ((with_reducible refine gate_callee (f := 11) rfl ?_); refine gL_ (some 59) Try.func11 #[.slice Ao71 t615.length co71, .slice Ao35 t580.length co35] ?_; (with_reducible refine (laws_eqInt64S.calls kj16 _ _ t615 _ _ t580 true _ ?side1 ?side2 ?side3 ?side4 A53.out).mono ?_); (case side1 => repeat (first | exact (Kd.R_reads' HO617.out).2.2 | (with_reducible refine Kd.C_alloc ?_ _) | (with_reducible refine Kd.C_drewN ?_ _) | (with_reducible refine Kd.C_drew ?_))); (case side2 => exact (Kd.R_reads' HO617.out).2.1); (case side3 => repeat (first | exact (Kd.R_reads' HO_4.out).2.2 | (with_reducible refine Kd.C_alloc ?_ _) | (with_reducible refine Kd.C_drewN ?_ _) | (with_reducible refine Kd.C_drew ?_))); (case side4 => exact (Kd.R_reads' HO_4.out).2.1); rintro e w' ⟨rfl, ⟨nd, rfl⟩⟩; refine ⟨_, rfl, ?_⟩) | ((with_reducible refine gate_callee (f := 15) rfl ?_); refine goesL_ (some 63) rfl rfl Try.func15 (by kernel_rfl) rfl #[.slice Ao34 t606.length co34, .int .i64 1] rfl (by (try simp only [List.map_toArray, List.map_cons, List.map_nil]); first | done | (rw [show t606.length = t591.length from (Kd.R_reads' HO_6.out).1.symm] <;> rfl) | rfl | (simp only [List.length_drop, List.length_take]; rfl)) ?_; (with_reducible refine (laws_heldInt64S.calls kj16 _ _ t606 1 t619 _ ?side1 ?side2 A55.out).mono ?_); (case side1 => repeat (first | exact (Kd.R_reads' HO_6.out).2.2 | (with_reducible refine Kd.C_alloc ?_ _) | (with_reducible refine Kd.C_drewN ?_ _) | (with_reducible refine Kd.C_drew ?_))); (case side2 => rw [show t606.length = t591.length from (Kd.R_reads' HO_6.out).1.symm]; exact (Kd.R_reads' HO_6.out).2.1); rintro e w' ⟨rfl, ⟨nd, rfl⟩⟩; refine ⟨_, rfl, ?_⟩))
            go_ret
            exact ⟨rG_, hS_⟩
           ·rw [if_neg c64] at H
            have c64b0 : (t619 == t605) = false := beq_eq_false_iff_ne.mpr c64
            have c64b1 : (t619 != t605) = true := bne_iff_ne.mpr c64
            obtain rfl := Option.some.inj H
            go_wp2_with (first | ((with_reducible refine gate_callee (f := 14) rfl ?_); refine gL_ (some 45) Try.func14 #[.slice Ao34 t591.length co34, .int .i64 1] ?_; (with_reducible refine (laws_markInt64S.calls kj16 (fun k_ => some k_ = (.slice Ao34 t591.length co34 : Value).ownBlock) (.slice Ao34 t591.length co34) t591 1 t605 t606 w _ ?side1 ?side2 A46.out).mono ?_); (case side1 => repeat (first | (with_reducible first | exact HB.out | apply below_alloc | apply pw_below_drewN | apply below_drew1 | refine below_set ?_ GE571.out) | exact HB.out)); (case side2 => exact Kd.R_tight rfl HO_6.out); rintro e w72 ⟨rfl, hy0, hb, hkp⟩; refine ⟨_, rfl, ?_⟩; have n0_ := Aside0.mk (Kd.R_mono (ok' := fun k_ => some k_ ≠ (.slice Ao34 t591.length co34 : Value).ownBlock) (Kd.R_keptB (HO_4.out) hkp (fun k_ hk_ hs_ => (hk_) hs_)) (fun k_ hk_ => hk_.1)); have n1_ := Aside0.mk (Kd.R_reok rfl hy0 (fun k_ e_ => HO_6.out.1 k_ e_)); have n2_ := Aside0.mk (blk_kept bK571_ hkp (fun hs_ => (fun e_ => (Kd.R_ne HO_6.out BK571.out (by decide)) e_) hs_)); have n3_ := Aside0.mk (hb); clear HO_4; clear HO_6; clear BK571; clear HB; have HO_4 := n0_; have HO_6 := n1_; have BK571 := n2_; have HB := n3_; clear n0_ n1_ n2_ n3_; (try clear hb); (try clear hkp); (try clear hy0)) | ((with_reducible refine gate_callee (f := 15) rfl ?_); refine goesL_ (some 48) rfl rfl Try.func15 (by kernel_rfl) rfl #[.slice Ao34 t606.length co34, .int .i64 1] rfl (by (try simp only [List.map_toArray, List.map_cons, List.map_nil]); first | done | (rw [show t606.length = t591.length from (Kd.R_reads' HO_6.out).1.symm] <;> rfl) | rfl | (simp only [List.length_drop, List.length_take]; rfl)) ?_; (with_reducible refine (laws_heldInt64S.calls kj16 _ _ t606 1 t607 _ ?side1 ?side2 A47.out).mono ?_); (case side1 => repeat (first | exact (Kd.R_reads' HO_6.out).2.2 | (with_reducible refine Kd.C_alloc ?_ _) | (with_reducible refine Kd.C_drewN ?_ _) | (with_reducible refine Kd.C_drew ?_))); (case side2 => rw [show t606.length = t591.length from (Kd.R_reads' HO_6.out).1.symm]; exact (Kd.R_reads' HO_6.out).2.1); rintro e w' ⟨rfl, ⟨nd, rfl⟩⟩; refine ⟨_, rfl, ?_⟩; obtain ⟨hcz73_0, hcz73_1, hcz73_2, hfz73_0, hfz73_1, hfz73_2⟩ := blkc3_ BK571.out) | ((with_reducible refine gate_callee (f := 9) rfl ?_); refine gL_ (some 55) Try.func9 #[.agg #[.slice A0_0 l0_0.length c0_0, .int .i64 a0_1, .slice A0_2 l0_2.length c0_2]] ?_; (with_reducible refine (laws_toFunc.calls kj16 _ _ l0_0 a0_1 _ _ l0_2 t608 t611 t612 _ ?side1 ?side2 ?side3 ?side4 A51.out).mono ?_); (case side1 => repeat (first | exact (Kd.C_below HR0_0.out hS_) | (with_reducible refine Kd.C_alloc ?_ _) | (with_reducible refine Kd.C_drewN ?_ _) | (with_reducible refine Kd.C_drew ?_))); (case side2 => exact HC0_0.out); (case side3 => repeat (first | exact (Kd.C_below HR0_2.out hS_) | (with_reducible refine Kd.C_alloc ?_ _) | (with_reducible refine Kd.C_drewN ?_ _) | (with_reducible refine Kd.C_drew ?_))); (case side4 => exact HC0_2.out); rintro e w74 ⟨v609, v613, rfl, ho0, ho1, hb⟩; refine ⟨_, rfl, ?_⟩; have n0_ := Aside0.mk (Kd.R_elder' rHO_4_ (Kd.R_base ho0) hb); have n1_ := Aside0.mk (Kd.R_elder' rHO_6_ (Kd.R_base ho0) hb); have n2_ := Aside0.mk (Kd.R_lower (Kd.R_new' (Kd.R_new' ho0 (Kd.R_lt rHO_4_)) (Kd.R_lt rHO_6_)) (below_size hS_)); have n3_ := Aside0.mk (Kd.R_lower (Kd.R_new' (Kd.R_new' ho1 (Kd.R_lt rHO_4_)) (Kd.R_lt rHO_6_)) (below_size hS_)); have n4_ := Aside0.mk (blk_below (g := gb571) (o := .cells #[.slice A0_0 l0_0.length c0_0, .int .i64 a0_1, .slice A0_2 l0_2.length c0_2] 25 (0, 0)) bK571_ hb); have n5_ := Aside0.mk (below_step hS_ hb); clear HO_4; clear HO_6; clear BK571; clear HB; have HO_4 := n0_; have HO_6 := n1_; have HO610 := n2_; have HO614 := n3_; have BK571 := n4_; have HB := n5_; clear n0_ n1_ n2_ n3_ n4_ n5_; (try clear hb); (try clear hb2); (try clear hk); (try clear hi); (try clear ho0); (try clear ho1); obtain ⟨Ao75, co75, eo75⟩ := Kd.R_slice HO610.out; subst eo75; obtain ⟨Ao76, co76, eo76⟩ := Kd.R_slice HO614.out; subst eo76) | ((with_reducible refine gate_callee (f := 19) rfl ?_); refine gL_ (some 56) Try.func19 #[.agg #[.slice Ao75 t608.length co75, .int .i64 t611, .slice Ao76 t612.length co76]] ?_; (with_reducible refine (impl_Reached.calls kj16 _ _ t608 t611 _ _ t612 t615 _ ?side1 ?side2 ?side3 ?side4 A52.out).mono ?_); (case side1 => repeat (first | exact (Kd.R_reads' HO610.out).2.2 | (with_reducible refine Kd.C_alloc ?_ _) | (with_reducible refine Kd.C_drewN ?_ _) | (with_reducible refine Kd.C_drew ?_))); (case side2 => exact (Kd.R_reads' HO610.out).2.1); (case side3 => repeat (first | exact (Kd.R_reads' HO614.out).2.2 | (with_reducible refine Kd.C_alloc ?_ _) | (with_reducible refine Kd.C_drewN ?_ _) | (with_reducible refine Kd.C_drew ?_))); (case side4 => exact (Kd.R_reads' HO614.out).2.1); rintro e w77 ⟨v616, rfl, ho0, hb⟩; refine ⟨_, rfl, ?_⟩; have n0_ := Aside0.mk (Kd.R_elder' rHO_4_ (Kd.R_base ho0) hb); have n1_ := Aside0.mk (Kd.R_elder' rHO_6_ (Kd.R_base ho0) hb); have n2_ := Aside0.mk (Kd.R_elder' rHO610_ (Kd.R_base ho0) hb); have n3_ := Aside0.mk (Kd.R_elder' rHO614_ (Kd.R_base ho0) hb); have n4_ := Aside0.mk (Kd.R_lower (Kd.R_new' (Kd.R_new' (Kd.R_new' ho0 (Kd.R_lt rHO_4_)) (Kd.R_lt rHO_6_)) (Kd.R_lt rHO610_)) (below_size hS_)); have n5_ := Aside0.mk (blk_below (g := gb571) (o := .cells #[.slice A0_0 l0_0.length c0_0, .int .i64 a0_1, .slice A0_2 l0_2.length c0_2] 25 (0, 0)) bK571_ hb); have n6_ := Aside0.mk (below_step hS_ hb); clear HO_4; clear HO_6; clear HO610; clear HO614; clear BK571; clear HB; have HO_4 := n0_; have HO_6 := n1_; have HO610 := n2_; have HO614 := n3_; have HO617 := n4_; have BK571 := n5_; have HB := n6_; clear n0_ n1_ n2_ n3_ n4_ n5_ n6_; (try clear hb); (try clear hb2); (try clear hk); (try clear hi); (try clear ho0); obtain ⟨Ao78, co78, eo78⟩ := Kd.R_slice HO617.out; subst eo78) | ((with_reducible refine gate_callee (f := 11) rfl ?_); refine gL_ (some 59) Try.func11 #[.slice Ao78 t615.length co78, .slice Ao35 t580.length co35] ?_; (with_reducible refine (laws_eqInt64S.calls kj16 _ _ t615 _ _ t580 true _ ?side1 ?side2 ?side3 ?side4 A53.out).mono ?_); (case side1 => repeat (first | exact (Kd.R_reads' HO617.out).2.2 | (with_reducible refine Kd.C_alloc ?_ _) | (with_reducible refine Kd.C_drewN ?_ _) | (with_reducible refine Kd.C_drew ?_))); (case side2 => exact (Kd.R_reads' HO617.out).2.1); (case side3 => repeat (first | exact (Kd.R_reads' HO_4.out).2.2 | (with_reducible refine Kd.C_alloc ?_ _) | (with_reducible refine Kd.C_drewN ?_ _) | (with_reducible refine Kd.C_drew ?_))); (case side4 => exact (Kd.R_reads' HO_4.out).2.1); rintro e w' ⟨rfl, ⟨nd, rfl⟩⟩; refine ⟨_, rfl, ?_⟩) | ((with_reducible refine gate_callee (f := 15) rfl ?_); refine goesL_ (some 63) rfl rfl Try.func15 (by kernel_rfl) rfl #[.slice Ao34 t606.length co34, .int .i64 1] rfl (by (try simp only [List.map_toArray, List.map_cons, List.map_nil]); first | done | (rw [show t606.length = t591.length from (Kd.R_reads' HO_6.out).1.symm] <;> rfl) | rfl | (simp only [List.length_drop, List.length_take]; rfl)) ?_; (with_reducible refine (laws_heldInt64S.calls kj16 _ _ t606 1 t619 _ ?side1 ?side2 A55.out).mono ?_); (case side1 => repeat (first | exact (Kd.R_reads' HO_6.out).2.2 | (with_reducible refine Kd.C_alloc ?_ _) | (with_reducible refine Kd.C_drewN ?_ _) | (with_reducible refine Kd.C_drew ?_))); (case side2 => rw [show t606.length = t591.length from (Kd.R_reads' HO_6.out).1.symm]; exact (Kd.R_reads' HO_6.out).2.1); rintro e w' ⟨rfl, ⟨nd, rfl⟩⟩; refine ⟨_, rfl, ?_⟩))
            go_ret
            exact ⟨rG_, hS_⟩
         ·replace c54 := Bool.eq_false_iff.mpr c54
          subst c54
          have H1 := (if_neg (show ¬ (false = true) by decide)).symm.trans H
          clear H
          have H := H1
          clear H1
          obtain rfl := Option.some.inj H
          go_wp2_with (first | ((with_reducible refine gate_callee (f := 14) rfl ?_); refine gL_ (some 45) Try.func14 #[.slice Ao34 t591.length co34, .int .i64 1] ?_; (with_reducible refine (laws_markInt64S.calls kj16 (fun k_ => some k_ = (.slice Ao34 t591.length co34 : Value).ownBlock) (.slice Ao34 t591.length co34) t591 1 t605 t606 w _ ?side1 ?side2 A46.out).mono ?_); (case side1 => repeat (first | (with_reducible first | exact HB.out | apply below_alloc | apply pw_below_drewN | apply below_drew1 | refine below_set ?_ GE571.out) | exact HB.out)); (case side2 => exact Kd.R_tight rfl HO_6.out); rintro e w79 ⟨rfl, hy0, hb, hkp⟩; refine ⟨_, rfl, ?_⟩; have n0_ := Aside0.mk (Kd.R_mono (ok' := fun k_ => some k_ ≠ (.slice Ao34 t591.length co34 : Value).ownBlock) (Kd.R_keptB (HO_4.out) hkp (fun k_ hk_ hs_ => (hk_) hs_)) (fun k_ hk_ => hk_.1)); have n1_ := Aside0.mk (Kd.R_reok rfl hy0 (fun k_ e_ => HO_6.out.1 k_ e_)); have n2_ := Aside0.mk (blk_kept bK571_ hkp (fun hs_ => (fun e_ => (Kd.R_ne HO_6.out BK571.out (by decide)) e_) hs_)); have n3_ := Aside0.mk (hb); clear HO_4; clear HO_6; clear BK571; clear HB; have HO_4 := n0_; have HO_6 := n1_; have BK571 := n2_; have HB := n3_; clear n0_ n1_ n2_ n3_; (try clear hb); (try clear hkp); (try clear hy0)) | ((with_reducible refine gate_callee (f := 15) rfl ?_); refine goesL_ (some 48) rfl rfl Try.func15 (by kernel_rfl) rfl #[.slice Ao34 t606.length co34, .int .i64 1] rfl (by (try simp only [List.map_toArray, List.map_cons, List.map_nil]); first | done | (rw [show t606.length = t591.length from (Kd.R_reads' HO_6.out).1.symm] <;> rfl) | rfl | (simp only [List.length_drop, List.length_take]; rfl)) ?_; (with_reducible refine (laws_heldInt64S.calls kj16 _ _ t606 1 t607 _ ?side1 ?side2 A47.out).mono ?_); (case side1 => repeat (first | exact (Kd.R_reads' HO_6.out).2.2 | (with_reducible refine Kd.C_alloc ?_ _) | (with_reducible refine Kd.C_drewN ?_ _) | (with_reducible refine Kd.C_drew ?_))); (case side2 => rw [show t606.length = t591.length from (Kd.R_reads' HO_6.out).1.symm]; exact (Kd.R_reads' HO_6.out).2.1); rintro e w' ⟨rfl, ⟨nd, rfl⟩⟩; refine ⟨_, rfl, ?_⟩; obtain ⟨hcz80_0, hcz80_1, hcz80_2, hfz80_0, hfz80_1, hfz80_2⟩ := blkc3_ BK571.out) | ((with_reducible refine gate_callee (f := 9) rfl ?_); refine gL_ (some 55) Try.func9 #[.agg #[.slice A0_0 l0_0.length c0_0, .int .i64 a0_1, .slice A0_2 l0_2.length c0_2]] ?_; (with_reducible refine (laws_toFunc.calls kj16 _ _ l0_0 a0_1 _ _ l0_2 t608 t611 t612 _ ?side1 ?side2 ?side3 ?side4 A51.out).mono ?_); (case side1 => repeat (first | exact (Kd.C_below HR0_0.out hS_) | (with_reducible refine Kd.C_alloc ?_ _) | (with_reducible refine Kd.C_drewN ?_ _) | (with_reducible refine Kd.C_drew ?_))); (case side2 => exact HC0_0.out); (case side3 => repeat (first | exact (Kd.C_below HR0_2.out hS_) | (with_reducible refine Kd.C_alloc ?_ _) | (with_reducible refine Kd.C_drewN ?_ _) | (with_reducible refine Kd.C_drew ?_))); (case side4 => exact HC0_2.out); rintro e w81 ⟨v609, v613, rfl, ho0, ho1, hb⟩; refine ⟨_, rfl, ?_⟩; have n0_ := Aside0.mk (Kd.R_elder' rHO_4_ (Kd.R_base ho0) hb); have n1_ := Aside0.mk (Kd.R_elder' rHO_6_ (Kd.R_base ho0) hb); have n2_ := Aside0.mk (Kd.R_lower (Kd.R_new' (Kd.R_new' ho0 (Kd.R_lt rHO_4_)) (Kd.R_lt rHO_6_)) (below_size hS_)); have n3_ := Aside0.mk (Kd.R_lower (Kd.R_new' (Kd.R_new' ho1 (Kd.R_lt rHO_4_)) (Kd.R_lt rHO_6_)) (below_size hS_)); have n4_ := Aside0.mk (blk_below (g := gb571) (o := .cells #[.slice A0_0 l0_0.length c0_0, .int .i64 a0_1, .slice A0_2 l0_2.length c0_2] 25 (0, 0)) bK571_ hb); have n5_ := Aside0.mk (below_step hS_ hb); clear HO_4; clear HO_6; clear BK571; clear HB; have HO_4 := n0_; have HO_6 := n1_; have HO610 := n2_; have HO614 := n3_; have BK571 := n4_; have HB := n5_; clear n0_ n1_ n2_ n3_ n4_ n5_; (try clear hb); (try clear hb2); (try clear hk); (try clear hi); (try clear ho0); (try clear ho1); obtain ⟨Ao82, co82, eo82⟩ := Kd.R_slice HO610.out; subst eo82; obtain ⟨Ao83, co83, eo83⟩ := Kd.R_slice HO614.out; subst eo83) | ((with_reducible refine gate_callee (f := 19) rfl ?_); refine gL_ (some 56) Try.func19 #[.agg #[.slice Ao82 t608.length co82, .int .i64 t611, .slice Ao83 t612.length co83]] ?_; (with_reducible refine (impl_Reached.calls kj16 _ _ t608 t611 _ _ t612 t615 _ ?side1 ?side2 ?side3 ?side4 A52.out).mono ?_); (case side1 => repeat (first | exact (Kd.R_reads' HO610.out).2.2 | (with_reducible refine Kd.C_alloc ?_ _) | (with_reducible refine Kd.C_drewN ?_ _) | (with_reducible refine Kd.C_drew ?_))); (case side2 => exact (Kd.R_reads' HO610.out).2.1); (case side3 => repeat (first | exact (Kd.R_reads' HO614.out).2.2 | (with_reducible refine Kd.C_alloc ?_ _) | (with_reducible refine Kd.C_drewN ?_ _) | (with_reducible refine Kd.C_drew ?_))); (case side4 => exact (Kd.R_reads' HO614.out).2.1); rintro e w84 ⟨v616, rfl, ho0, hb⟩; refine ⟨_, rfl, ?_⟩; have n0_ := Aside0.mk (Kd.R_elder' rHO_4_ (Kd.R_base ho0) hb); have n1_ := Aside0.mk (Kd.R_elder' rHO_6_ (Kd.R_base ho0) hb); have n2_ := Aside0.mk (Kd.R_elder' rHO610_ (Kd.R_base ho0) hb); have n3_ := Aside0.mk (Kd.R_elder' rHO614_ (Kd.R_base ho0) hb); have n4_ := Aside0.mk (Kd.R_lower (Kd.R_new' (Kd.R_new' (Kd.R_new' ho0 (Kd.R_lt rHO_4_)) (Kd.R_lt rHO_6_)) (Kd.R_lt rHO610_)) (below_size hS_)); have n5_ := Aside0.mk (blk_below (g := gb571) (o := .cells #[.slice A0_0 l0_0.length c0_0, .int .i64 a0_1, .slice A0_2 l0_2.length c0_2] 25 (0, 0)) bK571_ hb); have n6_ := Aside0.mk (below_step hS_ hb); clear HO_4; clear HO_6; clear HO610; clear HO614; clear BK571; clear HB; have HO_4 := n0_; have HO_6 := n1_; have HO610 := n2_; have HO614 := n3_; have HO617 := n4_; have BK571 := n5_; have HB := n6_; clear n0_ n1_ n2_ n3_ n4_ n5_ n6_; (try clear hb); (try clear hb2); (try clear hk); (try clear hi); (try clear ho0); obtain ⟨Ao85, co85, eo85⟩ := Kd.R_slice HO617.out; subst eo85) | ((with_reducible refine gate_callee (f := 11) rfl ?_); refine gL_ (some 59) Try.func11 #[.slice Ao85 t615.length co85, .slice Ao35 t580.length co35] ?_; (with_reducible refine (laws_eqInt64S.calls kj16 _ _ t615 _ _ t580 false _ ?side1 ?side2 ?side3 ?side4 A53.out).mono ?_); (case side1 => repeat (first | exact (Kd.R_reads' HO617.out).2.2 | (with_reducible refine Kd.C_alloc ?_ _) | (with_reducible refine Kd.C_drewN ?_ _) | (with_reducible refine Kd.C_drew ?_))); (case side2 => exact (Kd.R_reads' HO617.out).2.1); (case side3 => repeat (first | exact (Kd.R_reads' HO_4.out).2.2 | (with_reducible refine Kd.C_alloc ?_ _) | (with_reducible refine Kd.C_drewN ?_ _) | (with_reducible refine Kd.C_drew ?_))); (case side4 => exact (Kd.R_reads' HO_4.out).2.1); rintro e w' ⟨rfl, ⟨nd, rfl⟩⟩; refine ⟨_, rfl, ?_⟩))
          go_ret
          exact ⟨rG_, hS_⟩
        ·rw [if_neg c50] at H
         have c50b0 : (t607 == t605) = false := beq_eq_false_iff_ne.mpr c50
         have c50b1 : (t607 != t605) = true := bne_iff_ne.mpr c50
         obtain rfl := Option.some.inj H
         go_wp2_with (first | ((with_reducible refine gate_callee (f := 14) rfl ?_); refine gL_ (some 45) Try.func14 #[.slice Ao34 t591.length co34, .int .i64 1] ?_; (with_reducible refine (laws_markInt64S.calls kj16 (fun k_ => some k_ = (.slice Ao34 t591.length co34 : Value).ownBlock) (.slice Ao34 t591.length co34) t591 1 t605 t606 w _ ?side1 ?side2 A46.out).mono ?_); (case side1 => repeat (first | (with_reducible first | exact HB.out | apply below_alloc | apply pw_below_drewN | apply below_drew1 | refine below_set ?_ GE571.out) | exact HB.out)); (case side2 => exact Kd.R_tight rfl HO_6.out); rintro e w86 ⟨rfl, hy0, hb, hkp⟩; refine ⟨_, rfl, ?_⟩; have n0_ := Aside0.mk (Kd.R_mono (ok' := fun k_ => some k_ ≠ (.slice Ao34 t591.length co34 : Value).ownBlock) (Kd.R_keptB (HO_4.out) hkp (fun k_ hk_ hs_ => (hk_) hs_)) (fun k_ hk_ => hk_.1)); have n1_ := Aside0.mk (Kd.R_reok rfl hy0 (fun k_ e_ => HO_6.out.1 k_ e_)); have n2_ := Aside0.mk (blk_kept bK571_ hkp (fun hs_ => (fun e_ => (Kd.R_ne HO_6.out BK571.out (by decide)) e_) hs_)); have n3_ := Aside0.mk (hb); clear HO_4; clear HO_6; clear BK571; clear HB; have HO_4 := n0_; have HO_6 := n1_; have BK571 := n2_; have HB := n3_; clear n0_ n1_ n2_ n3_; (try clear hb); (try clear hkp); (try clear hy0)) | ((with_reducible refine gate_callee (f := 15) rfl ?_); refine goesL_ (some 48) rfl rfl Try.func15 (by kernel_rfl) rfl #[.slice Ao34 t606.length co34, .int .i64 1] rfl (by (try simp only [List.map_toArray, List.map_cons, List.map_nil]); first | done | (rw [show t606.length = t591.length from (Kd.R_reads' HO_6.out).1.symm] <;> rfl) | rfl | (simp only [List.length_drop, List.length_take]; rfl)) ?_; (with_reducible refine (laws_heldInt64S.calls kj16 _ _ t606 1 t607 _ ?side1 ?side2 A47.out).mono ?_); (case side1 => repeat (first | exact (Kd.R_reads' HO_6.out).2.2 | (with_reducible refine Kd.C_alloc ?_ _) | (with_reducible refine Kd.C_drewN ?_ _) | (with_reducible refine Kd.C_drew ?_))); (case side2 => rw [show t606.length = t591.length from (Kd.R_reads' HO_6.out).1.symm]; exact (Kd.R_reads' HO_6.out).2.1); rintro e w' ⟨rfl, ⟨nd, rfl⟩⟩; refine ⟨_, rfl, ?_⟩))
         go_ret
         exact ⟨rG_, hS_⟩
   ·replace c15 := Bool.eq_false_iff.mpr c15
    subst c15
    have H1 := (if_neg (show ¬ (false = true) by decide)).symm.trans H
    clear H
    have H := H1
    clear H1
    obtain rfl := Option.some.inj H
    go_enter Try.func5, Try.ntmps5
    try go_wp2_with (first | ((with_reducible refine gate_dst (N := 1) rfl ?_); refine box_event ?hg (N := 1) ?hd (cs := #[.slice A0_0 l0_0.length c0_0, .int .i64 a0_1, .slice A0_2 l0_2.length c0_2]) (t := 25) ?hr ?_; (case hd => rfl); (case hg => rfl); (case hr => first | (go_simp; done) | (go_simp; rfl)); intro gb571 hg w87 hbox hb; have n0_ := Aside0.mk (below_step hB_ hb); have n1_ := Aside0.mk (hbox); have n2_ := Aside0.mk ((by rw [hg]; exact (below_size hB_) : w.heap.size ≤ gb571)); have n3_ := Aside0.mk ((by rw [hg]; exact (below_size hB_) : w.heap.size ≤ gb571)); clear HB; have HB := n0_; have BK571 := n1_; have GW571 := n2_; have GE571 := n3_; clear n0_ n1_ n2_ n3_; clear hb hbox hg; obtain ⟨hcz88_0, hcz88_1, hcz88_2, hfz88_0, hfz88_1, hfz88_2⟩ := blkc3_ BK571.out) | ((with_reducible refine gate_callee (f := 7) rfl ?_); refine gL_ (some 13) Try.func7 #[.agg #[.slice A0_0 l0_0.length c0_0, .int .i64 a0_1, .slice A0_2 l0_2.length c0_2], .int .i64 1048576] ?_; (with_reducible refine (laws_szFunc.calls k _ _ l0_0 a0_1 _ _ l0_2 1048576 t572 _ ?side1 ?side2 ?side3 ?side4 A2.out).mono ?_); (case side1 => repeat (first | exact (Kd.C_below HR0_0.out HB.out) | (with_reducible refine Kd.C_alloc ?_ _) | (with_reducible refine Kd.C_drewN ?_ _) | (with_reducible refine Kd.C_drew ?_))); (case side2 => exact HC0_0.out); (case side3 => repeat (first | exact (Kd.C_below HR0_2.out HB.out) | (with_reducible refine Kd.C_alloc ?_ _) | (with_reducible refine Kd.C_drewN ?_ _) | (with_reducible refine Kd.C_drew ?_))); (case side4 => exact HC0_2.out); rintro e w89 ⟨rfl, hb⟩; refine ⟨_, rfl, ?_⟩; have n0_ := Aside0.mk (blk_below (g := gb571) (o := .cells #[.slice A0_0 l0_0.length c0_0, .int .i64 a0_1, .slice A0_2 l0_2.length c0_2] 25 (0, 0)) bK571_ hb); have n1_ := Aside0.mk (below_step hS_ hb); clear BK571; clear HB; have BK571 := n0_; have HB := n1_; clear n0_ n1_; (try clear hb); (try clear hb2); (try clear hk); (try clear hi); obtain ⟨hcz90_0, hcz90_1, hcz90_2, hfz90_0, hfz90_1, hfz90_2⟩ := blkc3_ BK571.out) | ((with_reducible refine gate_callee (f := 9) rfl ?_); refine gL_ (some 17) Try.func9 #[.agg #[.slice A0_0 l0_0.length c0_0, .int .i64 a0_1, .slice A0_2 l0_2.length c0_2]] ?_; (with_reducible refine (laws_toFunc.calls k _ _ l0_0 a0_1 _ _ l0_2 t573 t576 t577 _ ?side1 ?side2 ?side3 ?side4 A7.out).mono ?_); (case side1 => repeat (first | exact (Kd.C_below HR0_0.out HB.out) | (with_reducible refine Kd.C_alloc ?_ _) | (with_reducible refine Kd.C_drewN ?_ _) | (with_reducible refine Kd.C_drew ?_))); (case side2 => exact HC0_0.out); (case side3 => repeat (first | exact (Kd.C_below HR0_2.out HB.out) | (with_reducible refine Kd.C_alloc ?_ _) | (with_reducible refine Kd.C_drewN ?_ _) | (with_reducible refine Kd.C_drew ?_))); (case side4 => exact HC0_2.out); rintro e w91 ⟨v574, v578, rfl, ho0, ho1, hb⟩; refine ⟨_, rfl, ?_⟩; have n0_ := Aside0.mk (Kd.R_lower ho0 (below_size hS_)); have n1_ := Aside0.mk (Kd.R_lower ho1 (below_size hS_)); have n2_ := Aside0.mk (blk_below (g := gb571) (o := .cells #[.slice A0_0 l0_0.length c0_0, .int .i64 a0_1, .slice A0_2 l0_2.length c0_2] 25 (0, 0)) bK571_ hb); have n3_ := Aside0.mk (below_step hS_ hb); clear BK571; clear HB; have HO575 := n0_; have HO579 := n1_; have BK571 := n2_; have HB := n3_; clear n0_ n1_ n2_ n3_; (try clear hb); (try clear hb2); (try clear hk); (try clear hi); (try clear ho0); (try clear ho1); obtain ⟨Ao92, co92, eo92⟩ := Kd.R_slice HO575.out; subst eo92; obtain ⟨Ao93, co93, eo93⟩ := Kd.R_slice HO579.out; subst eo93) | ((with_reducible refine gate_callee (f := 18) rfl ?_); refine gL_ (some 18) Try.func18 #[.agg #[.slice Ao92 t573.length co92, .int .i64 t576, .slice Ao93 t577.length co93]] ?_; (with_reducible refine (spec_Reached.calls k _ _ t573 t576 _ _ t577 t580 _ ?side1 ?side2 ?side3 ?side4 A8.out).mono ?_); (case side1 => repeat (first | exact (Kd.R_reads' HO575.out).2.2 | (with_reducible refine Kd.C_alloc ?_ _) | (with_reducible refine Kd.C_drewN ?_ _) | (with_reducible refine Kd.C_drew ?_))); (case side2 => exact (Kd.R_reads' HO575.out).2.1); (case side3 => repeat (first | exact (Kd.R_reads' HO579.out).2.2 | (with_reducible refine Kd.C_alloc ?_ _) | (with_reducible refine Kd.C_drewN ?_ _) | (with_reducible refine Kd.C_drew ?_))); (case side4 => exact (Kd.R_reads' HO579.out).2.1); rintro e w94 ⟨v581, rfl, ho0, hb⟩; refine ⟨_, rfl, ?_⟩; have n0_ := Aside0.mk (Kd.R_elder' rHO575_ (Kd.R_base ho0) hb); have n1_ := Aside0.mk (Kd.R_elder' rHO579_ (Kd.R_base ho0) hb); have n2_ := Aside0.mk (Kd.R_lower (Kd.R_new' ho0 (Kd.R_lt rHO575_)) (below_size hS_)); have n3_ := Aside0.mk (blk_below (g := gb571) (o := .cells #[.slice A0_0 l0_0.length c0_0, .int .i64 a0_1, .slice A0_2 l0_2.length c0_2] 25 (0, 0)) bK571_ hb); have n4_ := Aside0.mk (below_step hS_ hb); clear HO575; clear HO579; clear BK571; clear HB; have HO575 := n0_; have HO579 := n1_; have HO582 := n2_; have BK571 := n3_; have HB := n4_; clear n0_ n1_ n2_ n3_ n4_; (try clear hb); (try clear hb2); (try clear hk); (try clear hi); (try clear ho0); obtain ⟨hcz95_0, hcz95_1, hcz95_2, hfz95_0, hfz95_1, hfz95_2⟩ := blkc3_ BK571.out) | ((with_reducible refine gate_callee (f := 9) rfl ?_); refine gL_ (some 20) Try.func9 #[.agg #[.slice A0_0 l0_0.length c0_0, .int .i64 a0_1, .slice A0_2 l0_2.length c0_2]] ?_; (with_reducible refine (laws_toFunc.calls k _ _ l0_0 a0_1 _ _ l0_2 t583 t586 t587 _ ?side1 ?side2 ?side3 ?side4 A9.out).mono ?_); (case side1 => repeat (first | exact (Kd.C_below HR0_0.out HB.out) | (with_reducible refine Kd.C_alloc ?_ _) | (with_reducible refine Kd.C_drewN ?_ _) | (with_reducible refine Kd.C_drew ?_))); (case side2 => exact HC0_0.out); (case side3 => repeat (first | exact (Kd.C_below HR0_2.out HB.out) | (with_reducible refine Kd.C_alloc ?_ _) | (with_reducible refine Kd.C_drewN ?_ _) | (with_reducible refine Kd.C_drew ?_))); (case side4 => exact HC0_2.out); rintro e w96 ⟨v584, v588, rfl, ho0, ho1, hb⟩; refine ⟨_, rfl, ?_⟩; have n0_ := Aside0.mk (Kd.R_elder' rHO575_ (Kd.R_base ho0) hb); have n1_ := Aside0.mk (Kd.R_mono (Kd.R_told (Kd.R_told (Kd.R_old rHO579_ hb) (Kd.R_base ho0)) (Kd.R_base ho1)) (fun _ h_ => h_.1)); have n2_ := Aside0.mk (Kd.R_elder' rHO582_ (Kd.R_base ho0) hb); have n3_ := Aside0.mk (Kd.R_lower (Kd.R_new' (Kd.R_new' ho0 (Kd.R_lt rHO575_)) (Kd.R_lt rHO582_)) (below_size hS_)); have n4_ := Aside0.mk (Kd.R_lower (Kd.R_new' (Kd.R_new' (Kd.R_new' ho1 (Kd.R_lt rHO575_)) (Kd.R_lt rHO579_)) (Kd.R_lt rHO582_)) (below_size hS_)); have n5_ := Aside0.mk (blk_below (g := gb571) (o := .cells #[.slice A0_0 l0_0.length c0_0, .int .i64 a0_1, .slice A0_2 l0_2.length c0_2] 25 (0, 0)) bK571_ hb); have n6_ := Aside0.mk (below_step hS_ hb); clear HO575; clear HO579; clear HO582; clear BK571; clear HB; have HO575 := n0_; have HO579 := n1_; have HO582 := n2_; have HO585 := n3_; have HO589 := n4_; have BK571 := n5_; have HB := n6_; clear n0_ n1_ n2_ n3_ n4_ n5_ n6_; (try clear hb); (try clear hb2); (try clear hk); (try clear hi); (try clear ho0); (try clear ho1)) | ((with_reducible refine gate_dst (N := 5) rfl ?_); refine box_event ?hg (N := 5) ?hd (cs := #[.slice none 0 0, .int .i64 0, .slice none 0 0]) (t := 30) ?hr ?_; (case hd => rfl); (case hg => rfl); (case hr => first | (go_simp; done) | (go_simp; rfl)); intro gb590 hg w97 hbox hb; have n0_ := Aside0.mk (Kd.R_below rHO575_ hb); have n1_ := Aside0.mk (Kd.R_below rHO579_ hb); have n2_ := Aside0.mk (Kd.R_below rHO582_ hb); have n3_ := Aside0.mk (Kd.R_below rHO585_ hb); have n4_ := Aside0.mk (Kd.R_below rHO589_ hb); have n5_ := Aside0.mk (blk_below (g := gb571) (o := .cells #[.slice A0_0 l0_0.length c0_0, .int .i64 a0_1, .slice A0_2 l0_2.length c0_2] 25 (0, 0)) bK571_ hb); have n6_ := Aside0.mk (below_step hS_ hb); have n7_ := Aside0.mk (hbox); have n8_ := Aside0.mk ((by rw [hg]; exact (below_size hS_) : w.heap.size ≤ gb590)); have n9_ := Aside0.mk ((by rw [hg]; exact (below_size hS_) : w.heap.size ≤ gb590)); have n10_ := Aside0.mk ((by rw [hg]; exact Nat.ne_of_lt (blk_lt (g := gb571) (o := .cells #[.slice A0_0 l0_0.length c0_0, .int .i64 a0_1, .slice A0_2 l0_2.length c0_2] 25 (0, 0)) bK571_) : gb571 ≠ gb590)); have n11_ := Aside0.mk ((by rw [hg]; exact Nat.ne_of_gt (blk_lt (g := gb571) (o := .cells #[.slice A0_0 l0_0.length c0_0, .int .i64 a0_1, .slice A0_2 l0_2.length c0_2] 25 (0, 0)) bK571_) : gb590 ≠ gb571)); clear HO575; clear HO579; clear HO582; clear HO585; clear HO589; clear BK571; clear HB; have HO575 := n0_; have HO579 := n1_; have HO582 := n2_; have HO585 := n3_; have HO589 := n4_; have BK571 := n5_; have HB := n6_; have BK590 := n7_; have GW590 := n8_; have GE590 := n9_; have NB571_590 := n10_; have NB590_571 := n11_; clear n0_ n1_ n2_ n3_ n4_ n5_ n6_ n7_ n8_ n9_ n10_ n11_; clear hb hbox hg; obtain ⟨Ao98, co98, eo98⟩ := Kd.R_slice HO585.out; subst eo98; have hnb99 := NB590_571.out; have hnc99 := NB571_590.out; obtain ⟨hcz100_0, hcz100_1, hcz100_2, hfz100_0, hfz100_1, hfz100_2⟩ := blkc3_ BK590.out; obtain ⟨Ao101, co101, eo101⟩ := Kd.R_slice HO589.out; subst eo101) | ((with_reducible refine gate_callee (f := 19) rfl ?_); refine gL_ (some 22) Try.func19 #[.agg #[.slice Ao98 t583.length co98, .int .i64 t586, .slice Ao101 t587.length co101]] ?_; (with_reducible refine (impl_Reached.calls k _ _ t583 t586 _ _ t587 t591 _ ?side1 ?side2 ?side3 ?side4 A10.out).mono ?_); (case side1 => refine (Kd.R_reads' (e := 2) (base := w.heap.size) (ok := fun k_ => ((True ∧ some k_ ≠ (.slice Ao92 t573.length co92 : Value).ownBlock) ∧ some k_ ≠ (v581 : Value).ownBlock)) (n := t583.length) (c := co98) ?_).2.2; exact (by (with_reducible repeat (first | apply Kd.R_alloc | apply Kd.R_drewN | apply Kd.R_drew)); exact (rf3_ HO585.out BK590.out (by decide) (.slice Ao98 t583.length co98) (.int .i64 t586) (.slice Ao101 t587.length co101)))); (case side2 => exact (Kd.R_reads' HO585.out).2.1); (case side3 => refine (Kd.R_reads' (e := 80) (base := w.heap.size) (ok := fun k_ => (((some k_ ≠ (.slice Ao98 t583.length co98 : Value).ownBlock ∧ some k_ ≠ (.slice Ao92 t573.length co92 : Value).ownBlock) ∧ some k_ ≠ (.slice Ao93 t577.length co93 : Value).ownBlock) ∧ some k_ ≠ (v581 : Value).ownBlock)) (n := t587.length) (c := co101) ?_).2.2; exact (by (with_reducible repeat (first | apply Kd.R_alloc | apply Kd.R_drewN | apply Kd.R_drew)); exact (rf3_ HO589.out BK590.out (by decide) (.slice Ao98 t583.length co98) (.int .i64 t586) (.slice Ao101 t587.length co101)))); (case side4 => exact (Kd.R_reads' HO589.out).2.1); rintro e w102 ⟨v592, rfl, ho0, hb⟩; refine ⟨_, rfl, ?_⟩; have n0_ := Aside0.mk (Kd.R_elder' (by (with_reducible repeat (first | apply Kd.R_alloc | apply Kd.R_drewN | apply Kd.R_drew)); exact (rf3_ HO575.out BK590.out (by decide) (.slice Ao98 t583.length co98) (.int .i64 t586) (.slice Ao101 t587.length co101))) (Kd.R_base ho0) hb); have n1_ := Aside0.mk (Kd.R_elder' (by (with_reducible repeat (first | apply Kd.R_alloc | apply Kd.R_drewN | apply Kd.R_drew)); exact (rf3_ HO579.out BK590.out (by decide) (.slice Ao98 t583.length co98) (.int .i64 t586) (.slice Ao101 t587.length co101))) (Kd.R_base ho0) hb); have n2_ := Aside0.mk (Kd.R_elder' (by (with_reducible repeat (first | apply Kd.R_alloc | apply Kd.R_drewN | apply Kd.R_drew)); exact (rf3_ HO582.out BK590.out (by decide) (.slice Ao98 t583.length co98) (.int .i64 t586) (.slice Ao101 t587.length co101))) (Kd.R_base ho0) hb); have n3_ := Aside0.mk (Kd.R_elder' (by (with_reducible repeat (first | apply Kd.R_alloc | apply Kd.R_drewN | apply Kd.R_drew)); exact (rf3_ HO585.out BK590.out (by decide) (.slice Ao98 t583.length co98) (.int .i64 t586) (.slice Ao101 t587.length co101))) (Kd.R_base ho0) hb); have n4_ := Aside0.mk (Kd.R_elder' (by (with_reducible repeat (first | apply Kd.R_alloc | apply Kd.R_drewN | apply Kd.R_drew)); exact (rf3_ HO589.out BK590.out (by decide) (.slice Ao98 t583.length co98) (.int .i64 t586) (.slice Ao101 t587.length co101))) (Kd.R_base ho0) hb); have n5_ := Aside0.mk (Kd.R_lower (Kd.R_new' (Kd.R_new' (Kd.R_new' ho0 (Kd.R_lt (by (with_reducible repeat (first | apply Kd.R_alloc | apply Kd.R_drewN | apply Kd.R_drew)); exact (rf3_ HO575.out BK590.out (by decide) (.slice Ao98 t583.length co98) (.int .i64 t586) (.slice Ao101 t587.length co101))))) (Kd.R_lt (by (with_reducible repeat (first | apply Kd.R_alloc | apply Kd.R_drewN | apply Kd.R_drew)); exact (rf3_ HO582.out BK590.out (by decide) (.slice Ao98 t583.length co98) (.int .i64 t586) (.slice Ao101 t587.length co101))))) (Kd.R_lt (by (with_reducible repeat (first | apply Kd.R_alloc | apply Kd.R_drewN | apply Kd.R_drew)); exact (rf3_ HO585.out BK590.out (by decide) (.slice Ao98 t583.length co98) (.int .i64 t586) (.slice Ao101 t587.length co101))))) (below_size hS_)); have n6_ := Aside0.mk (blk_below (g := gb571) (o := .cells #[.slice A0_0 l0_0.length c0_0, .int .i64 a0_1, .slice A0_2 l0_2.length c0_2] 25 (0, 0)) fK571_ hb); have n7_ := Aside0.mk (blk_below (g := gb590) (o := .cells #[.slice Ao98 t583.length co98, .int .i64 t586, .slice Ao101 t587.length co101] 30 (0, 0)) (by (with_reducible repeat (first | refine blk_drewN ?_ _ | refine blk_drew ?_ | refine blk_alloc ?_ _)); refine blk_put (cs := #[.slice Ao98 t583.length co98, .int .i64 t586, .slice none 0 0]) ?_ 2 _ rfl; (with_reducible repeat (first | refine blk_drewN ?_ _ | refine blk_drew ?_ | refine blk_alloc ?_ _)); refine blk_put (cs := #[.slice Ao98 t583.length co98, .int .i64 0, .slice none 0 0]) ?_ 1 _ rfl; (with_reducible repeat (first | refine blk_drewN ?_ _ | refine blk_drew ?_ | refine blk_alloc ?_ _)); refine blk_put (cs := #[.slice none 0 0, .int .i64 0, .slice none 0 0]) ?_ 0 _ rfl; (with_reducible repeat (first | refine blk_drewN ?_ _ | refine blk_drew ?_ | refine blk_alloc ?_ _)); exact BK590.out) hb); have n8_ := Aside0.mk (below_step hS_ hb); clear HO575; clear HO579; clear HO582; clear HO585; clear HO589; clear BK571; clear BK590; clear HB; have HO575 := n0_; have HO579 := n1_; have HO582 := n2_; have HO585 := n3_; have HO589 := n4_; have HO593 := n5_; have BK571 := n6_; have BK590 := n7_; have HB := n8_; clear n0_ n1_ n2_ n3_ n4_ n5_ n6_ n7_ n8_; (try clear hb); (try clear hb2); (try clear hk); (try clear hi); (try clear ho0); obtain ⟨Ao103, co103, eo103⟩ := Kd.R_slice HO593.out; subst eo103; obtain ⟨Ao104, co104, eo104⟩ := Kd.R_slice HO582.out; subst eo104) | ((with_reducible refine gate_callee (f := 11) rfl ?_); refine gL_ (some 25) Try.func11 #[.slice Ao103 t591.length co103, .slice Ao104 t580.length co104] ?_; (with_reducible refine (laws_eqInt64S.calls k _ _ t591 _ _ t580 true _ ?side1 ?side2 ?side3 ?side4 A11.out).mono ?_); (case side1 => repeat (first | exact (Kd.R_reads' HO593.out).2.2 | (with_reducible refine Kd.C_alloc ?_ _) | (with_reducible refine Kd.C_drewN ?_ _) | (with_reducible refine Kd.C_drew ?_))); (case side2 => exact (Kd.R_reads' HO593.out).2.1); (case side3 => repeat (first | exact (Kd.R_reads' HO582.out).2.2 | (with_reducible refine Kd.C_alloc ?_ _) | (with_reducible refine Kd.C_drewN ?_ _) | (with_reducible refine Kd.C_drew ?_))); (case side4 => exact (Kd.R_reads' HO582.out).2.1); rintro e w' ⟨rfl, ⟨nd, rfl⟩⟩; refine ⟨_, rfl, ?_⟩))
    (try (rw [drewN_self w102]; generalize hq_ : World.drewN w102 _ = w102; have n0_ : Aside0 (Kd.R (Kd.int .i64) 2 w102 w.heap.size (fun k_ => some k_ ≠ (.slice Ao104 t580.length co104 : Value).ownBlock ∧ some k_ ≠ (.slice Ao98 t583.length co98 : Value).ownBlock ∧ some k_ ≠ (.slice Ao103 t591.length co103 : Value).ownBlock) (.slice Ao92 t573.length co92) t573) := ⟨by rw [← hq_]; exact (by (with_reducible repeat (first | apply Kd.R_alloc | apply Kd.R_drewN | apply Kd.R_drew)); exact Kd.R_mono HO575.out (fun _ hk => ⟨hk.1.1.2, ⟨hk.1.2, hk.2⟩⟩))⟩; have n1_ : Aside0 (Kd.R k80 80 w102 w.heap.size (fun k_ => some k_ ≠ (.slice Ao92 t573.length co92 : Value).ownBlock ∧ some k_ ≠ (.slice Ao104 t580.length co104 : Value).ownBlock ∧ some k_ ≠ (.slice Ao98 t583.length co98 : Value).ownBlock ∧ some k_ ≠ (.slice Ao101 t587.length co101 : Value).ownBlock ∧ some k_ ≠ (.slice Ao103 t591.length co103 : Value).ownBlock) (.slice Ao93 t577.length co93) t577) := ⟨by rw [← hq_]; exact (by (with_reducible repeat (first | apply Kd.R_alloc | apply Kd.R_drewN | apply Kd.R_drew)); exact Kd.R_mono HO579.out (fun _ hk => ⟨hk.1.1.1.1, ⟨hk.1.1.1.2, ⟨hk.1.1.2, ⟨hk.1.2, hk.2⟩⟩⟩⟩))⟩; have n2_ : Aside0 (Kd.R (Kd.int .i64) 2 w102 w.heap.size (fun k_ => some k_ ≠ (.slice Ao92 t573.length co92 : Value).ownBlock ∧ some k_ ≠ (.slice Ao98 t583.length co98 : Value).ownBlock ∧ some k_ ≠ (.slice Ao103 t591.length co103 : Value).ownBlock) (.slice Ao104 t580.length co104) t580) := ⟨by rw [← hq_]; exact (by (with_reducible repeat (first | apply Kd.R_alloc | apply Kd.R_drewN | apply Kd.R_drew)); exact Kd.R_mono HO582.out (fun _ hk => ⟨hk.1.1.2, ⟨hk.1.2, hk.2⟩⟩))⟩; have n3_ : Aside0 (Kd.R (Kd.int .i64) 2 w102 w.heap.size (fun k_ => some k_ ≠ (.slice Ao92 t573.length co92 : Value).ownBlock ∧ some k_ ≠ (.slice Ao104 t580.length co104 : Value).ownBlock ∧ some k_ ≠ (.slice Ao103 t591.length co103 : Value).ownBlock) (.slice Ao98 t583.length co98) t583) := ⟨by rw [← hq_]; exact (by (with_reducible repeat (first | apply Kd.R_alloc | apply Kd.R_drewN | apply Kd.R_drew)); exact Kd.R_mono HO585.out (fun _ hk => ⟨hk.1.1.2, ⟨hk.1.2, hk.2⟩⟩))⟩; have n4_ : Aside0 (Kd.R k80 80 w102 w.heap.size (fun k_ => some k_ ≠ (.slice Ao92 t573.length co92 : Value).ownBlock ∧ some k_ ≠ (.slice Ao93 t577.length co93 : Value).ownBlock ∧ some k_ ≠ (.slice Ao104 t580.length co104 : Value).ownBlock ∧ some k_ ≠ (.slice Ao98 t583.length co98 : Value).ownBlock ∧ some k_ ≠ (.slice Ao103 t591.length co103 : Value).ownBlock) (.slice Ao101 t587.length co101) t587) := ⟨by rw [← hq_]; exact (by (with_reducible repeat (first | apply Kd.R_alloc | apply Kd.R_drewN | apply Kd.R_drew)); exact Kd.R_mono HO589.out (fun _ hk => ⟨hk.1.1.1.2, ⟨hk.1.1.2, ⟨hk.1.2, ⟨hk.1.1.1.1, hk.2⟩⟩⟩⟩))⟩; have n5_ : Aside0 (Kd.R (Kd.int .i64) 2 w102 w.heap.size (fun k_ => some k_ ≠ (.slice Ao92 t573.length co92 : Value).ownBlock ∧ some k_ ≠ (.slice Ao104 t580.length co104 : Value).ownBlock ∧ some k_ ≠ (.slice Ao98 t583.length co98 : Value).ownBlock) (.slice Ao103 t591.length co103) t591) := ⟨by rw [← hq_]; exact (by (with_reducible repeat (first | apply Kd.R_alloc | apply Kd.R_drewN | apply Kd.R_drew)); exact Kd.R_mono HO593.out (fun _ hk => ⟨hk.1.1.2, ⟨hk.1.2, hk.2⟩⟩))⟩; have n6_ : Aside0 (w102.heap[gb571]? = some (.cells #[.slice A0_0 l0_0.length c0_0, .int .i64 a0_1, .slice A0_2 l0_2.length c0_2] 25 (0, 0))) := ⟨by rw [← hq_]; exact bK571_⟩; have n7_ : Aside0 (w102.heap[gb590]? = some (.cells #[.slice Ao98 t583.length co98, .int .i64 t586, .slice Ao101 t587.length co101] 30 (0, 0))) := ⟨by rw [← hq_]; exact bK590_⟩; have n8_ : Aside0 (Below w.heap.size w w102) := ⟨by rw [← hq_]; exact hS_⟩; clear HO575 HO579 HO582 HO585 HO589 HO593 BK571 BK590 HB hq_; have HO575 := n0_; have HO579 := n1_; have HO582 := n2_; have HO585 := n3_; have HO589 := n4_; have HO593 := n5_; have BK571 := n6_; have BK590 := n7_; have HB := n8_; clear n0_ n1_ n2_ n3_ n4_ n5_ n6_ n7_ n8_))
    have n0_ := Aside0.mk (Kd.R_drew HO575.out)
    have n1_ := Aside0.mk (Kd.R_drew HO579.out)
    have n2_ := Aside0.mk (Kd.R_drew HO582.out)
    have n3_ := Aside0.mk (Kd.R_drew HO585.out)
    have n4_ := Aside0.mk (Kd.R_drew HO589.out)
    have n5_ := Aside0.mk (Kd.R_drew HO593.out)
    have n6_ := Aside0.mk (blk_drew BK571.out)
    have n7_ := Aside0.mk (blk_drew BK590.out)
    have n8_ := Aside0.mk (below_drew1 HB.out)
    clear HO575
    clear HO579
    clear HO582
    clear HO585
    clear HO589
    clear HO593
    clear BK571
    clear BK590
    clear HB
    have HO575 := n0_
    have HO579 := n1_
    have HO582 := n2_
    have HO585 := n3_
    have HO589 := n4_
    have HO593 := n5_
    have BK571 := n6_
    have BK590 := n7_
    have HB := n8_
    clear n0_ n1_ n2_ n3_ n4_ n5_ n6_ n7_ n8_
    refine start_ (n := 5) (S := fun w' => w'.cell? ⟨gb590, 0, none⟩ = some (.slice Ao98 t583.length co98) ∧ w'.cell? ⟨gb590, 1, none⟩ = some (.int .i64 t586) ∧ w'.cell? ⟨gb590, 2, none⟩ = some (.slice Ao101 t587.length co101) ∧ w'.cell? ⟨gb571, 0, none⟩ = some (.slice A0_0 l0_0.length c0_0) ∧ w'.cell? ⟨gb571, 1, none⟩ = some (.int .i64 a0_1) ∧ w'.cell? ⟨gb571, 2, none⟩ = some (.slice A0_2 l0_2.length c0_2)) (ds := []) #[false, false, false, false, false] (by kernel_rfl) rfl rfl ⟨(blk_cell BK590.out 0).trans rfl, (blk_cell BK590.out 1).trans rfl, (blk_cell BK590.out 2).trans rfl, (blk_cell BK571.out 0).trans rfl, (blk_cell BK571.out 1).trans rfl, (blk_cell BK571.out 2).trans rfl⟩ (fun hHeld => ?_)
    generalize w102.drew = w105 at HO575 HO579 HO582 HO585 HO589 HO593 BK571 BK590 HB hHeld ⊢
    refine take_ (i := 0) (N := some 27) (v := ?_) (a' := ?_) #[true, false, false, false, false] rfl rfl (by kernel_rfl) (fun _ _ _ h => h) (Or.inl ⟨by rfl, ?_⟩) hHeld ?_ ?_
    rotate_left
    ·rintro w' ⟨s0, s1, s2, s3, s4, s5⟩
     go_simp
     with_reducible rfl
    rotate_left
    ·simp only [Act.put, List.setIfInBounds_toArray, List.set_cons_zero, List.set_cons_succ, i64_w, i32_w]
     rfl
    refine take_ (i := 1) (N := some 28) (v := ?_) (a' := ?_) #[true, true, false, false, false] rfl rfl (by kernel_rfl) (fun _ _ _ h => h) (Or.inl ⟨by rfl, ?_⟩) hHeld ?_ ?_
    rotate_left
    ·rintro w' ⟨s0, s1, s2, s3, s4, s5⟩
     go_simp
     with_reducible rfl
    rotate_left
    ·simp only [Act.put, List.setIfInBounds_toArray, List.set_cons_zero, List.set_cons_succ, i64_w, i32_w]
     rfl
    refine one_ (i := 2) (N := some 29) #[true, true, true, false, false] rfl rfl (by kernel_rfl) (by decide) (fun K hK => ?_)
    refine goes_ Try.func9 (by kernel_rfl) rfl #[.agg #[.slice A0_0 l0_0.length c0_0, .int .i64 a0_1, .slice A0_2 l0_2.length c0_2]] (by rfl) rfl rfl (by (try simp only [List.map_toArray, List.map_cons, List.map_nil]); first | done | rfl | (simp only [List.length_drop, List.length_take]; rfl)) ?_
    with_reducible refine (laws_toFunc.calls k _ _ l0_0 a0_1 _ _ l0_2 t595 t598 t599 _ ?side1 ?side2 ?side3 ?side4 A13.out).mono ?_
    (case side1 => repeat (first | exact (Kd.C_below HR0_0.out HB.out) | (with_reducible refine Kd.C_alloc ?_ _) | (with_reducible refine Kd.C_drewN ?_ _) | (with_reducible refine Kd.C_drew ?_)))
    (case side2 => exact HC0_0.out)
    (case side3 => repeat (first | exact (Kd.C_below HR0_2.out HB.out) | (with_reducible refine Kd.C_alloc ?_ _) | (with_reducible refine Kd.C_drewN ?_ _) | (with_reducible refine Kd.C_drew ?_)))
    (case side4 => exact HC0_2.out)
    rintro e w106 ⟨v596, v600, rfl, ho0, ho1, hb⟩
    refine ⟨_, rfl, ?_⟩
    have n0_ := Aside0.mk (Kd.R_elder' rHO575_ (Kd.R_base ho0) hb)
    have n1_ := Aside0.mk (Kd.R_mono (Kd.R_told (Kd.R_told (Kd.R_old rHO579_ hb) (Kd.R_base ho0)) (Kd.R_base ho1)) (fun _ h_ => h_.1))
    have n2_ := Aside0.mk (Kd.R_elder' rHO582_ (Kd.R_base ho0) hb)
    have n3_ := Aside0.mk (Kd.R_elder' rHO585_ (Kd.R_base ho0) hb)
    have n4_ := Aside0.mk (Kd.R_mono (Kd.R_told (Kd.R_told (Kd.R_old rHO589_ hb) (Kd.R_base ho0)) (Kd.R_base ho1)) (fun _ h_ => h_.1))
    have n5_ := Aside0.mk (Kd.R_elder' rHO593_ (Kd.R_base ho0) hb)
    have n6_ := Aside0.mk (Kd.R_lower (Kd.R_new' (Kd.R_new' (Kd.R_new' (Kd.R_new' ho0 (Kd.R_lt rHO575_)) (Kd.R_lt rHO582_)) (Kd.R_lt rHO585_)) (Kd.R_lt rHO593_)) (below_size hS_))
    have n7_ := Aside0.mk (Kd.R_lower (Kd.R_new' (Kd.R_new' (Kd.R_new' (Kd.R_new' (Kd.R_new' (Kd.R_new' ho1 (Kd.R_lt rHO575_)) (Kd.R_lt rHO579_)) (Kd.R_lt rHO582_)) (Kd.R_lt rHO585_)) (Kd.R_lt rHO589_)) (Kd.R_lt rHO593_)) (below_size hS_))
    have n8_ := Aside0.mk (blk_below (g := gb571) (o := .cells #[.slice A0_0 l0_0.length c0_0, .int .i64 a0_1, .slice A0_2 l0_2.length c0_2] 25 (0, 0)) bK571_ hb)
    have n9_ := Aside0.mk (blk_below (g := gb590) (o := .cells #[.slice Ao98 t583.length co98, .int .i64 t586, .slice Ao101 t587.length co101] 30 (0, 0)) bK590_ hb)
    have n10_ := Aside0.mk (below_step hS_ hb)
    clear HO575
    clear HO579
    clear HO582
    clear HO585
    clear HO589
    clear HO593
    clear BK571
    clear BK590
    clear HB
    have HO575 := n0_
    have HO579 := n1_
    have HO582 := n2_
    have HO585 := n3_
    have HO589 := n4_
    have HO593 := n5_
    have HO597 := n6_
    have HO601 := n7_
    have BK571 := n8_
    have BK590 := n9_
    have HB := n10_
    clear n0_ n1_ n2_ n3_ n4_ n5_ n6_ n7_ n8_ n9_ n10_
    (try clear hb)
    (try clear hb2)
    (try clear hk)
    (try clear hi)
    (try clear ho0)
    (try clear ho1)
    obtain ⟨Ao107, co107, eo107⟩ := Kd.R_slice HO597.out
    (first | subst eo107 | (injection eo107 with f1_ f2_ f3_; have f4_ := f1_.symm; have f5_ := f3_.symm; clear f1_ f2_ f3_; subst f4_; subst f5_))
    obtain ⟨Ao108, co108, eo108⟩ := Kd.R_slice HO601.out
    (first | subst eo108 | (injection eo108 with f1_ f2_ f3_; have f4_ := f1_.symm; have f5_ := f3_.symm; clear f1_ f2_ f3_; subst f4_; subst f5_))
    refine hK.out _ _ ⟨(blk_cell BK590.out 0).trans rfl, (blk_cell BK590.out 1).trans rfl, (blk_cell BK590.out 2).trans rfl, (blk_cell BK571.out 0).trans rfl, (blk_cell BK571.out 1).trans rfl, (blk_cell BK571.out 2).trans rfl⟩ (fun hHeld => ?_)
    clear hK K
    refine norm_ (a' := ?_) ?_ ?_
    rotate_left
    ·show Act.put _ (some 29) _ = _
     simp only [Act.put, List.setIfInBounds_toArray, List.set_cons_zero, List.set_cons_succ, i64_w, i32_w]
     rfl
    refine one_ (i := 3) (N := some 30) #[true, true, true, true, false] rfl rfl (by kernel_rfl) (by decide) (fun K hK => ?_)
    refine goes_ Try.func12 (by kernel_rfl) rfl #[.agg #[.slice Ao98 t583.length co98, .int .i64 t586, .slice Ao101 t587.length co101], .agg #[.slice Ao107 t595.length co107, .int .i64 t598, .slice Ao108 t599.length co108]] (by rfl) rfl rfl (by (try simp only [List.map_toArray, List.map_cons, List.map_nil]); first | done | rfl | (simp only [List.length_drop, List.length_take]; rfl)) ?_
    with_reducible refine (laws_eqFunc.calls k _ _ t583 t586 _ _ t587 _ _ t595 t598 _ _ t599 false _ ?side1 ?side2 ?side3 ?side4 ?side5 ?side6 ?side7 ?side8 A14.out).mono ?_
    (case side1 => repeat (first | exact (Kd.R_reads' HO585.out).2.2 | (with_reducible refine Kd.C_alloc ?_ _) | (with_reducible refine Kd.C_drewN ?_ _) | (with_reducible refine Kd.C_drew ?_)))
    (case side2 => exact (Kd.R_reads' HO585.out).2.1)
    (case side3 => repeat (first | exact (Kd.R_reads' HO589.out).2.2 | (with_reducible refine Kd.C_alloc ?_ _) | (with_reducible refine Kd.C_drewN ?_ _) | (with_reducible refine Kd.C_drew ?_)))
    (case side4 => exact (Kd.R_reads' HO589.out).2.1)
    (case side5 => repeat (first | exact (Kd.R_reads' HO597.out).2.2 | (with_reducible refine Kd.C_alloc ?_ _) | (with_reducible refine Kd.C_drewN ?_ _) | (with_reducible refine Kd.C_drew ?_)))
    (case side6 => exact (Kd.R_reads' HO597.out).2.1)
    (case side7 => repeat (first | exact (Kd.R_reads' HO601.out).2.2 | (with_reducible refine Kd.C_alloc ?_ _) | (with_reducible refine Kd.C_drewN ?_ _) | (with_reducible refine Kd.C_drew ?_)))
    (case side8 => exact (Kd.R_reads' HO601.out).2.1)
    rintro e w109 ⟨rfl, hb⟩
    refine ⟨_, rfl, ?_⟩
    have n0_ := Aside0.mk (Kd.R_below rHO575_ hb)
    have n1_ := Aside0.mk (Kd.R_below rHO579_ hb)
    have n2_ := Aside0.mk (Kd.R_below rHO582_ hb)
    have n3_ := Aside0.mk (Kd.R_below rHO585_ hb)
    have n4_ := Aside0.mk (Kd.R_below rHO589_ hb)
    have n5_ := Aside0.mk (Kd.R_below rHO593_ hb)
    have n6_ := Aside0.mk (Kd.R_below rHO597_ hb)
    have n7_ := Aside0.mk (Kd.R_below rHO601_ hb)
    have n8_ := Aside0.mk (blk_below (g := gb571) (o := .cells #[.slice A0_0 l0_0.length c0_0, .int .i64 a0_1, .slice A0_2 l0_2.length c0_2] 25 (0, 0)) bK571_ hb)
    have n9_ := Aside0.mk (blk_below (g := gb590) (o := .cells #[.slice Ao98 t583.length co98, .int .i64 t586, .slice Ao101 t587.length co101] 30 (0, 0)) bK590_ hb)
    have n10_ := Aside0.mk (below_step hS_ hb)
    clear HO575
    clear HO579
    clear HO582
    clear HO585
    clear HO589
    clear HO593
    clear HO597
    clear HO601
    clear BK571
    clear BK590
    clear HB
    have HO575 := n0_
    have HO579 := n1_
    have HO582 := n2_
    have HO585 := n3_
    have HO589 := n4_
    have HO593 := n5_
    have HO597 := n6_
    have HO601 := n7_
    have BK571 := n8_
    have BK590 := n9_
    have HB := n10_
    clear n0_ n1_ n2_ n3_ n4_ n5_ n6_ n7_ n8_ n9_ n10_
    (try clear hb)
    (try clear hb2)
    (try clear hk)
    (try clear hi)
    refine hK.out _ _ ⟨(blk_cell BK590.out 0).trans rfl, (blk_cell BK590.out 1).trans rfl, (blk_cell BK590.out 2).trans rfl, (blk_cell BK571.out 0).trans rfl, (blk_cell BK571.out 1).trans rfl, (blk_cell BK571.out 2).trans rfl⟩ (fun hHeld => ?_)
    clear hK K
    refine norm_ (a' := ?_) ?_ ?_
    rotate_left
    ·show Act.put _ (some 30) _ = _
     simp only [Act.put, List.setIfInBounds_toArray, List.set_cons_zero, List.set_cons_succ, i64_w, i32_w]
     rfl
    refine pure_ (i := 4) (N := some 31) (v := ?_) (a' := ?_) #[true, true, true, true, true] rfl rfl (by kernel_rfl) (fun _ _ _ h => h) (Or.inl ⟨by rfl, ?_⟩) ?_ ?_
    rotate_left
    ·intro w'
     go_simp
     with_reducible rfl
    rotate_left
    ·simp only [Act.put, List.setIfInBounds_toArray, List.set_cons_zero, List.set_cons_succ, i64_w, i32_w]
     rfl
    refine done_ (by kernel_rfl) ?_
    try go_wp2
    go_ret
    exact ⟨rG_, hS_⟩
  ·replace c12 := Bool.eq_false_iff.mpr c12
   subst c12
   have H1 := (if_neg (show ¬ (false = true) by decide)).symm.trans H
   clear H
   have H := H1
   clear H1
   obtain rfl := Option.some.inj H
   go_enter Try.func5, Try.ntmps5
   go_wp2_with (first | ((with_reducible refine gate_dst (N := 1) rfl ?_); refine box_event ?hg (N := 1) ?hd (cs := #[.slice A0_0 l0_0.length c0_0, .int .i64 a0_1, .slice A0_2 l0_2.length c0_2]) (t := 25) ?hr ?_; (case hd => rfl); (case hg => rfl); (case hr => first | (go_simp; done) | (go_simp; rfl)); intro gb571 hg w110 hbox hb; have n0_ := Aside0.mk (below_step hB_ hb); have n1_ := Aside0.mk (hbox); have n2_ := Aside0.mk ((by rw [hg]; exact (below_size hB_) : w.heap.size ≤ gb571)); have n3_ := Aside0.mk ((by rw [hg]; exact (below_size hB_) : w.heap.size ≤ gb571)); clear HB; have HB := n0_; have BK571 := n1_; have GW571 := n2_; have GE571 := n3_; clear n0_ n1_ n2_ n3_; clear hb hbox hg; obtain ⟨hcz111_0, hcz111_1, hcz111_2, hfz111_0, hfz111_1, hfz111_2⟩ := blkc3_ BK571.out) | ((with_reducible refine gate_callee (f := 7) rfl ?_); refine gL_ (some 13) Try.func7 #[.agg #[.slice A0_0 l0_0.length c0_0, .int .i64 a0_1, .slice A0_2 l0_2.length c0_2], .int .i64 1048576] ?_; (with_reducible refine (laws_szFunc.calls k _ _ l0_0 a0_1 _ _ l0_2 1048576 t572 _ ?side1 ?side2 ?side3 ?side4 A2.out).mono ?_); (case side1 => repeat (first | exact (Kd.C_below HR0_0.out HB.out) | (with_reducible refine Kd.C_alloc ?_ _) | (with_reducible refine Kd.C_drewN ?_ _) | (with_reducible refine Kd.C_drew ?_))); (case side2 => exact HC0_0.out); (case side3 => repeat (first | exact (Kd.C_below HR0_2.out HB.out) | (with_reducible refine Kd.C_alloc ?_ _) | (with_reducible refine Kd.C_drewN ?_ _) | (with_reducible refine Kd.C_drew ?_))); (case side4 => exact HC0_2.out); rintro e w112 ⟨rfl, hb⟩; refine ⟨_, rfl, ?_⟩; have n0_ := Aside0.mk (blk_below (g := gb571) (o := .cells #[.slice A0_0 l0_0.length c0_0, .int .i64 a0_1, .slice A0_2 l0_2.length c0_2] 25 (0, 0)) bK571_ hb); have n1_ := Aside0.mk (below_step hS_ hb); clear BK571; clear HB; have BK571 := n0_; have HB := n1_; clear n0_ n1_; (try clear hb); (try clear hb2); (try clear hk); (try clear hi); obtain ⟨hcz113_0, hcz113_1, hcz113_2, hfz113_0, hfz113_1, hfz113_2⟩ := blkc3_ BK571.out) | ((with_reducible refine gate_callee (f := 9) rfl ?_); refine gL_ (some 17) Try.func9 #[.agg #[.slice A0_0 l0_0.length c0_0, .int .i64 a0_1, .slice A0_2 l0_2.length c0_2]] ?_; (with_reducible refine (laws_toFunc.calls k _ _ l0_0 a0_1 _ _ l0_2 t573 t576 t577 _ ?side1 ?side2 ?side3 ?side4 A7.out).mono ?_); (case side1 => repeat (first | exact (Kd.C_below HR0_0.out HB.out) | (with_reducible refine Kd.C_alloc ?_ _) | (with_reducible refine Kd.C_drewN ?_ _) | (with_reducible refine Kd.C_drew ?_))); (case side2 => exact HC0_0.out); (case side3 => repeat (first | exact (Kd.C_below HR0_2.out HB.out) | (with_reducible refine Kd.C_alloc ?_ _) | (with_reducible refine Kd.C_drewN ?_ _) | (with_reducible refine Kd.C_drew ?_))); (case side4 => exact HC0_2.out); rintro e w114 ⟨v574, v578, rfl, ho0, ho1, hb⟩; refine ⟨_, rfl, ?_⟩; have n0_ := Aside0.mk (Kd.R_lower ho0 (below_size hS_)); have n1_ := Aside0.mk (Kd.R_lower ho1 (below_size hS_)); have n2_ := Aside0.mk (blk_below (g := gb571) (o := .cells #[.slice A0_0 l0_0.length c0_0, .int .i64 a0_1, .slice A0_2 l0_2.length c0_2] 25 (0, 0)) bK571_ hb); have n3_ := Aside0.mk (below_step hS_ hb); clear BK571; clear HB; have HO575 := n0_; have HO579 := n1_; have BK571 := n2_; have HB := n3_; clear n0_ n1_ n2_ n3_; (try clear hb); (try clear hb2); (try clear hk); (try clear hi); (try clear ho0); (try clear ho1); obtain ⟨Ao115, co115, eo115⟩ := Kd.R_slice HO575.out; subst eo115; obtain ⟨Ao116, co116, eo116⟩ := Kd.R_slice HO579.out; subst eo116) | ((with_reducible refine gate_callee (f := 18) rfl ?_); refine gL_ (some 18) Try.func18 #[.agg #[.slice Ao115 t573.length co115, .int .i64 t576, .slice Ao116 t577.length co116]] ?_; (with_reducible refine (spec_Reached.calls k _ _ t573 t576 _ _ t577 t580 _ ?side1 ?side2 ?side3 ?side4 A8.out).mono ?_); (case side1 => repeat (first | exact (Kd.R_reads' HO575.out).2.2 | (with_reducible refine Kd.C_alloc ?_ _) | (with_reducible refine Kd.C_drewN ?_ _) | (with_reducible refine Kd.C_drew ?_))); (case side2 => exact (Kd.R_reads' HO575.out).2.1); (case side3 => repeat (first | exact (Kd.R_reads' HO579.out).2.2 | (with_reducible refine Kd.C_alloc ?_ _) | (with_reducible refine Kd.C_drewN ?_ _) | (with_reducible refine Kd.C_drew ?_))); (case side4 => exact (Kd.R_reads' HO579.out).2.1); rintro e w117 ⟨v581, rfl, ho0, hb⟩; refine ⟨_, rfl, ?_⟩; have n0_ := Aside0.mk (Kd.R_elder' rHO575_ (Kd.R_base ho0) hb); have n1_ := Aside0.mk (Kd.R_elder' rHO579_ (Kd.R_base ho0) hb); have n2_ := Aside0.mk (Kd.R_lower (Kd.R_new' ho0 (Kd.R_lt rHO575_)) (below_size hS_)); have n3_ := Aside0.mk (blk_below (g := gb571) (o := .cells #[.slice A0_0 l0_0.length c0_0, .int .i64 a0_1, .slice A0_2 l0_2.length c0_2] 25 (0, 0)) bK571_ hb); have n4_ := Aside0.mk (below_step hS_ hb); clear HO575; clear HO579; clear BK571; clear HB; have HO575 := n0_; have HO579 := n1_; have HO582 := n2_; have BK571 := n3_; have HB := n4_; clear n0_ n1_ n2_ n3_ n4_; (try clear hb); (try clear hb2); (try clear hk); (try clear hi); (try clear ho0); obtain ⟨hcz118_0, hcz118_1, hcz118_2, hfz118_0, hfz118_1, hfz118_2⟩ := blkc3_ BK571.out) | ((with_reducible refine gate_callee (f := 9) rfl ?_); refine gL_ (some 20) Try.func9 #[.agg #[.slice A0_0 l0_0.length c0_0, .int .i64 a0_1, .slice A0_2 l0_2.length c0_2]] ?_; (with_reducible refine (laws_toFunc.calls k _ _ l0_0 a0_1 _ _ l0_2 t583 t586 t587 _ ?side1 ?side2 ?side3 ?side4 A9.out).mono ?_); (case side1 => repeat (first | exact (Kd.C_below HR0_0.out HB.out) | (with_reducible refine Kd.C_alloc ?_ _) | (with_reducible refine Kd.C_drewN ?_ _) | (with_reducible refine Kd.C_drew ?_))); (case side2 => exact HC0_0.out); (case side3 => repeat (first | exact (Kd.C_below HR0_2.out HB.out) | (with_reducible refine Kd.C_alloc ?_ _) | (with_reducible refine Kd.C_drewN ?_ _) | (with_reducible refine Kd.C_drew ?_))); (case side4 => exact HC0_2.out); rintro e w119 ⟨v584, v588, rfl, ho0, ho1, hb⟩; refine ⟨_, rfl, ?_⟩; have n0_ := Aside0.mk (Kd.R_elder' rHO575_ (Kd.R_base ho0) hb); have n1_ := Aside0.mk (Kd.R_mono (Kd.R_told (Kd.R_told (Kd.R_old rHO579_ hb) (Kd.R_base ho0)) (Kd.R_base ho1)) (fun _ h_ => h_.1)); have n2_ := Aside0.mk (Kd.R_elder' rHO582_ (Kd.R_base ho0) hb); have n3_ := Aside0.mk (Kd.R_lower (Kd.R_new' (Kd.R_new' ho0 (Kd.R_lt rHO575_)) (Kd.R_lt rHO582_)) (below_size hS_)); have n4_ := Aside0.mk (Kd.R_lower (Kd.R_new' (Kd.R_new' (Kd.R_new' ho1 (Kd.R_lt rHO575_)) (Kd.R_lt rHO579_)) (Kd.R_lt rHO582_)) (below_size hS_)); have n5_ := Aside0.mk (blk_below (g := gb571) (o := .cells #[.slice A0_0 l0_0.length c0_0, .int .i64 a0_1, .slice A0_2 l0_2.length c0_2] 25 (0, 0)) bK571_ hb); have n6_ := Aside0.mk (below_step hS_ hb); clear HO575; clear HO579; clear HO582; clear BK571; clear HB; have HO575 := n0_; have HO579 := n1_; have HO582 := n2_; have HO585 := n3_; have HO589 := n4_; have BK571 := n5_; have HB := n6_; clear n0_ n1_ n2_ n3_ n4_ n5_ n6_; (try clear hb); (try clear hb2); (try clear hk); (try clear hi); (try clear ho0); (try clear ho1)) | ((with_reducible refine gate_dst (N := 5) rfl ?_); refine box_event ?hg (N := 5) ?hd (cs := #[.slice none 0 0, .int .i64 0, .slice none 0 0]) (t := 30) ?hr ?_; (case hd => rfl); (case hg => rfl); (case hr => first | (go_simp; done) | (go_simp; rfl)); intro gb590 hg w120 hbox hb; have n0_ := Aside0.mk (Kd.R_below rHO575_ hb); have n1_ := Aside0.mk (Kd.R_below rHO579_ hb); have n2_ := Aside0.mk (Kd.R_below rHO582_ hb); have n3_ := Aside0.mk (Kd.R_below rHO585_ hb); have n4_ := Aside0.mk (Kd.R_below rHO589_ hb); have n5_ := Aside0.mk (blk_below (g := gb571) (o := .cells #[.slice A0_0 l0_0.length c0_0, .int .i64 a0_1, .slice A0_2 l0_2.length c0_2] 25 (0, 0)) bK571_ hb); have n6_ := Aside0.mk (below_step hS_ hb); have n7_ := Aside0.mk (hbox); have n8_ := Aside0.mk ((by rw [hg]; exact (below_size hS_) : w.heap.size ≤ gb590)); have n9_ := Aside0.mk ((by rw [hg]; exact (below_size hS_) : w.heap.size ≤ gb590)); have n10_ := Aside0.mk ((by rw [hg]; exact Nat.ne_of_lt (blk_lt (g := gb571) (o := .cells #[.slice A0_0 l0_0.length c0_0, .int .i64 a0_1, .slice A0_2 l0_2.length c0_2] 25 (0, 0)) bK571_) : gb571 ≠ gb590)); have n11_ := Aside0.mk ((by rw [hg]; exact Nat.ne_of_gt (blk_lt (g := gb571) (o := .cells #[.slice A0_0 l0_0.length c0_0, .int .i64 a0_1, .slice A0_2 l0_2.length c0_2] 25 (0, 0)) bK571_) : gb590 ≠ gb571)); clear HO575; clear HO579; clear HO582; clear HO585; clear HO589; clear BK571; clear HB; have HO575 := n0_; have HO579 := n1_; have HO582 := n2_; have HO585 := n3_; have HO589 := n4_; have BK571 := n5_; have HB := n6_; have BK590 := n7_; have GW590 := n8_; have GE590 := n9_; have NB571_590 := n10_; have NB590_571 := n11_; clear n0_ n1_ n2_ n3_ n4_ n5_ n6_ n7_ n8_ n9_ n10_ n11_; clear hb hbox hg; obtain ⟨Ao121, co121, eo121⟩ := Kd.R_slice HO585.out; subst eo121; have hnb122 := NB590_571.out; have hnc122 := NB571_590.out; obtain ⟨hcz123_0, hcz123_1, hcz123_2, hfz123_0, hfz123_1, hfz123_2⟩ := blkc3_ BK590.out; obtain ⟨Ao124, co124, eo124⟩ := Kd.R_slice HO589.out; subst eo124) | ((with_reducible refine gate_callee (f := 19) rfl ?_); refine gL_ (some 22) Try.func19 #[.agg #[.slice Ao121 t583.length co121, .int .i64 t586, .slice Ao124 t587.length co124]] ?_; (with_reducible refine (impl_Reached.calls k _ _ t583 t586 _ _ t587 t591 _ ?side1 ?side2 ?side3 ?side4 A10.out).mono ?_); (case side1 => refine (Kd.R_reads' (e := 2) (base := w.heap.size) (ok := fun k_ => ((True ∧ some k_ ≠ (.slice Ao115 t573.length co115 : Value).ownBlock) ∧ some k_ ≠ (v581 : Value).ownBlock)) (n := t583.length) (c := co121) ?_).2.2; exact (by (with_reducible repeat (first | apply Kd.R_alloc | apply Kd.R_drewN | apply Kd.R_drew)); exact (rf3_ HO585.out BK590.out (by decide) (.slice Ao121 t583.length co121) (.int .i64 t586) (.slice Ao124 t587.length co124)))); (case side2 => exact (Kd.R_reads' HO585.out).2.1); (case side3 => refine (Kd.R_reads' (e := 80) (base := w.heap.size) (ok := fun k_ => (((some k_ ≠ (.slice Ao121 t583.length co121 : Value).ownBlock ∧ some k_ ≠ (.slice Ao115 t573.length co115 : Value).ownBlock) ∧ some k_ ≠ (.slice Ao116 t577.length co116 : Value).ownBlock) ∧ some k_ ≠ (v581 : Value).ownBlock)) (n := t587.length) (c := co124) ?_).2.2; exact (by (with_reducible repeat (first | apply Kd.R_alloc | apply Kd.R_drewN | apply Kd.R_drew)); exact (rf3_ HO589.out BK590.out (by decide) (.slice Ao121 t583.length co121) (.int .i64 t586) (.slice Ao124 t587.length co124)))); (case side4 => exact (Kd.R_reads' HO589.out).2.1); rintro e w125 ⟨v592, rfl, ho0, hb⟩; refine ⟨_, rfl, ?_⟩; have n0_ := Aside0.mk (Kd.R_elder' (by (with_reducible repeat (first | apply Kd.R_alloc | apply Kd.R_drewN | apply Kd.R_drew)); exact (rf3_ HO575.out BK590.out (by decide) (.slice Ao121 t583.length co121) (.int .i64 t586) (.slice Ao124 t587.length co124))) (Kd.R_base ho0) hb); have n1_ := Aside0.mk (Kd.R_elder' (by (with_reducible repeat (first | apply Kd.R_alloc | apply Kd.R_drewN | apply Kd.R_drew)); exact (rf3_ HO579.out BK590.out (by decide) (.slice Ao121 t583.length co121) (.int .i64 t586) (.slice Ao124 t587.length co124))) (Kd.R_base ho0) hb); have n2_ := Aside0.mk (Kd.R_elder' (by (with_reducible repeat (first | apply Kd.R_alloc | apply Kd.R_drewN | apply Kd.R_drew)); exact (rf3_ HO582.out BK590.out (by decide) (.slice Ao121 t583.length co121) (.int .i64 t586) (.slice Ao124 t587.length co124))) (Kd.R_base ho0) hb); have n3_ := Aside0.mk (Kd.R_elder' (by (with_reducible repeat (first | apply Kd.R_alloc | apply Kd.R_drewN | apply Kd.R_drew)); exact (rf3_ HO585.out BK590.out (by decide) (.slice Ao121 t583.length co121) (.int .i64 t586) (.slice Ao124 t587.length co124))) (Kd.R_base ho0) hb); have n4_ := Aside0.mk (Kd.R_elder' (by (with_reducible repeat (first | apply Kd.R_alloc | apply Kd.R_drewN | apply Kd.R_drew)); exact (rf3_ HO589.out BK590.out (by decide) (.slice Ao121 t583.length co121) (.int .i64 t586) (.slice Ao124 t587.length co124))) (Kd.R_base ho0) hb); have n5_ := Aside0.mk (Kd.R_lower (Kd.R_new' (Kd.R_new' (Kd.R_new' ho0 (Kd.R_lt (by (with_reducible repeat (first | apply Kd.R_alloc | apply Kd.R_drewN | apply Kd.R_drew)); exact (rf3_ HO575.out BK590.out (by decide) (.slice Ao121 t583.length co121) (.int .i64 t586) (.slice Ao124 t587.length co124))))) (Kd.R_lt (by (with_reducible repeat (first | apply Kd.R_alloc | apply Kd.R_drewN | apply Kd.R_drew)); exact (rf3_ HO582.out BK590.out (by decide) (.slice Ao121 t583.length co121) (.int .i64 t586) (.slice Ao124 t587.length co124))))) (Kd.R_lt (by (with_reducible repeat (first | apply Kd.R_alloc | apply Kd.R_drewN | apply Kd.R_drew)); exact (rf3_ HO585.out BK590.out (by decide) (.slice Ao121 t583.length co121) (.int .i64 t586) (.slice Ao124 t587.length co124))))) (below_size hS_)); have n6_ := Aside0.mk (blk_below (g := gb571) (o := .cells #[.slice A0_0 l0_0.length c0_0, .int .i64 a0_1, .slice A0_2 l0_2.length c0_2] 25 (0, 0)) fK571_ hb); have n7_ := Aside0.mk (blk_below (g := gb590) (o := .cells #[.slice Ao121 t583.length co121, .int .i64 t586, .slice Ao124 t587.length co124] 30 (0, 0)) (by (with_reducible repeat (first | refine blk_drewN ?_ _ | refine blk_drew ?_ | refine blk_alloc ?_ _)); refine blk_put (cs := #[.slice Ao121 t583.length co121, .int .i64 t586, .slice none 0 0]) ?_ 2 _ rfl; (with_reducible repeat (first | refine blk_drewN ?_ _ | refine blk_drew ?_ | refine blk_alloc ?_ _)); refine blk_put (cs := #[.slice Ao121 t583.length co121, .int .i64 0, .slice none 0 0]) ?_ 1 _ rfl; (with_reducible repeat (first | refine blk_drewN ?_ _ | refine blk_drew ?_ | refine blk_alloc ?_ _)); refine blk_put (cs := #[.slice none 0 0, .int .i64 0, .slice none 0 0]) ?_ 0 _ rfl; (with_reducible repeat (first | refine blk_drewN ?_ _ | refine blk_drew ?_ | refine blk_alloc ?_ _)); exact BK590.out) hb); have n8_ := Aside0.mk (below_step hS_ hb); clear HO575; clear HO579; clear HO582; clear HO585; clear HO589; clear BK571; clear BK590; clear HB; have HO575 := n0_; have HO579 := n1_; have HO582 := n2_; have HO585 := n3_; have HO589 := n4_; have HO593 := n5_; have BK571 := n6_; have BK590 := n7_; have HB := n8_; clear n0_ n1_ n2_ n3_ n4_ n5_ n6_ n7_ n8_; (try clear hb); (try clear hb2); (try clear hk); (try clear hi); (try clear ho0); obtain ⟨Ao126, co126, eo126⟩ := Kd.R_slice HO593.out; subst eo126; obtain ⟨Ao127, co127, eo127⟩ := Kd.R_slice HO582.out; subst eo127) | ((with_reducible refine gate_callee (f := 11) rfl ?_); refine gL_ (some 25) Try.func11 #[.slice Ao126 t591.length co126, .slice Ao127 t580.length co127] ?_; (with_reducible refine (laws_eqInt64S.calls k _ _ t591 _ _ t580 false _ ?side1 ?side2 ?side3 ?side4 A11.out).mono ?_); (case side1 => repeat (first | exact (Kd.R_reads' HO593.out).2.2 | (with_reducible refine Kd.C_alloc ?_ _) | (with_reducible refine Kd.C_drewN ?_ _) | (with_reducible refine Kd.C_drew ?_))); (case side2 => exact (Kd.R_reads' HO593.out).2.1); (case side3 => repeat (first | exact (Kd.R_reads' HO582.out).2.2 | (with_reducible refine Kd.C_alloc ?_ _) | (with_reducible refine Kd.C_drewN ?_ _) | (with_reducible refine Kd.C_drew ?_))); (case side4 => exact (Kd.R_reads' HO582.out).2.1); rintro e w' ⟨rfl, ⟨nd, rfl⟩⟩; refine ⟨_, rfl, ?_⟩))
   go_ret
   exact ⟨rG_, hS_⟩

end Go.Proofs.Ytobfgnjdcoidoaa.X
namespace Go.Proofs.Ytobfgnjdcoidoaa.X
open Go.RowKit Go.Proofs.YtobfgnjdcoidoaaW.PrintWords Go.Proofs.YtobfgnjdcoidoaaW.PrintLast Go.Proofs.YtobfgnjdcoidoaaW.PrintMore
/-- What is known of a number that was read: it is of its kind. -/
def wfInt (k : IntKind) (n : Int) : Prop := (Lit.int k n).wf = true
def wfStr (s : ByteArray) : Prop := s.size ≤ 9223372036854775807
/-- .. of a list: its length fits, and so of each element. -/
def wfList {α : Type} (Wf : α → Prop) (l : List α) : Prop := l.length ≤ 9223372036854775807 ∧ ∀ x ∈ l, Wf x
def wf121 (x : S121) : Prop := (wfInt .i64) x.f0 ∧ (wfList (wfInt .i64)) x.f1
def wf123 (x : S123) : Prop := (wfInt .i64) x.f0 ∧ (wfInt .i64) x.f1 ∧ (wfInt .i64) x.f2 ∧ (wfInt .i64) x.f3 ∧ (wfInt .i64) x.f4 ∧ (wfInt .i64) x.f5 ∧ (wfList (wfInt .i64)) x.f6
def wf72 (x : S72) : Prop := (wfInt .i64) x.f0 ∧ (wfInt .i64) x.f1 ∧ (wfInt .i64) x.f2 ∧ (wfInt .i64) x.f3
def wf74 (x : S74) : Prop := (wfList wf121) x.f0 ∧ (wfList wf123) x.f1 ∧ wf72 x.f2
def wf25 (x : S25) : Prop := (wfList (wfInt .i64)) x.f0 ∧ (wfInt .i64) x.f1 ∧ (wfList wf74) x.f2
end Go.Proofs.Ytobfgnjdcoidoaa.X
namespace Go.Proofs.Ytobfgnjdcoidoaa.X
open Go.RowKit Go.Proofs.YtobfgnjdcoidoaaW.PrintWords Go.Proofs.YtobfgnjdcoidoaaW.PrintLast Go.Proofs.YtobfgnjdcoidoaaW.PrintMore
set_option linter.unusedVariables false
open Go.Deep
/-- What can be read as data of type t stands as d tells it. -/
def Opens {α : Type} (P : Program) (d : Kd α) (t : TypeId) (Wf : α → Prop) : Prop :=
  ∀ {H : Type} (enc : TypeId × Value → H) (w : World) (base : Nat) (spare : Nat → Bool) (held : Bool) (fuel : Nat) (cs : List Value) (x : DataW H × List MemPlace), DataW.trod enc P w base spare held fuel t cs = some x → ∃ a, d.K w a cs ∧ Wf a
theorem opens_int {P : Program} {t : TypeId} {k : IntKind} (hu : P.underlying t = some (.int k)) : Opens P (Kd.int k) t (wfInt k) := by
  intro H enc w base spare held fuel cs x h
  obtain ⟨n, rfl, -, hw⟩ := DataW.trod_int hu h
  exact ⟨n, rfl, hw⟩
theorem opens_bool {P : Program} {t : TypeId} (hu : P.underlying t = some .bool) : Opens P Kd.bool t (fun _ => True) := by
  intro H enc w base spare held fuel cs x h
  obtain ⟨n, rfl, -⟩ := DataW.trod_bool hu h
  exact ⟨n, rfl, trivial⟩
theorem opens_string {P : Program} {t : TypeId} (hu : P.underlying t = some .string) : Opens P Kd.string t wfStr := by
  intro H enc w base spare held fuel cs x h
  obtain ⟨n, rfl, -, hs⟩ := DataW.trod_string hu h
  unfold maxLen at hs
  exact ⟨n, rfl, by unfold wfStr; omega⟩
theorem opens_slice {α : Type} {P : Program} {d : Kd α} {Wf : α → Prop} {t e : TypeId} (hu : P.underlying t = some (.slice e)) (hc : P.cellsOf e = d.sz) (hd : Opens P d e Wf) : Opens P (Kd.slice e d) t (wfList Wf) := by
  intro H enc w base spare held fuel cs x h
  rcases open_slice hu h with ⟨rfl, -⟩ | ⟨a, len, cap, m, n, D, Pl, rfl, hb, hl, hm, hmm, -, hel⟩
  · exact ⟨[], ⟨none, 0, rfl, Nat.le_refl _, rfl, Nat.zero_le _, fun h => absurd h (Nat.lt_irrefl 0)⟩, Nat.zero_le _, fun _ h => by cases h⟩
  · have hlm : len ≤ m := by rw [hmm]; split <;> omega
    have hx : ∀ i, i < len → ∃ y, ∃ cs', w.cells? base (a.add (i * P.cellsOf e)) (P.cellsOf e) = some cs' ∧ d.K w y cs' ∧ Wf y := by
      intro i hi
      obtain ⟨cs', h1, h2⟩ := hel i (by omega)
      obtain ⟨y, hy⟩ := hd enc w base spare held n cs' _ h2
      exact ⟨y, cs', h1, hy⟩
    have hcell : ∀ i cs', w.cells? base (a.add (i * P.cellsOf e)) (P.cellsOf e) = some cs' → ∀ j u, cs'[j]? = some u → w.cell? (a.add (i * d.sz + j)) = some u := by
      intro i cs' h1 j u hj
      obtain ⟨-, hl', hc'⟩ := World.cells?_some h1
      have hjl : j < cs'.length := (List.getElem?_eq_some_iff.1 hj).1
      have := hc' j (by omega)
      rw [Deep.add_add, hc] at this
      rw [this]; exact hj
    by_cases h0 : len = 0
    · subst h0
      exact ⟨[], ⟨some a, cap, rfl, Nat.zero_le _, rfl, Nat.zero_le _, fun h => absurd h (Nat.lt_irrefl 0)⟩, Nat.zero_le _, fun _ h => by cases h⟩
    · obtain ⟨y0, -⟩ := hx 0 (by omega)
      haveI : Inhabited α := ⟨y0⟩
      obtain ⟨f, hf⟩ := choose_lt hx
      have hlen : ((List.range len).map f).length ≤ 9223372036854775807 := by
        have : cap ≤ maxLen := hm
        unfold maxLen at this
        simp; omega
      refine ⟨(List.range len).map f, ⟨some a, cap, by simp, by simpa using hl, ?_⟩, hlen, fun y hy => ?_⟩
      rotate_left
      · obtain ⟨i, hi, rfl⟩ := List.mem_map.1 hy
        obtain ⟨-, -, -, h3⟩ := hf i (by simpa using hi)
        exact h3
      refine ⟨by simp, hlen, fun _ => ⟨a, rfl, fun j p hp => ?_⟩⟩
      · have hj : j < len := by
          have := (List.getElem?_eq_some_iff.1 hp).1
          simpa using this
        have hp' : p = f j := by
          rw [List.getElem?_map, List.getElem?_range hj] at hp
          simpa using hp.symm
        subst hp'
        obtain ⟨cs', h1, h2, -⟩ := hf j hj
        exact ⟨cs', d.K_len h2, h2, fun i u hi => hcell j cs' h1 i u hi⟩
/-- Fields from place o on, the i-th of which was read as the i-th of xs. -/
def OpensFs {α : Type} (P : Program) (o : Nat) (fs : List Field) (d : Kd α) (Wf : α → Prop) : Prop :=
  ∀ {H : Type} (enc : TypeId × Value → H) (w : World) (base : Nat) (spare : Nat → Bool) (held : Bool) (fuel : Nat) (cs : List Value),
    (∀ f ∈ fs, ∃ x, DataW.trod enc P w base spare held fuel f.type ((cs.drop f.offset).take (P.cellsOf f.type)) = some x) → cs.length = o + d.sz → ∃ a, d.K w a (cs.drop o) ∧ Wf a
theorem opensFs_one {α : Type} {P : Program} {o : Nat} {f : Field} {d : Kd α} {Wf : α → Prop} (ho : f.offset = o) (hc : P.cellsOf f.type = d.sz) (hd : Opens P d f.type Wf) : OpensFs P o [f] d Wf := by
  intro H enc w base spare held fuel cs h hl
  obtain ⟨x, hx⟩ := h f (by simp)
  obtain ⟨a, ha, hw⟩ := hd enc w base spare held fuel _ _ hx
  refine ⟨a, ?_, hw⟩
  rw [ho, hc, List.take_of_length_le (by rw [List.length_drop]; omega)] at ha
  exact ha
theorem opensFs_cons {α β : Type} {P : Program} {o : Nat} {f : Field} {fs : List Field} {d : Kd α} {d2 : Kd β} {Wf : α → Prop} {Wf2 : β → Prop} (ho : f.offset = o) (hc : P.cellsOf f.type = d.sz) (hd : Opens P d f.type Wf) (hs : OpensFs P (o + d.sz) fs d2 Wf2) : OpensFs P o (f :: fs) (Kd.pair d d2) (fun x => Wf x.1 ∧ Wf2 x.2) := by
  intro H enc w base spare held fuel cs h hl
  obtain ⟨x, hx⟩ := h f (by simp)
  obtain ⟨a, ha, hw⟩ := hd enc w base spare held fuel _ _ hx
  have hl' : cs.length = o + d.sz + d2.sz := by rw [hl]; show o + (d.sz + d2.sz) = _; omega
  obtain ⟨b, hb, hw2⟩ := hs enc w base spare held fuel cs (fun f hf => h f (by simp [hf])) hl'
  rw [ho, hc] at ha
  refine ⟨(a, b), ⟨_, _, ?_, ha, hb⟩, hw, hw2⟩
  rw [← List.drop_drop, List.take_append_drop]
theorem opens_struct {α β : Type} {P : Program} {t : TypeId} {fs : Array Field} {d : Kd α} {f : β → α} (g : α → β) (hg : ∀ a, f (g a) = a) (hu : P.underlying t = some (.struct fs)) (hc : P.cellsOf t = d.sz) {Wf : α → Prop} (hd : OpensFs P 0 fs.toList d Wf) : Opens P (Kd.iso d f) t (fun x => Wf (f x)) := by
  intro H enc w base spare held fuel cs x h
  obtain ⟨xs, n, -, -, hl, hxs, hf⟩ := DataW.trod_struct hu h
  obtain ⟨a, ha, hw⟩ := hd enc w base spare held n cs (fun f hm => by
    obtain ⟨i, hi, rfl⟩ := List.getElem_of_mem hm
    have hi' : i < fs.size := by simpa using hi
    have := hf i fs[i] (by simp [hi'])
    rw [List.getElem?_eq_getElem (by omega)] at this
    exact ⟨_, by simpa using this⟩) (by rw [hl, hc, Nat.zero_add])
  exact ⟨g a, by show d.K w (f (g a)) cs; rw [hg]; simpa using ha, by show Wf (f (g a)); rw [hg]; exact hw⟩
/-- A value whose cells are not one is an aggregate of these. -/
theorem agg_of_cells {v : Value} (hn : v.cells.toList.length ≠ 1) : v = .agg v.cells.toList.toArray := by
  cases v <;> first | (exact absurd rfl hn) | (simp [Value.cells])

theorem opens121 : Opens Try.prog k121 121 wf121 :=
  opens_struct (fun (x : _) => (⟨x.1, x.2⟩ : S121)) (fun _ => rfl) Try.underlying121 (by kernel_rfl) (opensFs_cons rfl (by kernel_rfl) (opens_int Try.underlying2) (opensFs_one rfl (by kernel_rfl) (opens_slice Try.underlying22 (by kernel_rfl) (opens_int Try.underlying2))))
theorem opens123 : Opens Try.prog k123 123 wf123 :=
  opens_struct (fun (x : _) => (⟨x.1, x.2.1, x.2.2.1, x.2.2.2.1, x.2.2.2.2.1, x.2.2.2.2.2.1, x.2.2.2.2.2.2⟩ : S123)) (fun _ => rfl) Try.underlying123 (by kernel_rfl) (opensFs_cons rfl (by kernel_rfl) (opens_int Try.underlying2) (opensFs_cons rfl (by kernel_rfl) (opens_int Try.underlying2) (opensFs_cons rfl (by kernel_rfl) (opens_int Try.underlying2) (opensFs_cons rfl (by kernel_rfl) (opens_int Try.underlying2) (opensFs_cons rfl (by kernel_rfl) (opens_int Try.underlying2) (opensFs_cons rfl (by kernel_rfl) (opens_int Try.underlying2) (opensFs_one rfl (by kernel_rfl) (opens_slice Try.underlying22 (by kernel_rfl) (opens_int Try.underlying2)))))))))
theorem opens72 : Opens Try.prog k72 72 wf72 :=
  opens_struct (fun (x : _) => (⟨x.1, x.2.1, x.2.2.1, x.2.2.2⟩ : S72)) (fun _ => rfl) Try.underlying72 (by kernel_rfl) (opensFs_cons rfl (by kernel_rfl) (opens_int Try.underlying2) (opensFs_cons rfl (by kernel_rfl) (opens_int Try.underlying2) (opensFs_cons rfl (by kernel_rfl) (opens_int Try.underlying2) (opensFs_one rfl (by kernel_rfl) (opens_int Try.underlying2)))))
theorem opens74 : Opens Try.prog k74 74 wf74 :=
  opens_struct (fun (x : _) => (⟨x.1, x.2.1, x.2.2⟩ : S74)) (fun _ => rfl) Try.underlying74 (by kernel_rfl) (opensFs_cons rfl (by kernel_rfl) (opens_slice Try.underlying69 (by kernel_rfl) (opens121)) (opensFs_cons rfl (by kernel_rfl) (opens_slice Try.underlying70 (by kernel_rfl) (opens123)) (opensFs_one rfl (by kernel_rfl) (opens72))))
theorem opens25 : Opens Try.prog k25 25 wf25 :=
  opens_struct (fun (x : _) => (⟨x.1, x.2.1, x.2.2⟩ : S25)) (fun _ => rfl) Try.underlying25 (by kernel_rfl) (opensFs_cons rfl (by kernel_rfl) (opens_slice Try.underlying22 (by kernel_rfl) (opens_int Try.underlying2)) (opensFs_cons rfl (by kernel_rfl) (opens_int Try.underlying2) (opensFs_one rfl (by kernel_rfl) (opens_slice Try.underlying23 (by kernel_rfl) (opens74)))))
end Go.Proofs.Ytobfgnjdcoidoaa.X
namespace Go.Proofs.Ytobfgnjdcoidoaa.X
set_option linter.unusedVariables false
set_option linter.unusedSimpArgs false
open Go.RowKit Go.Proofs.YtobfgnjdcoidoaaW.PrintWords Go.Proofs.YtobfgnjdcoidoaaW.PrintLast Go.Proofs.YtobfgnjdcoidoaaW.PrintMore
theorem Ev.succ {α : Type} {g : Nat → Option α} {r : α} (h : Ev (fun k => g (k + 1)) r) : Ev g r := Ev.step (f := fun k => g (k + 1)) (fun _ => rfl) h
theorem Ev.bindE {α β : Type} {g : Nat → Option α} {f : Nat → α → Option β} {a : α} {r : β} (h : Ev g a) (k : Ev (fun n => f n a) r) : Ev (fun n => (g n).bind (f n)) r := Ev.bind h k
theorem Ev.cst {α : Type} {o : Option α} {r : α} (h : o = some r) : Ev (fun _ => o) r := ⟨0, fun _ _ => h⟩
theorem Ev.uniq {α : Type} {g : Nat → Option α} {r s : α} (h : Ev g r) (k : Ev g s) : r = s := by
  obtain ⟨K, h⟩ := h
  obtain ⟨K', k⟩ := k
  have a := h (max K K') (by omega)
  have b := k (max K K') (by omega)
  rw [a] at b; exact Option.some.inj b
theorem Ev.ipos {α : Type} {c : Prop} [Decidable c] {f g : Nat → Option α} {r : α} (hc : c) (h : Ev f r) : Ev (fun k => if c then f k else g k) r := Ev.congr (fun _ => if_pos hc) h
theorem Ev.ineg {α : Type} {c : Prop} [Decidable c] {f g : Nat → Option α} {r : α} (hc : ¬ c) (h : Ev g r) : Ev (fun k => if c then f k else g k) r := Ev.congr (fun _ => if_neg hc) h
theorem Ev.rw {α : Type} {g : Nat → Option α} {r s : α} (h : Ev g r) (e : r = s) : Ev g s := e ▸ h
theorem w64 {x : Int} (h0 : -9223372036854775808 ≤ x) (h1 : x ≤ 9223372036854775807) : wrap64 x = x := by unfold wrap64; omega
theorem getD_at {α : Type} (l : List α) (z : α) (j : Nat) (h : j < l.length) : l.getD j z = l[j] := by simp [List.getD, List.getElem?_eq_getElem h]
/-- What is left of a, when s is taken away. -/
def rem (a s : Int) : Int := if s ≤ a then a - s else -1
def sumOf {α : Type} (f : α → Int) : List α → Int
  | [] => 0
  | x :: l => f x + sumOf f l
theorem sumOf_nonneg {α : Type} {f : α → Int} : ∀ {l : List α}, (∀ x ∈ l, 0 ≤ f x) → 0 ≤ sumOf f l
  | [], _ => Int.le_refl _
  | x :: l, h => by
    have := h x (by simp)
    have := sumOf_nonneg (l := l) (fun y hy => h y (by simp [hy]))
    simp only [sumOf]; omega
theorem sumOf_append {α : Type} (f : α → Int) : ∀ (l m : List α), sumOf f (l ++ m) = sumOf f l + sumOf f m
  | [], m => by simp [sumOf]
  | x :: l, m => by simp only [List.cons_append, sumOf, sumOf_append f l m]; omega
theorem sumOf_drop {α : Type} (f : α → Int) (l : List α) (i : Nat) (h : i < l.length) : sumOf f (l.drop i) = f l[i] + sumOf f (l.drop (i + 1)) := by
  rw [List.drop_eq_getElem_cons h]; rfl
theorem le_sumOf {α : Type} {f : α → Int} {l : List α} (h : ∀ x ∈ l, 0 ≤ f x) {x : α} (hx : x ∈ l) : f x ≤ sumOf f l := by
  induction l with
  | nil => cases hx
  | cons y l ih =>
    have hn := sumOf_nonneg (l := l) (fun z hz => h z (by simp [hz]))
    simp only [sumOf]
    rcases List.mem_cons.1 hx with rfl | hx
    · omega
    · have := ih (fun z hz => h z (by simp [hz])) hx
      have := h y (by simp)
      omega
theorem sz_loop {α : Type} (L : Nat → List α → Int → Int → Option Int) (body : Nat → α → Int → Option Int) (z : α)
    (hL : ∀ k x left i, L (k + 1) x left i = if i < (x.length : Int) then (if 0 ≤ i then ((body k (x.getD i.toNat z) left).bind fun t => (if t < 0 then (some (-1)) else (L k x t (wrap64 (i + 1))))) else none) else some left)
    (size : α → Int) (x : List α) (hlen : x.length ≤ 9223372036854775807) (h0 : ∀ e ∈ x, 0 ≤ size e) (hb : ∀ e ∈ x, ∀ left, 0 ≤ left → left ≤ 1048576 → Ev (fun k => body k e left) (rem left (size e))) :
    ∀ left, 0 ≤ left → left ≤ 1048576 → Ev (fun k => L k x left 0) (rem left (sumOf size x)) := by
  suffices h : ∀ (d i : Nat) (left : Int), i + d = x.length → 0 ≤ left → left ≤ 1048576 → Ev (fun k => L k x left i) (rem left (sumOf size (x.drop i))) by
    intro left a b
    have := h x.length 0 left (by omega) a b
    simpa using this
  intro d
  induction d with
  | zero =>
    intro i left hi a b
    refine Ev.step (fun k => hL k x left i) (Ev.ineg (by omega) (Ev.rw (Ev.now left) ?_))
    rw [List.drop_of_length_le (by omega)]
    simp [sumOf, rem, a]
  | succ d ih =>
    intro i left hi a b
    have hlt : i < x.length := by omega
    have he : x[i] ∈ x := List.getElem_mem hlt
    have hs := h0 _ he
    have hr := sumOf_nonneg (f := size) (l := x.drop (i + 1)) (fun y hy => h0 y (List.mem_of_mem_drop hy))
    refine Ev.step (fun k => hL k x left i) (Ev.ipos (by omega) (Ev.ipos (by omega) ?_))
    rw [show (i : Int).toNat = i from rfl, getD_at x z i hlt]
    refine Ev.bind (hb _ he left a b) ?_
    rw [sumOf_drop size x i hlt]
    by_cases hc : size x[i] ≤ left
    · rw [show rem left (size x[i]) = left - size x[i] from if_pos hc]
      refine Ev.ineg (by omega) ?_
      rw [show wrap64 ((i : Int) + 1) = ((i + 1 : Nat) : Int) by rw [w64 (by omega) (by omega)]; rfl]
      refine Ev.rw (ih (i + 1) (left - size x[i]) (by omega) (by omega) (by omega)) ?_
      unfold rem
      split <;> split <;> omega
    · rw [show rem left (size x[i]) = -1 from if_neg hc]
      refine Ev.ipos (by decide) (Ev.rw (Ev.now (-1)) ?_)
      unfold rem
      rw [if_neg (by omega)]
theorem to_loop {α β τ : Type} (L : Nat → List α → List β → Int → Option (List β)) (body : Nat → α → Option τ) (mk : τ → β) (z : α)
    (hL : ∀ k x out i, L (k + 1) x out i = if i < (x.length : Int) then (if 0 ≤ i then ((body k (x.getD i.toNat z)).bind fun t => (if i < (out.length : Int) then (L k x (out.set i.toNat (mk t)) (wrap64 (i + 1))) else none)) else none) else some out)
    (conv : α → β) (x : List α) (hlen : x.length ≤ 1048576) (hb : ∀ e ∈ x, ∃ t, Ev (fun k => body k e) t ∧ mk t = conv e) (out : List β) (ho : out.length = x.length) :
    Ev (fun k => L k x out 0) (x.map conv) := by
  suffices h : ∀ (d i : Nat) (out : List β), i + d = x.length → out.length = x.length → Ev (fun k => L k x out i) (out.take i ++ (x.drop i).map conv) by
    have := h x.length 0 out (by omega) ho
    simpa using this
  intro d
  induction d with
  | zero =>
    intro i out hi ho
    refine Ev.step (fun k => hL k x out i) (Ev.ineg (by omega) (Ev.rw (Ev.now out) ?_))
    rw [List.drop_of_length_le (by omega), List.take_of_length_le (by omega)]
    simp
  | succ d ih =>
    intro i out hi ho
    have hlt : i < x.length := by omega
    obtain ⟨t, ht, hm⟩ := hb _ (List.getElem_mem hlt)
    refine Ev.step (fun k => hL k x out i) (Ev.ipos (by omega) (Ev.ipos (by omega) ?_))
    rw [show (i : Int).toNat = i from rfl, getD_at x z i hlt]
    refine Ev.bind ht (Ev.ipos (by omega) ?_)
    rw [show wrap64 ((i : Int) + 1) = ((i + 1 : Nat) : Int) by rw [w64 (by omega) (by omega)]; rfl]
    refine Ev.rw (ih (i + 1) (out.set i (mk t)) (by omega) (by simp [ho])) ?_
    rw [hm, List.drop_eq_getElem_cons hlt, List.map_cons]
    have hio : i < out.length := by omega
    rw [List.take_set, List.take_succ_eq_append_getElem hio, List.set_append]
    simp [Nat.min_eq_left (Nat.le_of_lt hio)]
theorem eq_loop {α : Type} (L : Nat → List α → List α → Int → Option Bool) (body : Nat → α → α → Option Bool) (z : α)
    (hL : ∀ k x y i, L (k + 1) x y i = if i < (x.length : Int) then (if 0 ≤ i then (if i < (y.length : Int) then ((body k (x.getD i.toNat z) (y.getD i.toNat z)).bind fun t => (if t = true then (L k x y (wrap64 (i + 1))) else (some false))) else none) else none) else some true)
    (x : List α) (hlen : x.length ≤ 1048576) (hb : ∀ e ∈ x, Ev (fun k => body k e e) true) : Ev (fun k => L k x x 0) true := by
  suffices h : ∀ (d i : Nat), i + d = x.length → Ev (fun k => L k x x i) true by
    have := h x.length 0 (by omega)
    simpa using this
  intro d
  induction d with
  | zero =>
    intro i hi
    exact Ev.step (fun k => hL k x x i) (Ev.ineg (by omega) (Ev.now true))
  | succ d ih =>
    intro i hi
    have hlt : i < x.length := by omega
    refine Ev.step (fun k => hL k x x i) (Ev.ipos (by omega) (Ev.ipos (by omega) (Ev.ipos (by omega) ?_)))
    rw [show (i : Int).toNat = i from rfl, getD_at x z i hlt]
    refine Ev.bind (hb _ (List.getElem_mem hlt)) (Ev.ipos rfl ?_)
    rw [show wrap64 ((i : Int) + 1) = ((i + 1 : Nat) : Int) by rw [w64 (by omega) (by omega)]; rfl]
    exact ih (i + 1) (by omega)
end Go.Proofs.Ytobfgnjdcoidoaa.X
namespace Go.Proofs.Ytobfgnjdcoidoaa.X
set_option linter.unusedVariables false
set_option linter.unusedSimpArgs false
open Go.RowKit Go.Proofs.YtobfgnjdcoidoaaW.PrintWords Go.Proofs.YtobfgnjdcoidoaaW.PrintLast Go.Proofs.YtobfgnjdcoidoaaW.PrintMore
abbrev LPhi := S121
abbrev LInst := S123
abbrev LTerm := S72
abbrev LBlock := S74
abbrev Phi := S93
abbrev Inst := S96
abbrev Term := S78
abbrev Block := S80
def len {α : Type} (l : List α) : Int := (l.length : Int)
def szP (p : LPhi) : Int := len p.f1
def szI (p : LInst) : Int := len p.f6
def szPs (l : List LPhi) : Int := len l + sumOf szP l
def szIs (l : List LInst) : Int := len l + sumOf szI l
def szB (b : LBlock) : Int := szPs b.f0 + szIs b.f1
def szBs (l : List LBlock) : Int := len l + sumOf szB l
theorem len_nonneg {α : Type} (l : List α) : 0 ≤ len l := by unfold len; omega
theorem szP_nonneg (p : LPhi) : 0 ≤ szP p := len_nonneg _
theorem szI_nonneg (p : LInst) : 0 ≤ szI p := len_nonneg _
theorem szPs_nonneg (l : List LPhi) : 0 ≤ szPs l := by have := len_nonneg l; have := sumOf_nonneg (l := l) (fun x _ => szP_nonneg x); unfold szPs; omega
theorem szIs_nonneg (l : List LInst) : 0 ≤ szIs l := by have := len_nonneg l; have := sumOf_nonneg (l := l) (fun x _ => szI_nonneg x); unfold szIs; omega
theorem szB_nonneg (b : LBlock) : 0 ≤ szB b := by have := szPs_nonneg b.f0; have := szIs_nonneg b.f1; unfold szB; omega
theorem szBs_nonneg (l : List LBlock) : 0 ≤ szBs l := by have := len_nonneg l; have := sumOf_nonneg (l := l) (fun x _ => szB_nonneg x); unfold szBs; omega
theorem rem_rem {a s t : Int} (hs : 0 ≤ s) (ht : 0 ≤ t) : (if rem a s < 0 then -1 else rem (rem a s) t) = rem a (s + t) := by
  unfold rem
  repeat' split <;> omega
theorem szInt64S_eq (l : List Int) (hl : l.length ≤ 9223372036854775807) (a : Int) (h0 : 0 ≤ a) (h1 : a ≤ 1048576) : laws_szInt64S.f l a = some (rem a (len l)) := by
  unfold laws_szInt64S.f rem len
  rw [w64 (by omega) (by omega)]
  by_cases h : a - (l.length : Int) < 0
  · rw [if_pos h, if_neg (by omega)]
  · rw [if_neg h, if_pos (by omega)]
theorem if_some_neg {t : Int} (h : -1 ≤ t) : (if t < 0 then some (-1) else some t) = some t := by
  split
  · congr 1; omega
  · rfl
theorem rem_ge {a s : Int} (h : 0 ≤ a) (hs : 0 ≤ s) : -1 ≤ rem a s := by unfold rem; split <;> omega
theorem rem_le {a s : Int} (hs : 0 ≤ s) (h : -1 ≤ a) : rem a s ≤ a := by unfold rem; split <;> omega
theorem szPhi_eq (p : LPhi) (hl : p.f1.length ≤ 9223372036854775807) (a : Int) (h0 : 0 ≤ a) (h1 : a ≤ 1048576) : laws_szPhi.f p.f0 p.f1 a = some (rem a (szP p)) := by
  unfold laws_szPhi.f
  rw [szInt64S_eq _ hl a h0 h1]; simp only [Option.bind_some]
  exact if_some_neg (rem_ge h0 (szP_nonneg p))
theorem szInst_eq (p : LInst) (hl : p.f6.length ≤ 9223372036854775807) (a : Int) (h0 : 0 ≤ a) (h1 : a ≤ 1048576) : laws_szInst.f p.f0 p.f1 p.f2 p.f3 p.f4 p.f5 p.f6 a = some (rem a (szI p)) := by
  unfold laws_szInst.f
  rw [szInt64S_eq _ hl a h0 h1]; simp only [Option.bind_some]
  exact if_some_neg (rem_ge h0 (szI_nonneg p))
/-- The head of a list's measure. -/
theorem sz_head {α : Type} {l : List α} {f : α → Int} (hl : l.length ≤ 9223372036854775807) (hf : ∀ x ∈ l, 0 ≤ f x) (L : Nat → Int → Option Int) (a : Int) (h0 : 0 ≤ a) (h1 : a ≤ 1048576)
    (h : ∀ a, 0 ≤ a → a ≤ 1048576 → Ev (fun k => L k a) (rem a (sumOf f l))) : Ev (fun k => if wrap64 (a - (l.length : Int)) < 0 then some (-1) else L k (wrap64 (a - (l.length : Int)))) (rem a (len l + sumOf f l)) := by
  have hs := sumOf_nonneg hf
  rw [w64 (by omega) (by omega)]
  by_cases c : a - (l.length : Int) < 0
  · refine Ev.ipos c (Ev.rw (Ev.now (-1)) ?_)
    unfold rem len
    rw [if_neg (by omega)]
  · refine Ev.ineg c (Ev.rw (h _ (by omega) (by omega)) ?_)
    unfold rem len
    split <;> split <;> omega
theorem szPhiS_ev (l : List LPhi) (hl : wfList wf121 l) (a : Int) (h0 : 0 ≤ a) (h1 : a ≤ 1048576) : Ev (fun k => laws_szPhiS.f k l a) (rem a (szPs l)) :=
  sz_head hl.1 (fun x _ => szP_nonneg x) (fun k a => laws_szPhiS.l0 k l a 0) a h0 h1
    (sz_loop laws_szPhiS.l0 (fun _ e a => laws_szPhi.f e.f0 e.f1 a) z121 (fun _ _ _ _ => rfl) szP l hl.1 (fun x _ => szP_nonneg x) (fun e he a h0 h1 => Ev.cst (szPhi_eq e (hl.2 e he).2.1 a h0 h1)))
theorem szInstS_ev (l : List LInst) (hl : wfList wf123 l) (a : Int) (h0 : 0 ≤ a) (h1 : a ≤ 1048576) : Ev (fun k => laws_szInstS.f k l a) (rem a (szIs l)) :=
  sz_head hl.1 (fun x _ => szI_nonneg x) (fun k a => laws_szInstS.l0 k l a 0) a h0 h1
    (sz_loop laws_szInstS.l0 (fun _ e a => laws_szInst.f e.f0 e.f1 e.f2 e.f3 e.f4 e.f5 e.f6 a) z123 (fun _ _ _ _ => rfl) szI l hl.1 (fun x _ => szI_nonneg x) (fun e he a h0 h1 => Ev.cst (szInst_eq e (hl.2 e he).2.2.2.2.2.2.1 a h0 h1)))
/-- One measure behind another one. -/
theorem sz_two {g : Nat → Option Int} {f : Nat → Int → Option Int} {a s t : Int} (h0 : 0 ≤ a) (h1 : a ≤ 1048576) (hs : 0 ≤ s) (ht : 0 ≤ t) (hg : Ev g (rem a s)) (hf : ∀ a, 0 ≤ a → a ≤ 1048576 → Ev (fun k => f k a) (rem a t)) :
    Ev (fun k => (g k).bind fun u => if u < 0 then some (-1) else ((f k u).bind fun v => if v < 0 then some (-1) else some v)) (rem a (s + t)) := by
  refine Ev.bind hg ?_
  by_cases c : s ≤ a
  · rw [show rem a s = a - s from if_pos c]
    refine Ev.ineg (by omega) (Ev.bind (hf _ (by omega) (by omega)) (Ev.cst ?_))
    rw [if_some_neg (rem_ge (by omega) ht)]
    congr 1
    unfold rem
    split <;> split <;> omega
  · rw [show rem a s = -1 from if_neg c]
    refine Ev.ipos (by decide) (Ev.rw (Ev.now (-1)) ?_)
    unfold rem
    rw [if_neg (by omega)]
theorem szBlock_ev (b : LBlock) (hb : wf74 b) (a : Int) (h0 : 0 ≤ a) (h1 : a ≤ 1048576) : Ev (fun k => laws_szBlock.f k b.f0 b.f1 b.f2.f0 b.f2.f1 b.f2.f2 b.f2.f3 a) (rem a (szB b)) :=
  sz_two h0 h1 (szPs_nonneg _) (szIs_nonneg _) (szPhiS_ev _ hb.1 a h0 h1) (fun a h0 h1 => szInstS_ev _ hb.2.1 a h0 h1)
theorem szBlockS_ev (l : List LBlock) (hl : wfList wf74 l) (a : Int) (h0 : 0 ≤ a) (h1 : a ≤ 1048576) : Ev (fun k => laws_szBlockS.f k l a) (rem a (szBs l)) :=
  sz_head hl.1 (fun x _ => szB_nonneg x) (fun k a => laws_szBlockS.l0 k l a 0) a h0 h1
    (sz_loop laws_szBlockS.l0 (fun k e a => laws_szBlock.f k e.f0 e.f1 e.f2.f0 e.f2.f1 e.f2.f2 e.f2.f3 a) z74 (fun _ _ _ _ => rfl) szB l hl.1 (fun x _ => szB_nonneg x) (fun e he a h0 h1 => szBlock_ev e (hl.2 e he) a h0 h1))
theorem szFunc_ev (p : List Int) (r : Int) (l : List LBlock) (h : wf25 ⟨p, r, l⟩) (a : Int) (h0 : 0 ≤ a) (h1 : a ≤ 1048576) : Ev (fun k => laws_szFunc.f k p r l a) (rem a (len p + szBs l)) :=
  sz_two h0 h1 (len_nonneg _) (szBs_nonneg _) (Ev.cst (szInt64S_eq p h.1.1 a h0 h1)) (fun a h0 h1 => szBlockS_ev l h.2.2 a h0 h1)
/-! ### copies -/
def cPhi (p : LPhi) : Phi := ⟨p.f0, p.f1⟩
def cInst (p : LInst) : Inst := ⟨p.f0, p.f1, p.f2, p.f3, p.f4, p.f5, p.f6⟩
def cTerm (p : LTerm) : Term := ⟨p.f0, p.f1, p.f2, p.f3⟩
def cBlock (b : LBlock) : Block := ⟨b.f0.map cPhi, b.f1.map cInst, cTerm b.f2⟩
/-- Its lists have at most 2^20 elements, and so on inwards. -/
def smI (l : List Int) : Prop := l.length ≤ 1048576
def smP (p : LPhi) : Prop := smI p.f1
def smN (p : LInst) : Prop := smI p.f6
def smB (b : LBlock) : Prop := b.f0.length ≤ 1048576 ∧ (∀ p ∈ b.f0, smP p) ∧ b.f1.length ≤ 1048576 ∧ ∀ p ∈ b.f1, smN p
def smBs (l : List LBlock) : Prop := l.length ≤ 1048576 ∧ ∀ b ∈ l, smB b
theorem sm_of_sz {p : List Int} {l : List LBlock} (h : len p + szBs l ≤ 1048576) : smI p ∧ smBs l ∧ len p + sumOf szB l + len l ≤ 1048576 := by
  have h1 := len_nonneg p
  have h2 := len_nonneg l
  have h3 := sumOf_nonneg (l := l) (fun x _ => szB_nonneg x)
  unfold szBs at h
  refine ⟨?_, ⟨?_, fun b hb => ?_⟩, by omega⟩
  · unfold smI len at *; omega
  · unfold len at *; omega
  · have hle := le_sumOf (f := szB) (fun x _ => szB_nonneg x) hb
    have a1 := szPs_nonneg b.f0
    have a2 := szIs_nonneg b.f1
    have a3 : szB b = szPs b.f0 + szIs b.f1 := rfl
    have b1 : szPs b.f0 = len b.f0 + sumOf szP b.f0 := rfl
    have b2 : szIs b.f1 = len b.f1 + sumOf szI b.f1 := rfl
    have c1 := sumOf_nonneg (l := b.f0) (fun x _ => szP_nonneg x)
    have c2 := sumOf_nonneg (l := b.f1) (fun x _ => szI_nonneg x)
    have d1 := len_nonneg b.f0
    have d2 := len_nonneg b.f1
    refine ⟨?_, fun q hq => ?_, ?_, fun q hq => ?_⟩
    · unfold len at *; omega
    · have := le_sumOf (f := szP) (fun x _ => szP_nonneg x) hq
      have e : szP q = len q.f1 := rfl
      unfold smP smI; unfold len at *; omega
    · unfold len at *; omega
    · have := le_sumOf (f := szI) (fun x _ => szI_nonneg x) hq
      have e : szI q = len q.f6 := rfl
      unfold smN smI; unfold len at *; omega
theorem to_head {α β : Type} {l : List α} {n : Nat} {z : β} {g : Nat → List β → Option (List β)} {r : List β} (hn : l.length ≤ n) (h : ∀ out : List β, out.length = l.length → Ev (fun k => g k out) r) :
    Ev (fun k => if 0 ≤ (l.length : Int) then (if ((l.length : Int) : Int).toNat ≤ n then g k (List.replicate ((l.length : Int) : Int).toNat z) else none) else none) r :=
  Ev.ipos (by omega) (Ev.ipos (by simpa using hn) (h _ (by simp)))
theorem toInt64S_ev (l : List Int) (h : smI l) : Ev (fun k => laws_toInt64S.f k l) l :=
  to_head (Nat.le_trans h (by decide)) (fun out ho => Ev.rw (to_loop laws_toInt64S.l0 (fun _ e => some e) id 0 (fun _ _ _ _ => rfl) id l h (fun e _ => ⟨e, Ev.now e, rfl⟩) out ho) (by simp))
theorem toPhi_ev (p : LPhi) (h : smP p) : Ev (fun k => laws_toPhi.f k p.f0 p.f1) (p.f0, p.f1) := Ev.bind (toInt64S_ev _ h) (Ev.now _)
theorem toInst_ev (p : LInst) (h : smN p) : Ev (fun k => laws_toInst.f k p.f0 p.f1 p.f2 p.f3 p.f4 p.f5 p.f6) (p.f0, p.f1, p.f2, p.f3, p.f4, p.f5, p.f6) := Ev.bind (toInt64S_ev _ h) (Ev.now _)
theorem toPhiS_ev (l : List LPhi) (hl : l.length ≤ 1048576) (h : ∀ p ∈ l, smP p) : Ev (fun k => laws_toPhiS.f k l) (l.map cPhi) :=
  to_head (Nat.le_trans hl (by decide)) (fun out ho => to_loop laws_toPhiS.l0 (fun k e => laws_toPhi.f k e.f0 e.f1) (fun t => ⟨t.1, t.2⟩) z121 (fun _ _ _ _ => rfl) cPhi l hl (fun e he => ⟨_, toPhi_ev e (h e he), rfl⟩) out ho)
theorem toInstS_ev (l : List LInst) (hl : l.length ≤ 1048576) (h : ∀ p ∈ l, smN p) : Ev (fun k => laws_toInstS.f k l) (l.map cInst) :=
  to_head (Nat.le_trans hl (by decide)) (fun out ho => to_loop laws_toInstS.l0 (fun k e => laws_toInst.f k e.f0 e.f1 e.f2 e.f3 e.f4 e.f5 e.f6) (fun t => ⟨t.1, t.2.1, t.2.2.1, t.2.2.2.1, t.2.2.2.2.1, t.2.2.2.2.2.1, t.2.2.2.2.2.2⟩) z123 (fun _ _ _ _ => rfl) cInst l hl (fun e he => ⟨_, toInst_ev e (h e he), rfl⟩) out ho)
theorem toBlock_ev (b : LBlock) (h : smB b) : Ev (fun k => laws_toBlock.f k b.f0 b.f1 b.f2.f0 b.f2.f1 b.f2.f2 b.f2.f3) (b.f0.map cPhi, b.f1.map cInst, b.f2.f0, b.f2.f1, b.f2.f2, b.f2.f3) :=
  Ev.bind (toPhiS_ev _ h.1 h.2.1) (Ev.bind (toInstS_ev _ h.2.2.1 h.2.2.2) (Ev.now _))
theorem toBlockS_ev (l : List LBlock) (h : smBs l) : Ev (fun k => laws_toBlockS.f k l) (l.map cBlock) :=
  to_head (Nat.le_trans h.1 (by decide)) (fun out ho => to_loop laws_toBlockS.l0 (fun k e => laws_toBlock.f k e.f0 e.f1 e.f2.f0 e.f2.f1 e.f2.f2 e.f2.f3) (fun t => ⟨t.1, t.2.1, ⟨t.2.2.1, t.2.2.2.1, t.2.2.2.2.1, t.2.2.2.2.2⟩⟩) z74 (fun _ _ _ _ => rfl) cBlock l h.1 (fun e he => ⟨_, toBlock_ev e (h.2 e he), rfl⟩) out ho)
theorem toFunc_ev (p : List Int) (r : Int) (l : List LBlock) (hp : smI p) (hl : smBs l) : Ev (fun k => laws_toFunc.f k p r l) (p, r, l.map cBlock) := Ev.bind (toInt64S_ev _ hp) (Ev.bind (toBlockS_ev l hl) (Ev.now _))
/-! ### a comparison with itself -/
theorem eqInt64S_ev (l : List Int) (h : smI l) : Ev (fun k => laws_eqInt64S.f k l l) true :=
  Ev.ipos rfl (eq_loop laws_eqInt64S.l0 (fun _ a b => some (decide (a = b))) 0 (fun k x y i => by
    simp only [laws_eqInt64S.l0, Option.bind_some, decide_eq_true_eq]; rfl) l h (fun e _ => Ev.cst (by simp)))
theorem eqPhi_ev (p : Phi) (h : smI p.f1) : Ev (fun k => laws_eqPhi.f k p.f0 p.f1 p.f0 p.f1) true := Ev.ipos rfl (Ev.bind (eqInt64S_ev _ h) (Ev.ipos rfl (Ev.now _)))
theorem eqInst_ev (p : Inst) (h : smI p.f6) : Ev (fun k => laws_eqInst.f k p.f0 p.f1 p.f2 p.f3 p.f4 p.f5 p.f6 p.f0 p.f1 p.f2 p.f3 p.f4 p.f5 p.f6) true :=
  Ev.ipos rfl (Ev.ipos rfl (Ev.ipos rfl (Ev.ipos rfl (Ev.ipos rfl (Ev.ipos rfl (Ev.bind (eqInt64S_ev _ h) (Ev.ipos rfl (Ev.now _))))))))
theorem eqTerm_eq (t : Term) : laws_eqTerm.f t.f0 t.f1 t.f2 t.f3 t.f0 t.f1 t.f2 t.f3 = some true := by simp [laws_eqTerm.f]
theorem eqPhiS_ev (l : List Phi) (hl : l.length ≤ 1048576) (h : ∀ p ∈ l, smI p.f1) : Ev (fun k => laws_eqPhiS.f k l l) true :=
  Ev.ipos rfl (eq_loop laws_eqPhiS.l0 (fun k a b => laws_eqPhi.f k a.f0 a.f1 b.f0 b.f1) z93 (fun _ _ _ _ => rfl) l hl (fun e he => eqPhi_ev e (h e he)))
theorem eqInstS_ev (l : List Inst) (hl : l.length ≤ 1048576) (h : ∀ p ∈ l, smI p.f6) : Ev (fun k => laws_eqInstS.f k l l) true :=
  Ev.ipos rfl (eq_loop laws_eqInstS.l0 (fun k a b => laws_eqInst.f k a.f0 a.f1 a.f2 a.f3 a.f4 a.f5 a.f6 b.f0 b.f1 b.f2 b.f3 b.f4 b.f5 b.f6) z96 (fun _ _ _ _ => rfl) l hl (fun e he => eqInst_ev e (h e he)))
/-- A block that is small. -/
def smb (b : Block) : Prop := b.f0.length ≤ 1048576 ∧ (∀ p ∈ b.f0, smI p.f1) ∧ b.f1.length ≤ 1048576 ∧ ∀ p ∈ b.f1, smI p.f6
def smbs (l : List Block) : Prop := l.length ≤ 1048576 ∧ ∀ b ∈ l, smb b
theorem eqBlock_ev (b : Block) (h : smb b) : Ev (fun k => laws_eqBlock.f k b.f0 b.f1 b.f2.f0 b.f2.f1 b.f2.f2 b.f2.f3 b.f0 b.f1 b.f2.f0 b.f2.f1 b.f2.f2 b.f2.f3) true :=
  Ev.bind (eqPhiS_ev _ h.1 h.2.1) (Ev.ipos rfl (Ev.bind (eqInstS_ev _ h.2.2.1 h.2.2.2) (Ev.ipos rfl (Ev.bind (Ev.cst (eqTerm_eq b.f2)) (Ev.ipos rfl (Ev.now _))))))
theorem eqBlockS_ev (l : List Block) (h : smbs l) : Ev (fun k => laws_eqBlockS.f k l l) true :=
  Ev.ipos rfl (eq_loop laws_eqBlockS.l0 (fun k a b => laws_eqBlock.f k a.f0 a.f1 a.f2.f0 a.f2.f1 a.f2.f2 a.f2.f3 b.f0 b.f1 b.f2.f0 b.f2.f1 b.f2.f2 b.f2.f3) z80 (fun _ _ _ _ => rfl) l h.1 (fun e he => eqBlock_ev e (h.2 e he)))
theorem eqFunc_ev (p : List Int) (r : Int) (l : List Block) (hp : smI p) (h : smbs l) : Ev (fun k => laws_eqFunc.f k p r l p r l) true :=
  Ev.bind (eqInt64S_ev _ hp) (Ev.ipos rfl (Ev.ipos rfl (Ev.bind (eqBlockS_ev l h) (Ev.ipos rfl (Ev.now _)))))
theorem smbs_of {l : List LBlock} (h : smBs l) : smbs (l.map cBlock) := by
  refine ⟨by simpa using h.1, fun b hb => ?_⟩
  obtain ⟨x, hx, rfl⟩ := List.mem_map.1 hb
  have hx := h.2 x hx
  refine ⟨by simpa [cBlock] using hx.1, fun q hq => ?_, by simpa [cBlock] using hx.2.2.1, fun q hq => ?_⟩
  · obtain ⟨y, hy, rfl⟩ := List.mem_map.1 hq
    exact hx.2.1 y hy
  · obtain ⟨y, hy, rfl⟩ := List.mem_map.1 hq
    exact hx.2.2.2 y hy
/-- How many ids there are, and what else a list of blocks weighs, is at most 2^20. -/
def cntB (b : Block) : Int := len b.f0 + len b.f1
theorem cnt_le {p : List Int} {l : List LBlock} (h : len p + szBs l ≤ 1048576) : len p + sumOf cntB (l.map cBlock) ≤ 1048576 := by
  have : ∀ l : List LBlock, sumOf cntB (l.map cBlock) ≤ sumOf szB l := by
    intro l
    induction l with
    | nil => exact Int.le_refl _
    | cons b l ih =>
      simp only [List.map_cons, sumOf]
      have a3 : szB b = szPs b.f0 + szIs b.f1 := rfl
      have b1 : szPs b.f0 = len b.f0 + sumOf szP b.f0 := rfl
      have b2 : szIs b.f1 = len b.f1 + sumOf szI b.f1 := rfl
      have c1 := sumOf_nonneg (l := b.f0) (fun x _ => szP_nonneg x)
      have c2 := sumOf_nonneg (l := b.f1) (fun x _ => szI_nonneg x)
      have e : cntB (cBlock b) = len b.f0 + len b.f1 := by simp [cntB, cBlock, len]
      omega
  have := this l
  have h2 := len_nonneg l
  unfold szBs at h
  omega
end Go.Proofs.Ytobfgnjdcoidoaa.X
namespace Go.Proofs.Ytobfgnjdcoidoaa.X
set_option linter.unusedVariables false
set_option linter.unusedSimpArgs false
open Go.RowKit Go.Proofs.YtobfgnjdcoidoaaW.PrintWords Go.Proofs.YtobfgnjdcoidoaaW.PrintLast Go.Proofs.YtobfgnjdcoidoaaW.PrintMore
theorem specIn_eq (a b c : Int) : spec_l1In.f a b c = some (decide (b ≤ a ∧ a ≤ c)) := by
  unfold spec_l1In.f
  by_cases h : a ≥ b
  · rw [if_pos h]; have h' : b ≤ a := h; simp [h']
  · rw [if_neg h]; have h' : ¬ b ≤ a := h; simp [h']
theorem specCopy_eq (l : List Int) (h : smI l) : spec_l1Copy.f l = some l := by
  unfold spec_l1Copy.f
  unfold smI at h
  simp only [Option.bind_some, List.length_nil, List.nil_append]
  rw [if_pos (by omega)]
theorem implIn_eq (a b c : Int) : impl_within.f a b c = some (decide (b ≤ a ∧ a ≤ c)) := by
  unfold impl_within.f
  by_cases h : a ≥ b
  · rw [if_pos h]; have h' : b ≤ a := h; simp [h']
  · rw [if_neg h]; have h' : ¬ b ≤ a := h; simp [h']
end Go.Proofs.Ytobfgnjdcoidoaa.X
namespace Go.Proofs.Ytobfgnjdcoidoaa.X
open Go.RowKit Go.Proofs.YtobfgnjdcoidoaaW.PrintWords Go.Proofs.YtobfgnjdcoidoaaW.PrintLast Go.Proofs.YtobfgnjdcoidoaaW.PrintMore
attribute [local go_sem] max2_int min2_int max_two min_two max_three min_three max_four min_four   -- for this text's walks alone
set_option linter.unusedVariables false
set_option linter.unusedSimpArgs false

/-! ### spec_CountOf: function 65 -/
def spec_CountOf.l0 : Nat → Int → Int → List Int → Int → List (S80) → Option (Int)
 | 0, _, _, _, _, _ => none
 | k + 1, x3, x4, x625000, x625001, x625002 => if x4 < (x625002.length : Int) then (if 0 ≤ x4 then (spec_CountOf.l0 k (wrap64 (x3 + (wrap64 ((((rd_T80 x625002 x4).f0).length : Int) + (((rd_T80 x625002 x4).f1).length : Int))))) (wrap64 (x4 + 1)) x625000 x625001 x625002) else (none)) else (some x3)
def spec_CountOf.f (k : Nat) (l0_0 : List Int) (a0_1 : Int) (l0_2 : List (S80)) : Option (Int) := spec_CountOf.l0 k (l0_0.length : Int) 0 l0_0 a0_1 l0_2
theorem spec_CountOf.mono_l : ∀ k, (∀ y0 y1 y2 y3 y4, LeO (spec_CountOf.l0 k y0 y1 y2 y3 y4) (spec_CountOf.l0 (k + 1) y0 y1 y2 y3 y4))
 | 0 => fun _ _ _ _ _ r h => by simp [spec_CountOf.l0] at h
 | k + 1 => by
  have ih0 := spec_CountOf.mono_l k
  ·intro y0 y1 y2 y3 y4
   unfold spec_CountOf.l0
   repeat' first
   | (with_reducible exact ih0 _ _ _ _ _)
   | (with_reducible exact LeO.refl _)
   | (with_reducible exact LeO.none _)
   | (with_reducible refine LeO.ite ?_ ?_)
   | (with_reducible refine LeO.bind ?_ (fun _ => ?_))
   | exact ih0 _ _ _ _ _
   | exact LeO.none _
   | refine LeO.ite ?_ ?_
   | refine LeO.bind ?_ (fun _ => ?_)
theorem spec_CountOf.mono : ∀ a0 a1 a2 k, LeO (spec_CountOf.f k a0 a1 a2) (spec_CountOf.f (k + 1) a0 a1 a2) := by
 intro a0 a1 a2 k
 have ih0 := spec_CountOf.mono_l k
 unfold spec_CountOf.f
 repeat' first
   | (with_reducible exact ih0 _ _ _ _ _)
   | (with_reducible exact LeO.refl _)
   | (with_reducible exact LeO.none _)
   | (with_reducible refine LeO.ite ?_ ?_)
   | (with_reducible refine LeO.bind ?_ (fun _ => ?_))
   | exact ih0 _ _ _ _ _
   | exact LeO.none _
   | refine LeO.ite ?_ ?_
   | refine LeO.bind ?_ (fun _ => ?_)
set_option maxHeartbeats 8000000 in
set_option maxRecDepth 100000 in
theorem spec_CountOf.calls (k : Nat) (A0_0 : Option Addr) (c0_0 : Nat) (l0_0 : List Int) (a0_1 : Int) (A0_2 : Option Addr) (c0_2 : Nat) (l0_2 : List (S80)) (r : Int) (w : World) (hr0_0 : Kd.C (Kd.int .i64) w A0_0 l0_0.length l0_0) (hc0_0 : l0_0.length ≤ c0_0) (hr0_2 : Kd.C k80 w A0_2 l0_2.length l0_2) (hc0_2 : l0_2.length ≤ c0_2) (h : spec_CountOf.f k l0_0 a0_1 l0_2 = some r) :
  Calls Try.prog 65 #[.agg #[.slice A0_0 l0_0.length c0_0, .int .i64 a0_1, .slice A0_2 l0_2.length c0_2]] w fun e w' => e = .returned (.int .i64 r) ∧ Below w.heap.size w w' := by
 have hu30 := Try.underlying30
 have HR0_0 := Aside0.mk hr0_0
 have HC0_0 := Aside0.mk hc0_0
 clear hr0_0 hc0_0
 have HR0_2 := Aside0.mk hr0_2
 have HC0_2 := Aside0.mk hc0_2
 clear hr0_2 hc0_2
 have HB := Aside0.mk (Below.refl w.heap.size w)
 have H : (spec_CountOf.l0 k (l0_0.length : Int) 0 l0_0 a0_1 l0_2) = some r := h
 clear h
 have H' := Aside0.mk H
 clear H
 go_enter Try.func65, Try.ntmps65
 go_wp2_with (first | ((with_reducible refine gate_dst (N := 1) rfl ?_); refine box_event ?hg (N := 1) ?hd (cs := #[.slice A0_0 l0_0.length c0_0, .int .i64 a0_1, .slice A0_2 l0_2.length c0_2]) (t := 30) ?hr ?_; (case hd => rfl); (case hg => rfl); (case hr => first | (go_simp; done) | (go_simp; rfl)); intro gb624 hg w2 hbox hb; have n0_ := Aside0.mk (below_step hB_ hb); have n1_ := Aside0.mk (hbox); have n2_ := Aside0.mk ((by rw [hg]; exact (below_size hB_) : w.heap.size ≤ gb624)); have n3_ := Aside0.mk ((by rw [hg]; exact (below_size hB_) : w.heap.size ≤ gb624)); clear HB; have HB := n0_; have BK624 := n1_; have GW624 := n2_; have GE624 := n3_; clear n0_ n1_ n2_ n3_; clear hb hbox hg; obtain ⟨hcz3_0, hcz3_1, hcz3_2, hfz3_0, hfz3_1, hfz3_2⟩ := blkc3_ BK624.out))
 repeat (go_quiet (first | ((with_reducible refine gate_dst (N := 1) rfl ?_); refine box_event ?hg (N := 1) ?hd (cs := #[.slice A0_0 l0_0.length c0_0, .int .i64 a0_1, .slice A0_2 l0_2.length c0_2]) (t := 30) ?hr ?_; (case hd => rfl); (case hg => rfl); (case hr => first | (go_simp; done) | (go_simp; rfl)); intro gb624 hg w2 hbox hb; have n0_ := Aside0.mk (below_step hB_ hb); have n1_ := Aside0.mk (hbox); have n2_ := Aside0.mk ((by rw [hg]; exact (below_size hB_) : w.heap.size ≤ gb624)); have n3_ := Aside0.mk ((by rw [hg]; exact (below_size hB_) : w.heap.size ≤ gb624)); clear HB; have HB := n0_; have BK624 := n1_; have GW624 := n2_; have GE624 := n3_; clear n0_ n1_ n2_ n3_; clear hb hbox hg; obtain ⟨hcz3_0, hcz3_1, hcz3_2, hfz3_0, hfz3_1, hfz3_2⟩ := blkc3_ BK624.out)); try go_wp2_with (first | ((with_reducible refine gate_dst (N := 1) rfl ?_); refine box_event ?hg (N := 1) ?hd (cs := #[.slice A0_0 l0_0.length c0_0, .int .i64 a0_1, .slice A0_2 l0_2.length c0_2]) (t := 30) ?hr ?_; (case hd => rfl); (case hg => rfl); (case hr => first | (go_simp; done) | (go_simp; rfl)); intro gb624 hg w2 hbox hb; have n0_ := Aside0.mk (below_step hB_ hb); have n1_ := Aside0.mk (hbox); have n2_ := Aside0.mk ((by rw [hg]; exact (below_size hB_) : w.heap.size ≤ gb624)); have n3_ := Aside0.mk ((by rw [hg]; exact (below_size hB_) : w.heap.size ≤ gb624)); clear HB; have HB := n0_; have BK624 := n1_; have GW624 := n2_; have GE624 := n3_; clear n0_ n1_ n2_ n3_; clear hb hbox hg; obtain ⟨hcz3_0, hcz3_1, hcz3_2, hfz3_0, hfz3_1, hfz3_2⟩ := blkc3_ BK624.out)))
 go_loopg [3, 4] k (fun kq v3 v4 w' => ∃ (x3_1 : Int) (x4_1 : Int), v3 = .int .i64 x3_1 ∧ v4 = .int .i64 x4_1 ∧ Aside0 (spec_CountOf.l0 kq x3_1 x4_1 l0_0 a0_1 l0_2 = some r) ∧ Aside0 (kq ≤ k) ∧ Aside0 (w'.heap[gb624]? = some (.cells #[(.slice A0_0 l0_0.length c0_0), .int .i64 a0_1, (.slice A0_2 l0_2.length c0_2)] 30 (0, 0))) ∧ Aside0 (Below w.heap.size w w'))
 case atStart => exact ⟨((l0_0.length : Int)), (0), rF_, rF_, H', ⟨Nat.le_refl _⟩, ⟨bK624_⟩, ⟨hS_⟩⟩
 case round =>
  clear H'
  try clear p2
  try clear hcz3_0 hcz3_1 hcz3_2 hfz3_0 hfz3_1 hfz3_2
  obtain ⟨x3_1, x4_1, rfl, rfl, HA, HK1, BK624, HB⟩ := hrel
  cases gk with
  | zero => exact absurd HA.out (by simp [spec_CountOf.l0])
  | succ k1 =>
   have H := HA.out
   clear HA
   simp only [spec_CountOf.l0] at H
   by_cases c4 : x4_1 < (l0_2.length : Int)
   ·rw [if_pos c4] at H
    have c4b0 : decide (x4_1 < (l0_2.length : Int)) = true := decide_eq_true c4
    clear c4
    by_cases c5 : 0 ≤ x4_1
    ·rw [if_pos c5] at H
     have c5b0 : decide (0 ≤ x4_1) = true := decide_eq_true c5
     clear c5
     have H' := Aside0.mk H
     clear H
     obtain ⟨hcz6_0, hcz6_1, hcz6_2, hfz6_0, hfz6_1, hfz6_2⟩ := blkc3_ BK624.out
     have p625 : 0 ≤ (x4_1 : Int) := oD_
     have q625 : x4_1 < (l0_2.length : Int) := oD_
     obtain ⟨ad625, A625_0, c625_0, A625_1, c625_1, e625, hx625_0, hx625_1, hx625_2, hx625_3, hx625_4, hx625_5, hl625_0, hi625_0, hl625_1, hi625_1⟩ := at_T80 HR0_2.out x4_1 p625 q625
     cases e625
     replace hx625_0 := (HB.out.cell (World.block_lt_of_cell? w _ hx625_0)).trans hx625_0
     replace hx625_1 := (HB.out.cell (World.block_lt_of_cell? w _ hx625_1)).trans hx625_1
     replace hx625_2 := (HB.out.cell (World.block_lt_of_cell? w _ hx625_2)).trans hx625_2
     replace hx625_3 := (HB.out.cell (World.block_lt_of_cell? w _ hx625_3)).trans hx625_3
     replace hx625_4 := (HB.out.cell (World.block_lt_of_cell? w _ hx625_4)).trans hx625_4
     replace hx625_5 := (HB.out.cell (World.block_lt_of_cell? w _ hx625_5)).trans hx625_5
     have HR625_0 := Aside0.mk hi625_0
     have HC625_0 := Aside0.mk hl625_0
     clear hi625_0 hl625_0
     have HR625_1 := Aside0.mk hi625_1
     have HC625_1 := Aside0.mk hl625_1
     clear hi625_1 hl625_1
     replace p625 := eq_true p625
     replace q625 := eq_true q625
     have p626 : 0 ≤ (x4_1 : Int) := oD_
     have q626 : x4_1 < (l0_2.length : Int) := oD_
     obtain ⟨ad626, A626_0, c626_0, A626_1, c626_1, e626, hx626_0, hx626_1, hx626_2, hx626_3, hx626_4, hx626_5, hl626_0, hi626_0, hl626_1, hi626_1⟩ := at_T80 HR0_2.out x4_1 p626 q626
     obtain rfl : ad625 = ad626 := (by injection e626)
     replace hx626_0 := (HB.out.cell (World.block_lt_of_cell? w _ hx626_0)).trans hx626_0
     replace hx626_1 := (HB.out.cell (World.block_lt_of_cell? w _ hx626_1)).trans hx626_1
     replace hx626_2 := (HB.out.cell (World.block_lt_of_cell? w _ hx626_2)).trans hx626_2
     replace hx626_3 := (HB.out.cell (World.block_lt_of_cell? w _ hx626_3)).trans hx626_3
     replace hx626_4 := (HB.out.cell (World.block_lt_of_cell? w _ hx626_4)).trans hx626_4
     replace hx626_5 := (HB.out.cell (World.block_lt_of_cell? w _ hx626_5)).trans hx626_5
     have HR626_0 := Aside0.mk hi626_0
     have HC626_0 := Aside0.mk hl626_0
     clear hi626_0 hl626_0
     have HR626_1 := Aside0.mk hi626_1
     have HC626_1 := Aside0.mk hl626_1
     clear hi626_1 hl626_1
     replace p626 := eq_true p626
     replace q626 := eq_true q626
     have ea_ := Option.some.inj (hx625_0.symm.trans hx626_0)
     injection ea_ with ea_ en_ ec_
     subst ea_
     subst ec_
     clear en_
     have ea_ := Option.some.inj (hx625_1.symm.trans hx626_1)
     injection ea_ with ea_ en_ ec_
     subst ea_
     subst ec_
     clear en_
     go_wp2
     repeat (go_quiet (fail); try go_wp2)
     go_roundg k1
     case measure => have := HK1.out; omega
     case rel => exact ⟨(wrap64 (x3_1 + (wrap64 ((((rd_T80 l0_2 x4_1).f0).length : Int) + (((rd_T80 l0_2 x4_1).f1).length : Int))))), (wrap64 (x4_1 + 1)), rF_, rF_, H', ⟨by have := HK1.out; omega⟩, ⟨bK624_⟩, ⟨hS_⟩⟩
    ·rw [if_neg c5] at H
     exact absurd H (by simp)
   ·rw [if_neg c4] at H
    have c4b0 : decide (x4_1 < (l0_2.length : Int)) = false := decide_eq_false c4
    clear c4
    obtain rfl := Option.some.inj H
    obtain ⟨hcz7_0, hcz7_1, hcz7_2, hfz7_0, hfz7_1, hfz7_2⟩ := blkc3_ BK624.out
    go_wp2
    repeat (go_quiet (fail); try go_wp2)
    go_ret
    exact ⟨rG_, hS_⟩

end Go.Proofs.Ytobfgnjdcoidoaa.X
namespace Go.Proofs.Ytobfgnjdcoidoaa.X
open Go.RowKit Go.Proofs.YtobfgnjdcoidoaaW.PrintWords Go.Proofs.YtobfgnjdcoidoaaW.PrintLast Go.Proofs.YtobfgnjdcoidoaaW.PrintMore
attribute [local go_sem] max2_int min2_int max_two min_two max_three min_three max_four min_four   -- for this text's walks alone
set_option linter.unusedVariables false
set_option linter.unusedSimpArgs false

/-! ### impl_CountOf: function 72 -/
def impl_CountOf.l0 : Nat → Int → List (S80) → Int → Int → Option (Int)
 | 0, _, _, _, _ => none
 | k + 1, x3, x10, x11, x12 => if x12 < x11 then (if 0 ≤ x12 then (if x12 < (x10.length : Int) then (impl_CountOf.l0 k (wrap64 (x3 + (wrap64 ((((rd_T80 x10 x12).f0).length : Int) + (((rd_T80 x10 x12).f1).length : Int))))) x10 x11 (wrap64 (x12 + 1))) else (none)) else (none)) else (some x3)
def impl_CountOf.f (k : Nat) (l0_0 : List Int) (a0_1 : Int) (l0_2 : List (S80)) : Option (Int) := impl_CountOf.l0 k (l0_0.length : Int) l0_2 (l0_2.length : Int) 0
theorem impl_CountOf.mono_l : ∀ k, (∀ y0 y1 y2 y3, LeO (impl_CountOf.l0 k y0 y1 y2 y3) (impl_CountOf.l0 (k + 1) y0 y1 y2 y3))
 | 0 => fun _ _ _ _ r h => by simp [impl_CountOf.l0] at h
 | k + 1 => by
  have ih0 := impl_CountOf.mono_l k
  ·intro y0 y1 y2 y3
   unfold impl_CountOf.l0
   repeat' first
   | (with_reducible exact ih0 _ _ _ _)
   | (with_reducible exact LeO.refl _)
   | (with_reducible exact LeO.none _)
   | (with_reducible refine LeO.ite ?_ ?_)
   | (with_reducible refine LeO.bind ?_ (fun _ => ?_))
   | exact ih0 _ _ _ _
   | exact LeO.none _
   | refine LeO.ite ?_ ?_
   | refine LeO.bind ?_ (fun _ => ?_)
theorem impl_CountOf.mono : ∀ a0 a1 a2 k, LeO (impl_CountOf.f k a0 a1 a2) (impl_CountOf.f (k + 1) a0 a1 a2) := by
 intro a0 a1 a2 k
 have ih0 := impl_CountOf.mono_l k
 unfold impl_CountOf.f
 repeat' first
   | (with_reducible exact ih0 _ _ _ _)
   | (with_reducible exact LeO.refl _)
   | (with_reducible exact LeO.none _)
   | (with_reducible refine LeO.ite ?_ ?_)
   | (with_reducible refine LeO.bind ?_ (fun _ => ?_))
   | exact ih0 _ _ _ _
   | exact LeO.none _
   | refine LeO.ite ?_ ?_
   | refine LeO.bind ?_ (fun _ => ?_)
set_option maxHeartbeats 8000000 in
set_option maxRecDepth 100000 in
theorem impl_CountOf.calls (k : Nat) (A0_0 : Option Addr) (c0_0 : Nat) (l0_0 : List Int) (a0_1 : Int) (A0_2 : Option Addr) (c0_2 : Nat) (l0_2 : List (S80)) (r : Int) (w : World) (hr0_0 : Kd.C (Kd.int .i64) w A0_0 l0_0.length l0_0) (hc0_0 : l0_0.length ≤ c0_0) (hr0_2 : Kd.C k80 w A0_2 l0_2.length l0_2) (hc0_2 : l0_2.length ≤ c0_2) (h : impl_CountOf.f k l0_0 a0_1 l0_2 = some r) :
  Calls Try.prog 72 #[.agg #[.slice A0_0 l0_0.length c0_0, .int .i64 a0_1, .slice A0_2 l0_2.length c0_2]] w fun e w' => e = .returned (.int .i64 r) ∧ Below w.heap.size w w' := by
 have hu30 := Try.underlying30
 have hu80 := Try.underlying80
 have HR0_0 := Aside0.mk hr0_0
 have HC0_0 := Aside0.mk hc0_0
 clear hr0_0 hc0_0
 have HR0_2 := Aside0.mk hr0_2
 have HC0_2 := Aside0.mk hc0_2
 clear hr0_2 hc0_2
 have HB := Aside0.mk (Below.refl w.heap.size w)
 have H : (impl_CountOf.l0 k (l0_0.length : Int) l0_2 (l0_2.length : Int) 0) = some r := h
 clear h
 have H' := Aside0.mk H
 clear H
 go_enter Try.func72, Try.ntmps72
 go_wp2_with (first | ((with_reducible refine gate_dst (N := 1) rfl ?_); refine box_event ?hg (N := 1) ?hd (cs := #[.slice A0_0 l0_0.length c0_0, .int .i64 a0_1, .slice A0_2 l0_2.length c0_2]) (t := 30) ?hr ?_; (case hd => rfl); (case hg => rfl); (case hr => first | (go_simp; done) | (go_simp; rfl)); intro gb704 hg w2 hbox hb; have n0_ := Aside0.mk (below_step hB_ hb); have n1_ := Aside0.mk (hbox); have n2_ := Aside0.mk ((by rw [hg]; exact (below_size hB_) : w.heap.size ≤ gb704)); have n3_ := Aside0.mk ((by rw [hg]; exact (below_size hB_) : w.heap.size ≤ gb704)); clear HB; have HB := n0_; have BK704 := n1_; have GW704 := n2_; have GE704 := n3_; clear n0_ n1_ n2_ n3_; clear hb hbox hg; obtain ⟨hcz3_0, hcz3_1, hcz3_2, hfz3_0, hfz3_1, hfz3_2⟩ := blkc3_ BK704.out))
 go_loopg [3, 12] k (fun kq v3 v12 w' => ∃ (x3_1 : Int) (x12_1 : Int), v3 = .int .i64 x3_1 ∧ v12 = .int .i64 x12_1 ∧ Aside0 (impl_CountOf.l0 kq x3_1 l0_2 (l0_2.length : Int) x12_1 = some r) ∧ Aside0 (kq ≤ k) ∧ Aside0 (w'.heap[gb704]? = some (.cells #[(.slice A0_0 l0_0.length c0_0), .int .i64 a0_1, (.slice A0_2 l0_2.length c0_2)] 30 (0, 0))) ∧ Aside0 (Below w.heap.size w w'))
 case atStart => exact ⟨((l0_0.length : Int)), (0), rF_, rF_, H', ⟨Nat.le_refl _⟩, ⟨bK704_⟩, ⟨hS_⟩⟩
 case round =>
  clear H'
  try clear p2
  try clear hcz3_0 hcz3_1 hcz3_2 hfz3_0 hfz3_1 hfz3_2
  obtain ⟨x3_1, x12_1, rfl, rfl, HA, HK1, BK704, HB⟩ := hrel
  cases gk with
  | zero => exact absurd HA.out (by simp [impl_CountOf.l0])
  | succ k1 =>
   have H := HA.out
   clear HA
   simp only [impl_CountOf.l0] at H
   by_cases c4 : x12_1 < (l0_2.length : Int)
   ·rw [if_pos c4] at H
    have c4b0 : decide (x12_1 < (l0_2.length : Int)) = true := decide_eq_true c4
    clear c4
    by_cases c5 : 0 ≤ x12_1
    ·rw [if_pos c5] at H
     have c5b0 : decide (0 ≤ x12_1) = true := decide_eq_true c5
     clear c5
     by_cases c6 : x12_1 < (l0_2.length : Int)
     ·rw [if_pos c6] at H
      have c6b0 : decide (x12_1 < (l0_2.length : Int)) = true := decide_eq_true c6
      clear c6
      have H' := Aside0.mk H
      clear H
      have p705 : 0 ≤ (x12_1 : Int) := oD_
      have q705 : x12_1 < (l0_2.length : Int) := oD_
      obtain ⟨ad705, A705_0, c705_0, A705_1, c705_1, e705, hx705_0, hx705_1, hx705_2, hx705_3, hx705_4, hx705_5, hl705_0, hi705_0, hl705_1, hi705_1⟩ := at_T80 HR0_2.out x12_1 p705 q705
      cases e705
      replace hx705_0 := (HB.out.cell (World.block_lt_of_cell? w _ hx705_0)).trans hx705_0
      replace hx705_1 := (HB.out.cell (World.block_lt_of_cell? w _ hx705_1)).trans hx705_1
      replace hx705_2 := (HB.out.cell (World.block_lt_of_cell? w _ hx705_2)).trans hx705_2
      replace hx705_3 := (HB.out.cell (World.block_lt_of_cell? w _ hx705_3)).trans hx705_3
      replace hx705_4 := (HB.out.cell (World.block_lt_of_cell? w _ hx705_4)).trans hx705_4
      replace hx705_5 := (HB.out.cell (World.block_lt_of_cell? w _ hx705_5)).trans hx705_5
      have HR705_0 := Aside0.mk hi705_0
      have HC705_0 := Aside0.mk hl705_0
      clear hi705_0 hl705_0
      have HR705_1 := Aside0.mk hi705_1
      have HC705_1 := Aside0.mk hl705_1
      clear hi705_1 hl705_1
      replace p705 := eq_true p705
      replace q705 := eq_true q705
      go_wp2_with (first | ((with_reducible refine gate_dst (N := 5) rfl ?_); refine box_event ?hg (N := 5) ?hd (cs := #[.slice none 0 0, .slice none 0 0, .int .i64 0, .int .i64 0, .int .i64 0, .int .i64 0]) (t := 80) ?hr ?_; (case hd => rfl); (case hg => rfl); (case hr => first | (go_simp; done) | (go_simp; rfl)); intro gb706 hg w7 hbox hb; have n0_ := Aside0.mk (blk_below (g := gb704) (o := .cells #[.slice A0_0 l0_0.length c0_0, .int .i64 a0_1, .slice (some ad705) l0_2.length c0_2] 30 (0, 0)) bK704_ hb); have n1_ := Aside0.mk (below_step hS_ hb); have n2_ := Aside0.mk (hbox); have n3_ := Aside0.mk ((by rw [hg]; exact (below_size hS_) : w.heap.size ≤ gb706)); have n4_ := Aside0.mk ((by rw [hg]; exact (below_size hS_) : w.heap.size ≤ gb706)); have n5_ := Aside0.mk ((by rw [hg]; exact Nat.ne_of_lt (blk_lt (g := gb704) (o := .cells #[.slice A0_0 l0_0.length c0_0, .int .i64 a0_1, .slice (some ad705) l0_2.length c0_2] 30 (0, 0)) bK704_) : gb704 ≠ gb706)); have n6_ := Aside0.mk ((by rw [hg]; exact Nat.ne_of_gt (blk_lt (g := gb704) (o := .cells #[.slice A0_0 l0_0.length c0_0, .int .i64 a0_1, .slice (some ad705) l0_2.length c0_2] 30 (0, 0)) bK704_) : gb706 ≠ gb704)); clear BK704; clear HB; have BK704 := n0_; have HB := n1_; have BK706 := n2_; have GW706 := n3_; have GE706 := n4_; have NB704_706 := n5_; have NB706_704 := n6_; clear n0_ n1_ n2_ n3_ n4_ n5_ n6_; clear hb hbox hg; have hnb8 := NB706_704.out; have hnc8 := NB704_706.out; obtain ⟨hcz9_0, hcz9_1, hcz9_2, hcz9_3, hcz9_4, hcz9_5, hfz9_0, hfz9_1, hfz9_2, hfz9_3, hfz9_4, hfz9_5⟩ := blkc6_ BK706.out))
      go_roundg k1
      case measure => have := HK1.out; omega
      case rel => exact ⟨(wrap64 (x3_1 + (wrap64 ((((rd_T80 l0_2 x12_1).f0).length : Int) + (((rd_T80 l0_2 x12_1).f1).length : Int))))), (wrap64 (x12_1 + 1)), rF_, rF_, H', ⟨by have := HK1.out; omega⟩, ⟨fK704_⟩, ⟨hS_⟩⟩
     ·rw [if_neg c6] at H
      exact absurd H (by simp)
    ·rw [if_neg c5] at H
     exact absurd H (by simp)
   ·rw [if_neg c4] at H
    have c4b0 : decide (x12_1 < (l0_2.length : Int)) = false := decide_eq_false c4
    clear c4
    obtain rfl := Option.some.inj H
    go_wp2
    go_ret
    exact ⟨rG_, hS_⟩

end Go.Proofs.Ytobfgnjdcoidoaa.X
namespace Go.Proofs.Ytobfgnjdcoidoaa.X
set_option linter.unusedVariables false
set_option linter.unusedSimpArgs false
open Go.RowKit Go.Proofs.YtobfgnjdcoidoaaW.PrintWords Go.Proofs.YtobfgnjdcoidoaaW.PrintLast Go.Proofs.YtobfgnjdcoidoaaW.PrintMore
/-- A loop that adds up over a list. -/
theorem add_loop {α : Type} (L : Nat → Int → Int → Option Int) (l : List α) (z : α) (f : α → Int)
    (hL : ∀ k n i, L (k + 1) n i = if i < (l.length : Int) then (if 0 ≤ i then (L k (wrap64 (n + f (l.getD i.toNat z))) (wrap64 (i + 1))) else none) else some n)
    (hlen : l.length ≤ 1048576) (hf : ∀ x ∈ l, 0 ≤ f x) (n : Int) (h0 : 0 ≤ n) (hs : n + sumOf f l ≤ 2097152) : Ev (fun k => L k n 0) (n + sumOf f l) := by
  suffices h : ∀ (d i : Nat) (n : Int), i + d = l.length → 0 ≤ n → n + sumOf f (l.drop i) ≤ 2097152 → Ev (fun k => L k n i) (n + sumOf f (l.drop i)) by
    have := h l.length 0 n (by omega) h0 (by simpa using hs)
    simpa using this
  intro d
  induction d with
  | zero =>
    intro i n hi h0 hs
    refine Ev.step (fun k => hL k n i) (Ev.ineg (by omega) (Ev.rw (Ev.now n) ?_))
    rw [List.drop_of_length_le (by omega)]
    simp [sumOf]
  | succ d ih =>
    intro i n hi h0 hs
    have hlt : i < l.length := by omega
    have hx := hf _ (List.getElem_mem hlt)
    have hr := sumOf_nonneg (f := f) (l := l.drop (i + 1)) (fun y hy => hf y (List.mem_of_mem_drop hy))
    rw [sumOf_drop f l i hlt] at hs ⊢
    refine Ev.step (fun k => hL k n i) (Ev.ipos (by omega) (Ev.ipos (by omega) ?_))
    rw [show (i : Int).toNat = i from rfl, getD_at l z i hlt, w64 (x := n + f l[i]) (by omega) (by omega)]
    rw [show wrap64 ((i : Int) + 1) = ((i + 1 : Nat) : Int) by rw [w64 (by omega) (by omega)]; rfl]
    exact Ev.rw (ih (i + 1) (n + f l[i]) (by omega) (by omega) (by omega)) (by omega)
theorem cntB_nonneg (b : Block) : 0 ≤ cntB b := by have := len_nonneg b.f0; have := len_nonneg b.f1; unfold cntB; omega
/-- How many ids there are. -/
def countOf (p : List Int) (l : List Block) : Int := len p + sumOf cntB l
/-- It is a function whose lists are small. -/
def Small (p : List Int) (l : List Block) : Prop := smI p ∧ smbs l ∧ countOf p l ≤ 1048576
theorem cnt_wrap (b : Block) (h : smb b) : wrap64 ((b.f0.length : Int) + (b.f1.length : Int)) = cntB b := by
  have := h.1; have := h.2.2.1
  rw [w64 (by omega) (by omega)]; rfl
theorem countOf_nonneg (p : List Int) (l : List Block) : 0 ≤ countOf p l := by
  have := len_nonneg p
  have := sumOf_nonneg (l := l) (fun x _ => cntB_nonneg x)
  unfold countOf; omega
theorem sumOf_congr {α : Type} {f g : α → Int} : ∀ {l : List α}, (∀ x ∈ l, f x = g x) → sumOf f l = sumOf g l
  | [], _ => rfl
  | x :: l, h => by simp only [sumOf]; rw [h x (by simp), sumOf_congr (fun y hy => h y (by simp [hy]))]
theorem specCountOf_ev (p : List Int) (r : Int) (l : List Block) (h : Small p l) : Ev (fun k => spec_CountOf.f k p r l) (countOf p l) := by
  obtain ⟨hp, hl, hc⟩ := h
  have e : sumOf (fun b : Block => wrap64 ((b.f0.length : Int) + (b.f1.length : Int))) l = sumOf cntB l := sumOf_congr (fun b hb => cnt_wrap b (hl.2 b hb))
  have := add_loop (fun k n i => spec_CountOf.l0 k n i p r l) l z80 (fun b => wrap64 ((b.f0.length : Int) + (b.f1.length : Int))) (fun _ _ _ => rfl) hl.1 (fun b hb => by rw [cnt_wrap b (hl.2 b hb)]; exact cntB_nonneg b) (len p) (len_nonneg p) (by rw [e]; unfold countOf at hc; omega)
  rw [e] at this
  exact this
theorem implCountOf_ev (p : List Int) (r : Int) (l : List Block) (h : Small p l) : Ev (fun k => impl_CountOf.f k p r l) (countOf p l) := by
  obtain ⟨hp, hl, hc⟩ := h
  have e : sumOf (fun b : Block => wrap64 ((b.f0.length : Int) + (b.f1.length : Int))) l = sumOf cntB l := sumOf_congr (fun b hb => cnt_wrap b (hl.2 b hb))
  have := add_loop (fun k n i => impl_CountOf.l0 k n l (l.length : Int) i) l z80 (fun b => wrap64 ((b.f0.length : Int) + (b.f1.length : Int))) (fun k n i => by
    simp only [impl_CountOf.l0]
    by_cases c : i < (l.length : Int)
    · rw [if_pos c, if_pos c, if_pos c]; rfl
    · rw [if_neg c, if_neg c]) hl.1 (fun b hb => by rw [cnt_wrap b (hl.2 b hb)]; exact cntB_nonneg b) (len p) (len_nonneg p) (by rw [e]; unfold countOf at hc; omega)
  rw [e] at this
  exact this
/-- The frame of a law over a function: what is left to be shown is asked of small functions alone. -/
theorem small_of {p : List Int} {l : List LBlock} (h : len p + szBs l ≤ 1048576) : Small p (l.map cBlock) :=
  ⟨(sm_of_sz h).1, smbs_of (sm_of_sz h).2.1, cnt_le h⟩
theorem law_func {p : List Int} {r : Int} {l : List LBlock} (hw : wf25 ⟨p, r, l⟩) {g : Nat → Option Bool} (h : smI p → smBs l → Small p (l.map cBlock) → Ev g true) :
    Ev (fun k => (laws_szFunc.f k p r l 1048576).bind fun t => if t < 0 then some true else g k) true := by
  refine Ev.bind (szFunc_ev p r l hw 1048576 (by decide) (by decide)) ?_
  by_cases c : len p + szBs l ≤ 1048576
  · rw [show rem 1048576 (len p + szBs l) = 1048576 - (len p + szBs l) from if_pos c]
    exact Ev.ineg (by omega) (h (sm_of_sz c).1 (sm_of_sz c).2.1 (small_of c))
  · rw [show rem 1048576 (len p + szBs l) = -1 from if_neg c]
    exact Ev.ipos (by decide) (Ev.now true)
end Go.Proofs.Ytobfgnjdcoidoaa.X
namespace Go.Proofs.Ytobfgnjdcoidoaa.X
open Go.RowKit Go.Proofs.YtobfgnjdcoidoaaW.PrintWords Go.Proofs.YtobfgnjdcoidoaaW.PrintLast Go.Proofs.YtobfgnjdcoidoaaW.PrintMore
attribute [local go_sem] max2_int min2_int max_two min_two max_three min_three max_four min_four   -- for this text's walks alone
set_option linter.unusedVariables false
set_option linter.unusedSimpArgs false

/-! ### impl_isBlockOf: function 31 -/
def impl_isBlockOf.f (l0_0 : List Int) (a0_1 : Int) (l0_2 : List (S80)) (a1 : Int) : Option (Bool) := (impl_isGraph.f l0_0 a0_1 l0_2).bind fun t244 => (if t244 = true then ((impl_within.f a1 0 (wrap64 ((l0_2.length : Int) - 1))).bind fun t245 => (some t245)) else (some false))
set_option maxHeartbeats 8000000 in
set_option maxRecDepth 100000 in
theorem impl_isBlockOf.calls (A0_0 : Option Addr) (c0_0 : Nat) (l0_0 : List Int) (a0_1 : Int) (A0_2 : Option Addr) (c0_2 : Nat) (l0_2 : List (S80)) (a1 : Int) (r : Bool) (w : World) (hr0_0 : Kd.C (Kd.int .i64) w A0_0 l0_0.length l0_0) (hc0_0 : l0_0.length ≤ c0_0) (hr0_2 : Kd.C k80 w A0_2 l0_2.length l0_2) (hc0_2 : l0_2.length ≤ c0_2) (h : impl_isBlockOf.f l0_0 a0_1 l0_2 a1 = some r) :
  Calls Try.prog 31 #[.agg #[.slice A0_0 l0_0.length c0_0, .int .i64 a0_1, .slice A0_2 l0_2.length c0_2], .int .i64 a1] w fun e w' => e = .returned (.bool r) ∧ Below w.heap.size w w' := by
 have hu30 := Try.underlying30
 have HR0_0 := Aside0.mk hr0_0
 have HC0_0 := Aside0.mk hc0_0
 clear hr0_0 hc0_0
 have HR0_2 := Aside0.mk hr0_2
 have HC0_2 := Aside0.mk hc0_2
 clear hr0_2 hc0_2
 have HB := Aside0.mk (Below.refl w.heap.size w)
 have H : ((impl_isGraph.f l0_0 a0_1 l0_2).bind fun t244 => (if t244 = true then ((impl_within.f a1 0 (wrap64 ((l0_2.length : Int) - 1))).bind fun t245 => (some t245)) else (some false))) = some r := h
 clear h
 replace H := Option.bind_eq_some_iff.mp H
 obtain ⟨t244, A30, H⟩ := H
 replace H : (if t244 = true then ((impl_within.f a1 0 (wrap64 ((l0_2.length : Int) - 1))).bind fun t245 => (some t245)) else (some false)) = some r := H
 have A3 := Aside0.mk A30
 clear A30
 by_cases c4 : t244 = true
 ·subst c4
  have H1 := (if_pos rfl).symm.trans H
  clear H
  have H := H1
  clear H1
  replace H := Option.bind_eq_some_iff.mp H
  obtain ⟨t245, A50, H⟩ := H
  replace H : (some t245) = some r := H
  have A5 := Aside0.mk A50
  clear A50
  obtain rfl := Option.some.inj H
  go_enter Try.func31, Try.ntmps31
  go_wp2_with (first | ((with_reducible refine gate_dst (N := 2) rfl ?_); (try (refine gate_guard (by rfl) ?_; dsimp only)); refine box_event ?hg (N := 2) ?hd (cs := #[.slice A0_0 l0_0.length c0_0, .int .i64 a0_1, .slice A0_2 l0_2.length c0_2]) (t := 30) ?hr ?_; (case hd => rfl); (case hg => rfl); (case hr => first | (go_simp; done) | (go_simp; rfl)); intro gb243 hg w6 hbox hb; have n0_ := Aside0.mk (below_step hB_ hb); have n1_ := Aside0.mk (hbox); have n2_ := Aside0.mk ((by rw [hg]; exact (below_size hB_) : w.heap.size ≤ gb243)); have n3_ := Aside0.mk ((by rw [hg]; exact (below_size hB_) : w.heap.size ≤ gb243)); clear HB; have HB := n0_; have BK243 := n1_; have GW243 := n2_; have GE243 := n3_; clear n0_ n1_ n2_ n3_; clear hb hbox hg; obtain ⟨hcz7_0, hcz7_1, hcz7_2, hfz7_0, hfz7_1, hfz7_2⟩ := blkc3_ BK243.out) | ((with_reducible refine gate_callee (f := 36) rfl ?_); refine gL_ (some 6) Try.func36 #[.agg #[.slice A0_0 l0_0.length c0_0, .int .i64 a0_1, .slice A0_2 l0_2.length c0_2]] ?_; (with_reducible refine (impl_isGraph.calls _ _ l0_0 a0_1 _ _ l0_2 true _ ?side1 ?side2 ?side3 ?side4 A3.out).mono ?_); (case side1 => repeat (first | exact (Kd.C_below HR0_0.out HB.out) | (with_reducible refine Kd.C_alloc ?_ _) | (with_reducible refine Kd.C_drewN ?_ _) | (with_reducible refine Kd.C_drew ?_))); (case side2 => exact HC0_0.out); (case side3 => repeat (first | exact (Kd.C_below HR0_2.out HB.out) | (with_reducible refine Kd.C_alloc ?_ _) | (with_reducible refine Kd.C_drewN ?_ _) | (with_reducible refine Kd.C_drew ?_))); (case side4 => exact HC0_2.out); rintro e w8 ⟨rfl, hb⟩; refine ⟨_, rfl, ?_⟩; have n0_ := Aside0.mk (blk_below (g := gb243) (o := .cells #[.slice A0_0 l0_0.length c0_0, .int .i64 a0_1, .slice A0_2 l0_2.length c0_2] 30 (0, 0)) bK243_ hb); have n1_ := Aside0.mk (below_step hS_ hb); clear BK243; clear HB; have BK243 := n0_; have HB := n1_; clear n0_ n1_; (try clear hb); (try clear hb2); (try clear hk); (try clear hi); obtain ⟨hcz9_0, hcz9_1, hcz9_2, hfz9_0, hfz9_1, hfz9_2⟩ := blkc3_ BK243.out) | (go_at_call 45; (with_reducible refine (impl_within.calls a1 0 (wrap64 ((l0_2.length : Int) - 1)) t245 _ A5.out).mono ?_); rintro e w' ⟨rfl, ⟨nd, rfl⟩⟩))
  go_ret
  exact ⟨rG_, hS_⟩
 ·replace c4 := Bool.eq_false_iff.mpr c4
  subst c4
  have H1 := (if_neg (show ¬ (false = true) by decide)).symm.trans H
  clear H
  have H := H1
  clear H1
  obtain rfl := Option.some.inj H
  go_enter Try.func31, Try.ntmps31
  go_wp2_with (first | ((with_reducible refine gate_dst (N := 2) rfl ?_); (try (refine gate_guard (by rfl) ?_; dsimp only)); refine box_event ?hg (N := 2) ?hd (cs := #[.slice A0_0 l0_0.length c0_0, .int .i64 a0_1, .slice A0_2 l0_2.length c0_2]) (t := 30) ?hr ?_; (case hd => rfl); (case hg => rfl); (case hr => first | (go_simp; done) | (go_simp; rfl)); intro gb243 hg w10 hbox hb; have n0_ := Aside0.mk (below_step hB_ hb); have n1_ := Aside0.mk (hbox); have n2_ := Aside0.mk ((by rw [hg]; exact (below_size hB_) : w.heap.size ≤ gb243)); have n3_ := Aside0.mk ((by rw [hg]; exact (below_size hB_) : w.heap.size ≤ gb243)); clear HB; have HB := n0_; have BK243 := n1_; have GW243 := n2_; have GE243 := n3_; clear n0_ n1_ n2_ n3_; clear hb hbox hg; obtain ⟨hcz11_0, hcz11_1, hcz11_2, hfz11_0, hfz11_1, hfz11_2⟩ := blkc3_ BK243.out) | ((with_reducible refine gate_callee (f := 36) rfl ?_); refine gL_ (some 6) Try.func36 #[.agg #[.slice A0_0 l0_0.length c0_0, .int .i64 a0_1, .slice A0_2 l0_2.length c0_2]] ?_; (with_reducible refine (impl_isGraph.calls _ _ l0_0 a0_1 _ _ l0_2 false _ ?side1 ?side2 ?side3 ?side4 A3.out).mono ?_); (case side1 => repeat (first | exact (Kd.C_below HR0_0.out HB.out) | (with_reducible refine Kd.C_alloc ?_ _) | (with_reducible refine Kd.C_drewN ?_ _) | (with_reducible refine Kd.C_drew ?_))); (case side2 => exact HC0_0.out); (case side3 => repeat (first | exact (Kd.C_below HR0_2.out HB.out) | (with_reducible refine Kd.C_alloc ?_ _) | (with_reducible refine Kd.C_drewN ?_ _) | (with_reducible refine Kd.C_drew ?_))); (case side4 => exact HC0_2.out); rintro e w12 ⟨rfl, hb⟩; refine ⟨_, rfl, ?_⟩; have n0_ := Aside0.mk (blk_below (g := gb243) (o := .cells #[.slice A0_0 l0_0.length c0_0, .int .i64 a0_1, .slice A0_2 l0_2.length c0_2] 30 (0, 0)) bK243_ hb); have n1_ := Aside0.mk (below_step hS_ hb); clear BK243; clear HB; have BK243 := n0_; have HB := n1_; clear n0_ n1_; (try clear hb); (try clear hb2); (try clear hk); (try clear hi)))
  go_ret
  exact ⟨rG_, hS_⟩

end Go.Proofs.Ytobfgnjdcoidoaa.X
namespace Go.Proofs.Ytobfgnjdcoidoaa.X
set_option linter.unusedVariables false
set_option linter.unusedSimpArgs false
open Go.RowKit Go.Proofs.YtobfgnjdcoidoaaW.PrintWords Go.Proofs.YtobfgnjdcoidoaaW.PrintLast Go.Proofs.YtobfgnjdcoidoaaW.PrintMore
/-- The places that are marked, from i on. -/
def idx : List Bool → Int → List Int
  | [], _ => []
  | x :: l, i => if x = true then i :: idx l (i + 1) else idx l (i + 1)
theorem idx_ge : ∀ (l : List Bool) (i n : Int), n ∈ idx l i → i ≤ n
  | [], i, n, h => by simp [idx] at h
  | x :: l, i, n, h => by
    simp only [idx] at h
    split at h
    · rcases List.mem_cons.1 h with rfl | h
      · omega
      · have := idx_ge l (i + 1) n h; omega
    · have := idx_ge l (i + 1) n h; omega
theorem mem_idx : ∀ (l : List Bool) (i : Int) (b : Nat), (i + b) ∈ idx l i ↔ l.getD b false = true
  | [], i, b => by simp [idx]
  | x :: l, i, 0 => by
    simp only [idx]
    have hn : ¬ (i ∈ idx l (i + 1)) := fun h => by have := idx_ge _ _ _ h; omega
    by_cases hx : x = true
    · simp [hx]
    · rw [if_neg hx]
      simp only [Int.natCast_zero, Int.add_zero, List.getD_cons_zero]
      exact ⟨fun h => absurd h hn, fun h => absurd h hx⟩
  | x :: l, i, b + 1 => by
    have ih := mem_idx l (i + 1) b
    rw [show i + 1 + (b : Int) = i + ((b + 1 : Nat) : Int) by push_cast; omega] at ih
    simp only [idx, List.getD_cons_succ]
    split
    · rw [List.mem_cons, ih]
      exact ⟨fun h => h.elim (fun h => by exfalso; push_cast at h; omega) id, .inr⟩
    · exact ih
theorem mem_idx0 (l : List Bool) (b : Int) (h : 0 ≤ b) : b ∈ idx l 0 ↔ l.getD b.toNat false = true := by
  have := mem_idx l 0 b.toNat
  rw [show (0 : Int) + (b.toNat : Int) = b by omega] at this
  exact this
theorem idx_length : ∀ (l : List Bool) (i : Int), (idx l i).length ≤ l.length
  | [], i => by simp [idx]
  | x :: l, i => by
    have := idx_length l (i + 1)
    simp only [idx]
    split <;> simp <;> omega
/-- A number put into a list of numbers that rise. -/
def putI (n : Int) : List Int → List Int
  | [] => [n]
  | x :: l => if x < n then x :: putI n l else n :: x :: l
theorem putI_ge (n : Int) : ∀ (l : List Int), (∀ x ∈ l, n ≤ x) → putI n l = n :: l
  | [], _ => rfl
  | x :: l, h => by simp only [putI]; rw [if_neg (by have := h x (by simp); omega)]
theorem idx_set : ∀ (l : List Bool) (i : Int) (b : Nat), b < l.length → l.getD b false = false → idx (l.set b true) i = putI (i + b) (idx l i)
  | [], i, b, h, _ => by simp at h
  | x :: l, i, 0, h, hx => by
    simp only [List.getD_cons_zero] at hx
    subst hx
    simp only [List.set_cons_zero, idx, if_true, Int.natCast_zero, Int.add_zero]
    rw [if_neg (by decide), putI_ge]
    intro y hy
    have := idx_ge _ _ _ hy; omega
  | x :: l, i, b + 1, h, hx => by
    have ih := idx_set l (i + 1) b (by simpa using h) (by simpa using hx)
    rw [show i + 1 + (b : Int) = i + ((b + 1 : Nat) : Int) by push_cast; omega] at ih
    simp only [List.set_cons_succ, idx, ih]
    split
    · simp only [putI]; rw [if_pos (by push_cast; omega)]
    · rfl
/-- Where a block leads. -/
def succsOf (b : Block) : List Int := if b.f2.f0 = 2 then [b.f2.f2] else if b.f2.f0 = 3 then [b.f2.f2, b.f2.f3] else []
theorem succsOf_len (b : Block) : (succsOf b).length ≤ 2 := by
  unfold succsOf
  split
  · simp
  · split <;> simp
/-- All ends lead to blocks, of which there are at most ten. -/
def There (l : List Block) : Prop := l.length ≤ 10 ∧ ∀ b ∈ l, ∀ s ∈ succsOf b, 0 ≤ s ∧ s < l.length
instance (l : List Block) : Decidable (There l) := by unfold There; infer_instance
def bfs (l : List Block) (w : Int) : Nat → List Int → List Bool → List Bool
  | 0, _, out => out
  | _ + 1, [], out => out
  | n + 1, b :: q, out => if b = w ∨ out.getD b.toNat false = true then bfs l w n q out else bfs l w n (q ++ succsOf (l.getD b.toNat z80)) (out.set b.toNat true)
theorem bfs_length (l : List Block) (w : Int) : ∀ (n : Nat) (q : List Int) (out : List Bool), (bfs l w n q out).length = out.length
  | 0, _, _ => rfl
  | _ + 1, [], _ => rfl
  | n + 1, b :: q, out => by
    simp only [bfs]
    split
    · exact bfs_length l w n q out
    · rw [bfs_length l w n _ _]; simp
/-- How many are not marked. -/
def off (out : List Bool) : Nat := out.count false
theorem off_set : ∀ (out : List Bool) (b : Nat), b < out.length → out.getD b false = false → off (out.set b true) + 1 = off out
  | [], b, h, _ => by simp at h
  | x :: l, 0, h, hx => by
    simp only [List.getD_cons_zero] at hx
    subst hx
    simp [off]
  | x :: l, b + 1, h, hx => by
    have ih := off_set l b (by simpa using h) (by simpa using hx)
    unfold off at ih ⊢
    simp only [List.set_cons_succ, List.count_cons]
    omega
/-- What may stand in the queue. -/
def okq (l : List Block) (q : List Int) : Prop := ∀ b ∈ q, 0 ≤ b ∧ b < (l.length : Int)
theorem okq_next {l : List Block} {b : Int} {q : List Int} (h : There l) (hq : okq l (b :: q)) : okq l (q ++ succsOf (l.getD b.toNat z80)) := by
  obtain ⟨h0, h1⟩ := hq b (by simp)
  have hlt : b.toNat < l.length := by omega
  intro c hc
  rcases List.mem_append.1 hc with hc | hc
  · exact hq c (by simp [hc])
  · rw [getD_at l _ _ hlt] at hc
    exact h.2 _ (List.getElem_mem hlt) c hc
/-- The blocks that are reached without w. -/
def reachB (l : List Block) (w : Int) : List Bool := bfs l w (3 * l.length + 1) [0] (List.replicate l.length false)
theorem reachB_length (l : List Block) (w : Int) : (reachB l w).length = l.length := by unfold reachB; rw [bfs_length]; simp
theorem off_replicate (n : Nat) : off (List.replicate n false) = n := by unfold off; simp
theorem idx_replicate : ∀ (n : Nat) (i : Int), idx (List.replicate n false) i = []
  | 0, _ => rfl
  | n + 1, i => by simp only [List.replicate_succ, idx]; rw [if_neg (by decide)]; exact idx_replicate n (i + 1)
def domB (l : List Block) (a b : Int) : Bool := (reachB l (-1)).getD b.toNat false && !((reachB l a).getD b.toNat false)
theorem has_l (l : List Int) (n : Int) (h : smI l) : ∀ (d i : Nat), i + d = l.length → Ev (fun k => spec_l1Has.l0 k l n i) (decide (n ∈ l.drop i)) := by
  unfold smI at h
  intro d
  induction d with
  | zero =>
    intro i hi
    refine Ev.step (fun k => rfl) (Ev.ineg (by omega) (Ev.rw (Ev.now _) ?_))
    rw [List.drop_of_length_le (by omega)]; simp
  | succ d ih =>
    intro i hi
    have hlt : i < l.length := by omega
    refine Ev.step (fun k => rfl) (Ev.ipos (by omega) (Ev.ipos (by omega) ?_))
    rw [show rd l (i : Int) = l[i] from getD_at l _ i hlt, List.drop_eq_getElem_cons hlt]
    by_cases c : l[i] = n
    · exact Ev.ipos c (Ev.rw (Ev.now _) (by simp [c]))
    · refine Ev.ineg c ?_
      rw [show wrap64 ((i : Int) + 1) = ((i + 1 : Nat) : Int) by rw [w64 (by omega) (by omega)]; rfl]
      refine Ev.rw (ih (i + 1) (by omega)) ?_
      rw [decide_eq_decide, List.mem_cons]
      exact ⟨.inr, fun h => h.elim (fun e => absurd e.symm c) id⟩
theorem has_ev (l : List Int) (n : Int) (h : smI l) : Ev (fun k => spec_l1Has.f k l n) (decide (n ∈ l)) := by
  have := has_l l n h l.length 0 (by omega)
  rw [List.drop_zero] at this
  exact this
theorem put_l (l : List Int) (n : Int) (h : smI l) (hn : n ∉ l) : ∀ (d i : Nat), i + d = l.length → Ev (fun k => spec_l1Put.l0 k l n i) (l.take i ++ putI n (l.drop i)) := by
  unfold smI at h
  intro d
  induction d with
  | zero =>
    intro i hi
    obtain rfl : i = l.length := by omega
    refine Ev.step (fun k => rfl) (Ev.ineg (by omega) ?_)
    rw [List.drop_of_length_le (Nat.le_refl _), List.take_of_length_le (Nat.le_refl _)]
    refine Ev.cst ?_
    simp only [Option.bind_some, Int.toNat_natCast, List.nil_append, List.length_nil, List.take_length, List.drop_length, List.append_nil]
    rw [if_pos (by omega), if_pos (by omega), if_pos (by omega), if_pos (by omega), if_pos (by simp; omega)]
    rfl
  | succ d ih =>
    intro i hi
    have hlt : i < l.length := by omega
    refine Ev.step (fun k => rfl) (Ev.ipos (by omega) (Ev.ipos (by omega) ?_))
    rw [show rd l (i : Int) = l[i] from getD_at l _ i hlt]
    by_cases c : l[i] < n
    · refine Ev.ipos c ?_
      rw [show wrap64 ((i : Int) + 1) = ((i + 1 : Nat) : Int) by rw [w64 (by omega) (by omega)]; rfl]
      refine Ev.rw (ih (i + 1) (by omega)) ?_
      rw [List.drop_eq_getElem_cons hlt, List.take_succ_eq_append_getElem hlt]
      simp only [putI]
      rw [if_pos c, List.append_assoc]; rfl
    · refine Ev.ineg c (Ev.ineg (fun e => hn (e ▸ List.getElem_mem hlt)) (Ev.cst ?_))
      simp only [Option.bind_some, Int.toNat_natCast, List.nil_append, List.length_nil]
      have hm : (List.take i l).length = i := by rw [List.length_take]; omega
      rw [if_pos (by omega), if_pos (by omega), if_pos (by omega), if_pos (by simp; omega)]
      have e : putI n (l.drop i) = n :: l.drop i := by
        rw [List.drop_eq_getElem_cons hlt]
        simp only [putI]
        rw [if_neg c]
      rw [e, List.append_assoc]; rfl
theorem put_ev (l : List Int) (n : Int) (h : smI l) (hn : n ∉ l) : Ev (fun k => spec_l1Put.f k l n) (putI n l) := by
  have := put_l l n h hn l.length 0 (by omega)
  rw [List.drop_zero, List.take_zero, List.nil_append] at this
  exact this
theorem implLeads_eq (b : Block) : impl_leadsTo.f b.f2.f0 b.f2.f1 b.f2.f2 b.f2.f3 = some (succsOf b) := by
  unfold impl_leadsTo.f succsOf
  by_cases c2 : b.f2.f0 = 2
  · rw [if_pos c2, if_pos c2]
  · rw [if_neg c2, if_neg c2]
    by_cases c3 : b.f2.f0 = 3
    · rw [if_pos c3, if_pos c3]
    · rw [if_neg c3, if_neg c3]
theorem specSuccs_eq (p : List Int) (r : Int) (l : List Block) (x : Int) (h0 : 0 ≤ x) (h1 : x < (l.length : Int)) : spec_l3Succs.f p r l x = some (succsOf (l.getD x.toNat z80)) := by
  have e : rd_T80 l x = l.getD x.toNat z80 := rfl
  unfold spec_l3Succs.f
  rw [if_pos h0, if_pos h1, e]
  generalize l.getD x.toNat z80 = b
  unfold succsOf
  by_cases c2 : b.f2.f0 = 2
  · rw [if_pos c2, if_pos c2]
  · rw [if_neg c2, if_neg c2]
    by_cases c3 : b.f2.f0 = 3
    · rw [if_pos c3, if_pos c3]
    · rw [if_neg c3, if_neg c3]
theorem okq_tail {l : List Block} {b : Int} {q : List Int} (hq : okq l (b :: q)) : okq l q := fun c hc => hq c (by simp [hc])
theorem implReach_l (p : List Int) (r : Int) (l : List Block) (w : Int) (ht : There l) : ∀ (n : Nat) (q : List Int) (out : List Bool), n ≤ 100 → okq l q → out.length = l.length → q.length + 3 * off out ≤ n → Ev (fun k => impl_reach.l0 k w out q p r l) (bfs l w n q out)
  | 0, [], out, _, _, _, _ => Ev.step (fun k => rfl) (Ev.ineg (by simp) (Ev.now _))
  | 0, b :: q, out, _, _, _, hm => by simp at hm
  | n + 1, [], out, _, _, _, _ => Ev.step (fun k => rfl) (Ev.ineg (by simp) (Ev.now _))
  | n + 1, b :: q, out, hn, hq, ho, hm => by
    obtain ⟨h0, h1⟩ := hq b (by simp)
    have hl : ((b :: q).length : Int) = (q.length : Int) + 1 := by simp
    simp only [List.length_cons] at hm
    refine Ev.step (fun k => rfl) (Ev.ipos (by omega) (Ev.ipos (by omega) (Ev.ipos (by omega) (Ev.bind (a := q) (Ev.cst rfl) ?_))))
    rw [show rd (b :: q) 0 = b from rfl]
    by_cases hb : b = w
    · refine Ev.ipos hb (Ev.rw (implReach_l p r l w ht n q out (by omega) (okq_tail hq) ho (by omega)) ?_)
      simp only [bfs]; rw [if_pos (Or.inl hb)]
    · refine Ev.ineg hb (Ev.ipos h0 (Ev.ipos (by omega) ?_))
      by_cases hv : out.getD b.toNat false = true
      · refine Ev.ipos hv (Ev.rw (implReach_l p r l w ht n q out (by omega) (okq_tail hq) ho (by omega)) ?_)
        simp only [bfs]; rw [if_pos (Or.inr hv)]
      · have hf : out.getD b.toNat false = false := by simpa using hv
        have hs := succsOf_len (l.getD b.toNat z80)
        have hd := off_set out b.toNat (by omega) hf
        refine Ev.ineg hv (Ev.ipos h1 (Ev.bind (Ev.cst (implLeads_eq _)) (Ev.ipos (by show q.length + (succsOf (l.getD b.toNat z80)).length < _; omega) ?_)))
        refine Ev.rw (implReach_l p r l w ht n (q ++ succsOf (l.getD b.toNat z80)) (out.set b.toNat true) (by omega) (okq_next ht hq) (by simpa using ho) (by rw [List.length_append]; omega)) ?_
        simp only [bfs]; rw [if_neg (fun h => h.elim hb hv)]
theorem smI_small {l : List Int} (h : l.length ≤ 200) : smI l := Nat.le_trans h (by decide)
theorem specReach_l (p : List Int) (r : Int) (l : List Block) (w : Int) (ht : There l) : ∀ (n : Nat) (q : List Int) (out : List Bool), n ≤ 100 → okq l q → out.length = l.length → q.length + 3 * off out ≤ n → Ev (fun k => spec_l3Reach.l0 k w (idx out 0) q p r l) (idx (bfs l w n q out) 0)
  | 0, [], out, _, _, _, _ => Ev.succ (by simp only [spec_l3Reach.l0]; exact Ev.ineg (by simp) (Ev.now _))
  | 0, b :: q, out, _, _, _, hm => by simp at hm
  | n + 1, [], out, _, _, _, _ => Ev.succ (by simp only [spec_l3Reach.l0]; exact Ev.ineg (by simp) (Ev.now _))
  | n + 1, b :: q, out, hn, hq, ho, hm => by
    obtain ⟨h0, h1⟩ := hq b (by simp)
    have hl : ((b :: q).length : Int) = (q.length : Int) + 1 := by simp
    simp only [List.length_cons] at hm
    have ht10 := ht.1
    have hi : smI (idx out 0) := smI_small (by have := idx_length out 0; omega)
    have hqs : smI q := smI_small (by omega)
    refine Ev.succ ?_
    simp only [spec_l3Reach.l0]
    refine Ev.ipos (by omega) (Ev.ipos (by omega) (Ev.ipos (by omega) (Ev.bind (a := q) (Ev.cst (specCopy_eq q hqs)) ?_)))
    rw [show rd (b :: q) 0 = b from rfl]
    have hj : ∀ x : Bool, x = true → Ev (fun k => spec_l3Reach.j1 k w (idx out 0) q b x p r l) (idx (bfs l w n q out) 0) := by
      intro x hx
      subst hx
      refine Ev.succ ?_
      simp only [spec_l3Reach.j1]
      exact Ev.ipos trivial (specReach_l p r l w ht n q out (by omega) (okq_tail hq) ho (by omega))
    by_cases hb : b = w
    · refine Ev.ipos hb (Ev.rw (hj true rfl) ?_)
      simp only [bfs]; rw [if_pos (Or.inl hb)]
    · refine Ev.ineg hb (Ev.bind (has_ev _ b hi) ?_)
      by_cases hv : out.getD b.toNat false = true
      · refine Ev.rw (hj _ (decide_eq_true ((mem_idx0 out b h0).2 hv))) ?_
        simp only [bfs]; rw [if_pos (Or.inr hv)]
      · have hf : out.getD b.toNat false = false := by simpa using hv
        have hs := succsOf_len (l.getD b.toNat z80)
        have hd := off_set out b.toNat (by omega) hf
        have hni : b ∉ idx out 0 := fun h => hv ((mem_idx0 out b h0).1 h)
        have hset : idx (out.set b.toNat true) 0 = putI b (idx out 0) := by
          have := idx_set out 0 b.toNat (by omega) hf
          rw [show (0 : Int) + (b.toNat : Int) = b by omega] at this
          exact this
        refine Ev.succ ?_
        simp only [spec_l3Reach.j1]
        rw [decide_eq_false hni]
        refine Ev.ineg (by decide) (Ev.bind (put_ev _ b hi hni) (Ev.bind (Ev.cst (specSuccs_eq p r l b h0 h1)) (Ev.ipos (by omega) ?_)))
        rw [← hset]
        refine Ev.rw (specReach_l p r l w ht n (q ++ succsOf (l.getD b.toNat z80)) (out.set b.toNat true) (by omega) (okq_next ht hq) (by simpa using ho) (by rw [List.length_append]; omega)) ?_
        simp only [bfs]; rw [if_neg (fun h => h.elim hb hv)]
theorem okq_first {l : List Block} (h : 0 < l.length) : okq l [0] := fun b hb => by
  obtain rfl : b = 0 := by simpa using hb
  omega
theorem implReach_ev (p : List Int) (r : Int) (l : List Block) (w : Int) (ht : There l) (h : 0 < l.length) : Ev (fun k => impl_reach.f k p r l w) (reachB l w) := by
  have ht10 := ht.1
  refine Ev.ipos (by omega) (Ev.ipos (by simp; omega) ?_)
  rw [show ((l.length : Int)).toNat = l.length from by simp]
  exact implReach_l p r l w ht (3 * l.length + 1) [0] _ (by omega) (okq_first h) (by simp) (by rw [off_replicate]; simp; omega)
theorem specReach_ev (p : List Int) (r : Int) (l : List Block) (w : Int) (ht : There l) (h : 0 < l.length) : Ev (fun k => spec_l3Reach.f k p r l w) (idx (reachB l w) 0) := by
  have ht10 := ht.1
  have hz := idx_replicate l.length 0
  refine Ev.bind (a := []) (Ev.cst rfl) ?_
  by_cases hw : w = 0
  · subst hw
    refine Ev.ipos rfl (Ev.rw (Ev.now _) ?_)
    unfold reachB
    rw [show 3 * l.length + 1 = (3 * l.length - 1 + 1) + 1 by omega]
    simp only [bfs]
    rw [if_pos (Or.inl trivial), hz]
  · refine Ev.ineg hw ?_
    have := specReach_l p r l w ht (3 * l.length + 1) [0] (List.replicate l.length false) (by omega) (okq_first h) (by simp) (by rw [off_replicate]; simp; omega)
    rw [hz] at this
    exact this
/-- All ends lead to blocks (any number of blocks). -/
def EndsOk (l : List Block) : Prop := ∀ b ∈ l, ∀ s ∈ succsOf b, 0 ≤ s ∧ s < (l.length : Int)
instance (l : List Block) : Decidable (EndsOk l) := by unfold EndsOk; infer_instance
theorem There_iff (l : List Block) : There l ↔ l.length ≤ 10 ∧ EndsOk l := Iff.rfl
theorem implGraph_eq (p : List Int) (r : Int) (l : List Block) (h : l.length ≤ 1048576) : impl_isGraph.f p r l = some (decide (1 ≤ l.length ∧ There l)) := by
  have hw : wrap64 ((l.length : Int) - 1) = (l.length : Int) - 1 := w64 (by omega) (by omega)
  unfold impl_isGraph.f
  congr 1
  have key : ∀ b : Block, ((impl_isGraph.ends b).any (impl_isGraph.far (l.length : Int)) = true) ↔ ∃ s ∈ succsOf b, ¬ (0 ≤ s ∧ s < (l.length : Int)) := by
    intro b
    rw [List.any_eq_true]
    constructor
    · rintro ⟨s, hs, hf⟩
      refine ⟨s, hs, ?_⟩
      unfold impl_isGraph.far at hf
      rw [hw] at hf
      simp at hf
      omega
    · rintro ⟨s, hs, hf⟩
      refine ⟨s, hs, ?_⟩
      unfold impl_isGraph.far
      rw [hw]
      simp
      omega
  have e : (!(l.any fun b => (impl_isGraph.ends b).any (impl_isGraph.far (l.length : Int)))) = decide (EndsOk l) := by
    rw [Bool.eq_iff_iff, decide_eq_true_eq, Bool.not_eq_true', List.any_eq_false]
    constructor
    · intro hh b hb s hs
      exact Classical.byContradiction fun c => hh b hb ((key b).2 ⟨s, hs, c⟩)
    · intro hh b hb hany
      obtain ⟨s, hs, c⟩ := (key b).1 hany
      exact c (hh b hb s hs)
  rw [e, Bool.eq_iff_iff, Bool.and_eq_true, decide_eq_true_eq, decide_eq_true_eq, decide_eq_true_eq, There_iff]
  constructor
  · rintro ⟨⟨h1, h2⟩, h3⟩; exact ⟨by omega, by omega, h3⟩
  · rintro ⟨h1, h2, h3⟩; exact ⟨⟨by omega, by omega⟩, h3⟩
theorem specThere_l1 (p : List Int) (r : Int) (l : List Block) (a : Int) (h : l.length ≤ 1048576) (i : Nat) (hil : i < l.length) (s : List Int) (hs : s.length ≤ 2) (R : Bool) (hR : Ev (fun k => spec_l3There.l0 k a (l.length : Int) ((i + 1 : Nat) : Int) p r l) R) :
    ∀ (d j : Nat), j + d = s.length → Ev (fun k => spec_l3There.l1 k a (l.length : Int) i s j p r l) (decide (∀ x ∈ s.drop j, 0 ≤ x ∧ x < (l.length : Int)) && R) := by
  have hw : wrap64 ((l.length : Int) - 1) = (l.length : Int) - 1 := w64 (by omega) (by omega)
  intro d
  induction d with
  | zero =>
    intro j hj
    refine Ev.succ ?_
    simp only [spec_l3There.l1]
    refine Ev.ineg (by omega) ?_
    rw [show wrap64 ((i : Int) + 1) = ((i + 1 : Nat) : Int) by rw [w64 (by omega) (by omega)]; rfl]
    refine Ev.rw hR ?_
    rw [List.drop_of_length_le (by omega)]; simp
  | succ d ih =>
    intro j hj
    have hlt : j < s.length := by omega
    refine Ev.succ ?_
    simp only [spec_l3There.l1]
    rw [hw, show rd s (j : Int) = s[j] from getD_at s _ j hlt]
    refine Ev.ipos (by omega) (Ev.ipos (by omega) (Ev.bind (Ev.cst (specIn_eq _ _ _)) ?_))
    rw [List.drop_eq_getElem_cons hlt]
    by_cases c : 0 ≤ s[j] ∧ s[j] ≤ (l.length : Int) - 1
    · refine Ev.ipos (decide_eq_true c) ?_
      rw [show wrap64 ((j : Int) + 1) = ((j + 1 : Nat) : Int) by rw [w64 (by omega) (by omega)]; rfl]
      refine Ev.rw (ih (j + 1) (by omega)) ?_
      congr 1
      rw [decide_eq_decide]
      simp only [List.mem_cons, forall_eq_or_imp]
      exact ⟨fun h => ⟨⟨c.1, by omega⟩, h⟩, fun h => h.2⟩
    · refine Ev.ineg (by rw [decide_eq_false c]; decide) (Ev.rw (Ev.now _) ?_)
      rw [decide_eq_false (fun h => c (by have := h _ List.mem_cons_self; exact ⟨this.1, by omega⟩))]; rfl
theorem specThere_l0 (p : List Int) (r : Int) (l : List Block) (a : Int) (h : l.length ≤ 1048576) : ∀ (d i : Nat), i + d = l.length →
    Ev (fun k => spec_l3There.l0 k a (l.length : Int) i p r l) (decide (∀ b ∈ l.drop i, ∀ s ∈ succsOf b, 0 ≤ s ∧ s < (l.length : Int)) && (decide (0 ≤ a ∧ a ≤ (l.length : Int) - 1) && decide ((l.length : Int) ≤ 10))) := by
  have hw : wrap64 ((l.length : Int) - 1) = (l.length : Int) - 1 := w64 (by omega) (by omega)
  intro d
  induction d with
  | zero =>
    intro i hi
    refine Ev.succ ?_
    simp only [spec_l3There.l0]
    rw [hw]
    refine Ev.ineg (by omega) (Ev.bind (Ev.cst (specIn_eq _ _ _)) ?_)
    rw [List.drop_of_length_le (by omega), show decide (∀ b ∈ ([] : List Block), ∀ s ∈ succsOf b, 0 ≤ s ∧ s < (l.length : Int)) = true by simp, Bool.true_and]
    by_cases c : 0 ≤ a ∧ a ≤ (l.length : Int) - 1
    · rw [decide_eq_true c, Bool.true_and]; exact Ev.ipos rfl (Ev.now _)
    · rw [decide_eq_false c, Bool.false_and]; exact Ev.ineg (by decide) (Ev.now _)
  | succ d ih =>
    intro i hi
    have hlt : i < l.length := by omega
    refine Ev.succ ?_
    simp only [spec_l3There.l0]
    refine Ev.ipos (by omega) (Ev.bind (Ev.cst (specSuccs_eq p r l i (by omega) (by omega))) ?_)
    rw [show (i : Int).toNat = i from rfl, getD_at l _ i hlt]
    refine Ev.rw (specThere_l1 p r l a h i hlt (succsOf l[i]) (succsOf_len _) _ (ih (i + 1) (by omega)) _ 0 (Nat.zero_add _)) ?_
    rw [List.drop_zero, ← Bool.and_assoc, ← Bool.decide_and]
    congr 1
    rw [decide_eq_decide, List.drop_eq_getElem_cons hlt]
    simp only [List.mem_cons, forall_eq_or_imp]
theorem specThere_ev (p : List Int) (r : Int) (l : List Block) (a : Int) (h : l.length ≤ 1048576) : Ev (fun k => spec_l3There.f k p r l a) (decide ((0 ≤ a ∧ a < (l.length : Int)) ∧ There l)) := by
  refine Ev.rw (specThere_l0 p r l a h l.length 0 (by omega)) ?_
  rw [List.drop_zero, ← Bool.decide_and, ← Bool.decide_and, decide_eq_decide, There_iff]
  unfold EndsOk
  exact ⟨fun h => ⟨by omega, by omega, h.1⟩, fun h => ⟨h.2.2, by omega, by omega⟩⟩
theorem implBlockOf_eq (p : List Int) (r : Int) (l : List Block) (a : Int) (h : l.length ≤ 1048576) : impl_isBlockOf.f p r l a = some (decide ((0 ≤ a ∧ a < (l.length : Int)) ∧ There l)) := by
  unfold impl_isBlockOf.f
  rw [implGraph_eq p r l h]
  simp only [Option.bind_some]
  rw [w64 (x := (l.length : Int) - 1) (by omega) (by omega), implIn_eq]
  simp only [Option.bind_some]
  by_cases c : 1 ≤ l.length ∧ There l
  · rw [if_pos (decide_eq_true c)]
    congr 1
    rw [decide_eq_decide]
    exact ⟨fun h => ⟨by omega, c.2⟩, fun h => by omega⟩
  · rw [if_neg (by rw [decide_eq_false c]; decide), decide_eq_false (fun h => c ⟨by omega, h.2⟩)]
end Go.Proofs.Ytobfgnjdcoidoaa.X
namespace Go.Proofs.Ytobfgnjdcoidoaa.X
set_option linter.unusedVariables false
set_option linter.unusedSimpArgs false
open Go.RowKit Go.Proofs.YtobfgnjdcoidoaaW.PrintWords Go.Proofs.YtobfgnjdcoidoaaW.PrintLast Go.Proofs.YtobfgnjdcoidoaaW.PrintMore
/-- Where the block of a number leads. -/
def nexts (l : List Block) (a : Int) : List Int := succsOf (l.getD a.toNat z80)
/-- Reached from the first block over blocks of which P holds. -/
inductive Re (l : List Block) (P : Int → Prop) : Int → Prop
  | first : P 0 → Re l P 0
  | next {a b : Int} : Re l P a → b ∈ nexts l a → P b → Re l P b
theorem Re.holds {l : List Block} {P : Int → Prop} {b : Int} (h : Re l P b) : P b := by
  cases h with
  | first h => exact h
  | next _ _ h => exact h
theorem Re.mono {l : List Block} {P Q : Int → Prop} (hpq : ∀ x, P x → Q x) {b : Int} (h : Re l P b) : Re l Q b := by
  induction h with
  | first h => exact .first (hpq _ h)
  | next _ hb h ih => exact .next ih hb (hpq _ h)
theorem Re.range {l : List Block} {P : Int → Prop} (ht : There l) (h0 : 0 < l.length) {b : Int} (h : Re l P b) : 0 ≤ b ∧ b < (l.length : Int) := by
  induction h with
  | first _ => omega
  | @next a b _ hb _ ih =>
    have hlt : a.toNat < l.length := by omega
    unfold nexts at hb
    rw [getD_at l _ _ hlt] at hb
    exact ht.2 _ (List.getElem_mem hlt) _ hb
/-- The marks: each marked block is reached; where a marked block leads is marked, or waits, or is w. -/
structure Marks (l : List Block) (w : Int) (q : List Int) (out : List Bool) : Prop where
  len : out.length = l.length
  okq : okq l q
  sound : ∀ b : Int, 0 ≤ b → out.getD b.toNat false = true → Re l (· ≠ w) b
  queue : ∀ b ∈ q, b = w ∨ Re l (· ≠ w) b
  closed : ∀ a : Int, 0 ≤ a → out.getD a.toNat false = true → ∀ b ∈ nexts l a, b = w ∨ out.getD b.toNat false = true ∨ b ∈ q
  start : (0 : Int) = w ∨ out.getD 0 false = true ∨ (0 : Int) ∈ q
theorem getD_set_ne (out : List Bool) (i j : Nat) (h : i ≠ j) : (out.set i true).getD j false = out.getD j false := by
  simp [List.getD, List.getElem?_set, h]
theorem getD_set_eq (out : List Bool) (i : Nat) (h : i < out.length) : (out.set i true).getD i false = true := by
  simp [List.getD, List.getElem?_set, h]
theorem getD_set_le (out : List Bool) (i j : Nat) (h : out.getD j false = true) : (out.set i true).getD j false = true := by
  by_cases e : i = j
  · subst e
    refine getD_set_eq out i ?_
    rcases Nat.lt_or_ge i out.length with h' | h'
    · exact h'
    · rw [List.getD_eq_getElem?_getD, List.getElem?_eq_none h'] at h; cases h
  · rw [getD_set_ne out i j e]; exact h
theorem bfs_marks (l : List Block) (w : Int) (ht : There l) : ∀ (n : Nat) (q : List Int) (out : List Bool), Marks l w q out → q.length + 3 * off out ≤ n → Marks l w [] (bfs l w n q out)
  | 0, [], out, h, _ => h
  | 0, b :: q, out, _, hm => by simp at hm
  | n + 1, [], out, h, _ => h
  | n + 1, b :: q, out, h, hm => by
    obtain ⟨h0, h1⟩ := h.okq b (by simp)
    simp only [List.length_cons] at hm
    have hlt : b.toNat < out.length := by rw [h.len]; omega
    simp only [bfs]
    by_cases hc : b = w ∨ out.getD b.toNat false = true
    · rw [if_pos hc]
      refine bfs_marks l w ht n q out ⟨h.len, okq_tail h.okq, h.sound, fun x hx => h.queue x (by simp [hx]), ?_, ?_⟩ (by omega)
      · intro a ha hv x hx
        rcases h.closed a ha hv x hx with e | e | e
        · exact .inl e
        · exact .inr (.inl e)
        · rcases List.mem_cons.1 e with rfl | e
          · rcases hc with hc | hc
            · exact .inl hc
            · exact .inr (.inl hc)
          · exact .inr (.inr e)
      · rcases h.start with e | e | e
        · exact .inl e
        · exact .inr (.inl e)
        · rcases List.mem_cons.1 e with rfl | e
          · rcases hc with hc | hc
            · exact .inl hc
            · exact .inr (.inl hc)
          · exact .inr (.inr e)
    · rw [if_neg hc]
      have hbw : b ≠ w := fun e => hc (.inl e)
      have hbv : out.getD b.toNat false = false := by
        have : ¬ out.getD b.toNat false = true := fun e => hc (.inr e)
        simpa using this
      have hre : Re l (· ≠ w) b := (h.queue b (by simp)).resolve_left hbw
      have hs := succsOf_len (l.getD b.toNat z80)
      have hd := off_set out b.toNat hlt hbv
      refine bfs_marks l w ht n _ _ ⟨by simpa using h.len, okq_next ht h.okq, ?_, ?_, ?_, ?_⟩ (by rw [List.length_append]; omega)
      · intro a ha hv
        by_cases e : b.toNat = a.toNat
        · have : a = b := by omega
          subst this; exact hre
        · rw [getD_set_ne out _ _ e] at hv
          exact h.sound a ha hv
      · intro x hx
        rcases List.mem_append.1 hx with hx | hx
        · exact h.queue x (by simp [hx])
        · by_cases e : x = w
          · exact .inl e
          · exact .inr (.next hre hx e)
      · intro a ha hv x hx
        by_cases e : b.toNat = a.toNat
        · have : a = b := by omega
          subst this
          exact .inr (.inr (List.mem_append.2 (.inr hx)))
        · rw [getD_set_ne out _ _ e] at hv
          rcases h.closed a ha hv x hx with e' | e' | e'
          · exact .inl e'
          · exact .inr (.inl (getD_set_le out _ _ e'))
          · rcases List.mem_cons.1 e' with rfl | e'
            · exact .inr (.inl (getD_set_eq out _ hlt))
            · exact .inr (.inr (List.mem_append.2 (.inl e')))
      · rcases h.start with e' | e' | e'
        · exact .inl e'
        · exact .inr (.inl (getD_set_le out _ _ e'))
        · rcases List.mem_cons.1 e' with rfl | e'
          · exact .inr (.inl (getD_set_eq out _ hlt))
          · exact .inr (.inr (List.mem_append.2 (.inl e')))
theorem reach_marks (l : List Block) (w : Int) (ht : There l) (h0 : 0 < l.length) : Marks l w [] (reachB l w) := by
  have hno : ∀ i : Nat, (List.replicate l.length false).getD i false = false := by
    intro i
    rw [List.getD_eq_getElem?_getD, List.getElem?_replicate]
    split <;> rfl
  refine bfs_marks l w ht _ _ _ ⟨by simp, okq_first h0, ?_, ?_, ?_, .inr (.inr (by simp))⟩ (by rw [off_replicate]; simp; omega)
  · intro b _ hv; rw [hno] at hv; cases hv
  · intro b hb
    obtain rfl : b = 0 := by simpa using hb
    by_cases e : (0 : Int) = w
    · exact .inl e
    · exact .inr (.first e)
  · intro a _ hv; rw [hno] at hv; cases hv
theorem reach_iff (l : List Block) (w : Int) (ht : There l) (h0 : 0 < l.length) (b : Int) (hb : 0 ≤ b) : (reachB l w).getD b.toNat false = true ↔ Re l (· ≠ w) b := by
  have hM := reach_marks l w ht h0
  refine ⟨hM.sound b hb, fun h => ?_⟩
  clear hb
  induction h with
  | first h =>
    rcases hM.start with e | e | e
    · exact absurd e h
    · exact e
    · cases e
  | next ha hx hn ih =>
    have hr := Re.range ht h0 ha
    rcases hM.closed _ hr.1 ih _ hx with e | e | e
    · exact absurd e hn
    · exact e
    · cases e
theorem Re.any {l : List Block} {P : Int → Prop} {b : Int} (ht : There l) (h0 : 0 < l.length) (h : Re l P b) : Re l (· ≠ -1) b := by
  induction h with
  | first _ => exact .first (by decide)
  | @next a b ha hx hp ih => exact .next ih hx (by have := (Re.range ht h0 (.next ha hx hp)).1; omega)
/-- a dominates b. -/
def Dm (l : List Block) (a b : Int) : Prop := Re l (· ≠ -1) b ∧ ¬ Re l (· ≠ a) b
theorem domB_iff (l : List Block) (ht : There l) (h0 : 0 < l.length) (a b : Int) (hb : 0 ≤ b) : domB l a b = true ↔ Dm l a b := by
  unfold domB Dm
  rw [Bool.and_eq_true, reach_iff l (-1) ht h0 b hb, Bool.not_eq_true', ← Bool.not_eq_true, reach_iff l a ht h0 b hb]
theorem Re.split {l : List Block} {P : Int → Prop} {b c : Int} (h : Re l P c) : Re l (fun x => P x ∧ x ≠ b) c ∨ Re l P b := by
  induction h with
  | first hp =>
    by_cases e : (0 : Int) = b
    · exact .inr (e ▸ .first hp)
    · exact .inl (.first ⟨hp, e⟩)
  | @next a c ha hx hp ih =>
    rcases ih with ih | ih
    · by_cases e : c = b
      · exact .inr (e ▸ .next ha hx hp)
      · exact .inl (.next ih hx ⟨hp, e⟩)
    · exact .inr ih
theorem Dm.self {l : List Block} {b : Int} (h : Re l (· ≠ -1) b) : Dm l b b := ⟨h, fun h => h.holds rfl⟩
theorem Dm.zero {l : List Block} {b : Int} (h : Re l (· ≠ -1) b) : Dm l 0 b := by
  refine ⟨h, fun h => ?_⟩
  have : ∀ x, Re l (· ≠ 0) x → False := by
    intro x hx
    induction hx with
    | first h => exact h rfl
    | next _ _ _ ih => exact ih
  exact this _ h
theorem Dm.reached {l : List Block} {a b : Int} (h : Dm l a b) : Re l (· ≠ -1) a := by
  rcases Re.split (b := a) h.1 with h' | h'
  · exact absurd (h'.mono fun _ hx => hx.2) h.2
  · exact h'
theorem Dm.trans {l : List Block} {a b c : Int} (h : Dm l a b) (k : Dm l b c) : Dm l a c := by
  refine ⟨k.1, fun hr => ?_⟩
  rcases Re.split (b := b) hr with h' | h'
  · exact k.2 (h'.mono fun _ hx => hx.2)
  · exact h.2 h'
theorem Dm.antisymm {l : List Block} {a b : Int} (h : Dm l a b) (k : Dm l b a) : a = b := by
  refine Classical.byContradiction fun hab => ?_
  have key : ∀ c, Re l (· ≠ -1) c → Re l (fun x => x ≠ a ∧ x ≠ b) c ∨ Re l (· ≠ b) a ∨ Re l (· ≠ a) b := by
    intro c hc
    induction hc with
    | first _ =>
      by_cases e : (0 : Int) = a
      · exact .inr (.inl (e ▸ .first (fun e' => hab (e.symm.trans e'))))
      · by_cases e' : (0 : Int) = b
        · exact .inr (.inr (e' ▸ .first e))
        · exact .inl (.first ⟨e, e'⟩)
    | @next x c ha hx _ ih =>
      rcases ih with ih | ih
      · by_cases e : c = a
        · exact .inr (.inl (e ▸ .next (ih.mono fun _ hx => hx.2) hx (fun e' => hab (e.symm.trans e'))))
        · by_cases e' : c = b
          · exact .inr (.inr (e' ▸ .next (ih.mono fun _ hx => hx.1) hx e))
          · exact .inl (.next ih hx ⟨e, e'⟩)
      · exact .inr ih
  rcases key a k.1 with h' | h' | h'
  · exact h'.holds.1 rfl
  · exact k.2 h'
  · exact h.2 h'
theorem Dm.chain {l : List Block} {a c b : Int} (h : Dm l a b) (k : Dm l c b) : Dm l a c ∨ Dm l c a := by
  by_cases hac : a = c
  · subst hac; exact .inl (Dm.self h.reached)
  refine Classical.byContradiction fun hn => ?_
  have h1 : Re l (· ≠ a) c := Classical.byContradiction fun e => hn (.inl ⟨k.reached, e⟩)
  have h2 : Re l (· ≠ c) a := Classical.byContradiction fun e => hn (.inr ⟨h.reached, e⟩)
  have key : ∀ x, Re l (· ≠ -1) x → Re l (· ≠ a) x ∨ Re l (· ≠ c) x := by
    intro x hx
    induction hx with
    | first _ =>
      by_cases e : (0 : Int) = a
      · exact .inr (.first (fun e' => hac (e.symm.trans e')))
      · exact .inl (.first e)
    | @next y x ha hx _ ih =>
      by_cases e : x = a
      · exact .inr (e ▸ h2)
      · by_cases e' : x = c
        · exact .inl (e' ▸ h1)
        · rcases ih with ih | ih
          · exact .inl (.next ih hx e)
          · exact .inr (.next ih hx e')
  rcases key b h.1 with h' | h'
  · exact h.2 h'
  · exact k.2 h'
end Go.Proofs.Ytobfgnjdcoidoaa.X
namespace Go.Proofs.Ytobfgnjdcoidoaa.X
set_option linter.unusedVariables false
set_option linter.unusedSimpArgs false
open Go.RowKit Go.Proofs.YtobfgnjdcoidoaaW.PrintWords Go.Proofs.YtobfgnjdcoidoaaW.PrintLast Go.Proofs.YtobfgnjdcoidoaaW.PrintMore
theorem implReached_l (B : List Bool) (hB : B.length ≤ 1000) : ∀ (d i : Nat) (acc : List Int), i + d = B.length → acc.length ≤ i → Ev (fun k => impl_Reached.l0 k acc B (B.length : Int) i) (acc ++ idx (B.drop i) i) := by
  intro d
  induction d with
  | zero =>
    intro i acc hi ha
    refine Ev.step (fun k => rfl) (Ev.ineg (by omega) (Ev.rw (Ev.now _) ?_))
    rw [List.drop_of_length_le (by omega)]; simp [idx]
  | succ d ih =>
    intro i acc hi ha
    have hlt : i < B.length := by omega
    have hw : wrap64 ((i : Int) + 1) = ((i + 1 : Nat) : Int) := by rw [w64 (by omega) (by omega)]; rfl
    have hr : rdOf false B (i : Int) = B[i] := getD_at B false i hlt
    refine Ev.step (fun k => rfl) (Ev.ipos (by omega) (Ev.ipos (by omega) (Ev.ipos (by omega) ?_)))
    rw [hr, hw, List.drop_eq_getElem_cons hlt]
    simp only [idx]
    by_cases c : B[i] = true
    · rw [if_pos c]
      refine Ev.ipos c (Ev.ipos (by omega) (Ev.rw (ih (i + 1) (acc ++ [(i : Int)]) (by omega) (by simp; omega)) ?_))
      rw [List.append_assoc]; rfl
    · rw [if_neg c]
      exact Ev.ineg c (ih (i + 1) acc (by omega) (by omega))
/-- The blocks that are reached. -/
def reachedL (l : List Block) : List Int := if 1 ≤ l.length ∧ There l then idx (reachB l (-1)) 0 else []
theorem implReached_ev (p : List Int) (r : Int) (l : List Block) (h : l.length ≤ 1048576) : Ev (fun k => impl_Reached.f k p r l) (reachedL l) := by
  unfold reachedL
  refine Ev.bind (Ev.cst (implGraph_eq p r l h)) ?_
  by_cases c : 1 ≤ l.length ∧ There l
  · rw [if_pos c]
    have h10 := c.2.1
    have hl := reachB_length l (-1)
    refine Ev.ipos (decide_eq_true c) (Ev.bind (implReach_ev p r l (-1) c.2 (by omega)) ?_)
    have := implReached_l (reachB l (-1)) (by omega) (reachB l (-1)).length 0 [] (by omega) (Nat.le_refl _)
    rw [List.drop_zero, List.nil_append] at this
    exact this
  · rw [if_neg c]
    exact Ev.ineg (by rw [decide_eq_false c]; decide) (Ev.now _)
theorem idx_lt : ∀ (B : List Bool) (i : Int), (idx B i).Pairwise (· < ·)
  | [], i => by simp [idx]
  | x :: B, i => by
    simp only [idx]
    split
    · refine List.pairwise_cons.2 ⟨fun y hy => ?_, idx_lt B (i + 1)⟩
      have := idx_ge _ _ _ hy; omega
    · exact idx_lt B (i + 1)
theorem mem_reachedL {l : List Block} {x : Int} (h : x ∈ reachedL l) : There l ∧ (0 ≤ x ∧ x < (l.length : Int)) ∧ Re l (· ≠ -1) x := by
  unfold reachedL at h
  by_cases c : 1 ≤ l.length ∧ There l
  · rw [if_pos c] at h
    have h0 := idx_ge _ _ _ h
    have hr := (reach_iff l (-1) c.2 (by omega) x h0).1 ((mem_idx0 _ x h0).1 h)
    exact ⟨c.2, hr.range c.2 (by omega), hr⟩
  · rw [if_neg c] at h; cases h
theorem reachedL_inj {l : List Block} {i j : Nat} (hi : i < (reachedL l).length) (hj : j < (reachedL l).length) (e : (reachedL l)[i] = (reachedL l)[j]) : i = j := by
  have hp : (reachedL l).Pairwise (· < ·) := by
    unfold reachedL
    split
    · exact idx_lt _ _
    · exact List.Pairwise.nil
  rw [List.pairwise_iff_getElem] at hp
  rcases Nat.lt_trichotomy i j with c | c | c
  · have := hp i j hi hj c; omega
  · exact c
  · have := hp j i hj hi c; omega
theorem reachedL_len (l : List Block) : (reachedL l).length ≤ 10 := by
  unfold reachedL
  split
  · rename_i c
    have := idx_length (reachB l (-1)) 0
    rw [reachB_length] at this
    have := c.2.1
    omega
  · simp
end Go.Proofs.Ytobfgnjdcoidoaa.X
namespace Go.Proofs.Ytobfgnjdcoidoaa.X
set_option linter.unusedVariables false
set_option linter.unusedSimpArgs false
open Go.RowKit Go.Proofs.YtobfgnjdcoidoaaW.PrintWords Go.Proofs.YtobfgnjdcoidoaaW.PrintLast Go.Proofs.YtobfgnjdcoidoaaW.PrintMore
/-- n, n+1, .. -/
def upFrom : Nat → Int → List Int
  | 0, _ => []
  | d + 1, n => n :: upFrom d (n + 1)
theorem upFrom_length : ∀ (d : Nat) (n : Int), (upFrom d n).length = d
  | 0, _ => rfl
  | d + 1, n => by simp [upFrom, upFrom_length d (n + 1)]
theorem upFrom_get : ∀ (d : Nat) (n : Int) (i : Nat) (h : i < (upFrom d n).length), (upFrom d n)[i] = n + i
  | 0, _, i, h => by simp [upFrom] at h
  | d + 1, n, 0, h => by simp [upFrom]
  | d + 1, n, i + 1, h => by
    simp only [upFrom, List.getElem_cons_succ]
    rw [upFrom_get d (n + 1) i (by simpa [upFrom] using h)]
    push_cast; omega
theorem markInt64S_ev (l : List Int) (h : smI l) (n : Int) (h0 : 0 ≤ n) (h1 : n ≤ 17592186044416) : Ev (fun k => laws_markInt64S.f k l n) (n + len l, upFrom l.length n) := by
  unfold smI at h
  suffices hh : ∀ (d i : Nat) (x : List Int) (m : Int), i + d = x.length → x.length = l.length → m = n + i → Ev (fun k => laws_markInt64S.l0 k x m i) (n + len l, x.take i ++ upFrom d m) by
    have := hh l.length 0 l n (by omega) rfl (by simp)
    simp only [List.take_zero, List.nil_append] at this
    exact this
  intro d
  induction d with
  | zero =>
    intro i x m hi hx hm
    refine Ev.step (fun k => rfl) (Ev.ineg (by omega) (Ev.rw (Ev.now _) ?_))
    rw [List.take_of_length_le (by omega)]
    simp only [upFrom, List.append_nil]
    refine Prod.ext ?_ rfl
    show m = n + len l
    unfold len; omega
  | succ d ih =>
    intro i x m hi hx hm
    have hlt : i < x.length := by omega
    refine Ev.step (fun k => rfl) (Ev.ipos (by omega) (Ev.ipos (by omega) ?_))
    rw [show (i : Int).toNat = i from rfl, w64 (x := m + 1) (by omega) (by omega), show wrap64 ((i : Int) + 1) = ((i + 1 : Nat) : Int) by rw [w64 (by omega) (by omega)]; rfl]
    refine Ev.rw (ih (i + 1) (x.set i m) (m + 1) (by simp; omega) (by simpa using hx) (by push_cast; omega)) ?_
    refine Prod.ext rfl ?_
    show (x.set i m).take (i + 1) ++ upFrom d (m + 1) = x.take i ++ (m :: upFrom d (m + 1))
    rw [List.take_set, List.take_succ_eq_append_getElem hlt, List.set_append]
    simp [Nat.min_eq_left (Nat.le_of_lt hlt)]
theorem heldInt64S_ev (D : Nat) (hD : D ≤ 1048576) (n : Int) (h0 : 0 ≤ n) (h1 : n ≤ 17592186044416) : Ev (fun k => laws_heldInt64S.f k (upFrom D n) n) (n + D) := by
  have hl := upFrom_length D n
  suffices hh : ∀ (d i : Nat) (m : Int), i + d = D → m = n + i → Ev (fun k => laws_heldInt64S.l0 k (upFrom D n) m i) (n + D) by
    exact hh D 0 n (by omega) (by simp)
  intro d
  induction d with
  | zero =>
    intro i m hi hm
    exact Ev.step (fun k => rfl) (Ev.ineg (by omega) (Ev.rw (Ev.now _) (by omega)))
  | succ d ih =>
    intro i m hi hm
    have hlt : i < (upFrom D n).length := by omega
    refine Ev.step (fun k => rfl) (Ev.ipos (by omega) (Ev.ipos (by omega) (Ev.ipos ?_ ?_)))
    · rw [show rd (upFrom D n) (i : Int) = (upFrom D n)[i] from getD_at _ _ i hlt, upFrom_get, hm]
    · rw [w64 (x := m + 1) (by omega) (by omega), show wrap64 ((i : Int) + 1) = ((i + 1 : Nat) : Int) by rw [w64 (by omega) (by omega)]; rfl]
      exact ih (i + 1) (m + 1) (by omega) (by push_cast; omega)
theorem tot_le {α : Type} {f : α → Int} {B : Int} (hB : 0 ≤ B) : ∀ (l : List α), (∀ x ∈ l, f x ≤ B) → tot f l ≤ (l.length : Int) * B
  | [], _ => by simp [tot]
  | x :: l, h => by
    have h1 := h x (by simp)
    have h2 := tot_le hB l (fun y hy => h y (by simp [hy]))
    have e : (((x :: l).length : Nat) : Int) * B = (l.length : Int) * B + B := by rw [List.length_cons]; push_cast; rw [Int.add_mul, Int.one_mul]
    simp only [tot]
    omega
theorem tot_small {α : Type} {f : α → Int} {B : Int} (hB : 0 ≤ B) (l : List α) (hl : l.length ≤ 1048576) (h : ∀ x ∈ l, f x ≤ B) : tot f l ≤ 1048576 * B :=
  Int.le_trans (tot_le hB l h) (Int.mul_le_mul_of_nonneg_right (by omega) hB)
theorem markFunc_ev (p : List Int) (r : Int) (l : List Block) (hp : smI p) (hl : smbs l) : ∃ n, 0 ≤ n ∧ laws_markFunc.f p r l 1 = some n := by
  have h0 := tot_nonneg nBlk_nonneg l
  have hp' : p.length ≤ 1048576 := hp
  have hb : ∀ b ∈ l, nBlk b ≤ 2199030595588 := by
    intro b hb
    obtain ⟨h1, h2, h3, h4⟩ := hl.2 b hb
    have e1 : tot nPhi b.f0 ≤ 1048576 * 1048577 := tot_small (by decide) b.f0 h1 (fun x hx => by have : x.f1.length ≤ 1048576 := h2 x hx; unfold nPhi nInts; omega)
    have e2 : tot nIns b.f1 ≤ 1048576 * 1048582 := tot_small (by decide) b.f1 h3 (fun x hx => by have : x.f6.length ≤ 1048576 := h4 x hx; unfold nIns nInts; omega)
    unfold nBlk
    omega
  have e3 : tot nBlk l ≤ 1048576 * 2199030595588 := tot_small (by decide) l hl.1 hb
  have hi : nInts p = (p.length : Int) := rfl
  refine ⟨1 + nInts p + tot nBlk l, by omega, ?_⟩
  unfold laws_markFunc.f
  rw [if_pos ⟨by decide, by omega⟩]
end Go.Proofs.Ytobfgnjdcoidoaa.X
namespace Go.Proofs.Ytobfgnjdcoidoaa.Pure
set_option linter.unusedVariables false
set_option linter.unusedSimpArgs false
open Go.RowKit Go.Proofs.Ytobfgnjdcoidoaa.X Go.Proofs.YtobfgnjdcoidoaaW.PrintWords Go.Proofs.YtobfgnjdcoidoaaW.PrintLast
theorem reached_ev (p : List Int) (r : Int) (l : List Block) (h : l.length ≤ 1048576) : ∃ R, smI R ∧ Ev (fun k => spec_Reached.f k p r l) R ∧ Ev (fun k => impl_Reached.f k p r l) R := by
  refine ⟨reachedL l, smI_small (by have := reachedL_len l; omega), ?_, implReached_ev p r l h⟩
  unfold reachedL
  refine Ev.bind (specThere_ev p r l 0 h) ?_
  by_cases c : 1 ≤ l.length ∧ There l
  · rw [if_pos c]
    exact Ev.ipos (decide_eq_true ⟨by omega, c.2⟩) (Ev.bind (specReach_ev p r l (-1) c.2 (by omega)) (Ev.now _))
  · rw [if_neg c]
    exact Ev.ineg (by rw [decide_eq_false (fun h => c ⟨by omega, h.2⟩)]; decide) (Ev.now _)
theorem FnExactReached : ∀ (l0_0 : List Int) (a0_1 : Int) (l0_2 : List (S74)), wf25 (⟨l0_0, a0_1, l0_2⟩ : S25) → ∃ k, laws_FnExactReached.f k l0_0 a0_1 l0_2 = some true := by
  intro p r l hw
  refine (law_func hw (fun hp hl hs => ?_)).rounds
  have hlen : (l.map cBlock).length ≤ 1048576 := hs.2.1.1
  obtain ⟨R, hR, e1, e2⟩ := reached_ev p r (l.map cBlock) hlen
  have tof := toFunc_ev p r l hp hl
  have heq := eqInt64S_ev R hR
  have hR' : R.length ≤ 1048576 := hR
  have hlR : len R = (R.length : Int) := rfl
  obtain ⟨n, hn, hm⟩ := markFunc_ev p r (l.map cBlock) hs.1 hs.2.1
  have hmk := markInt64S_ev R hR 1 (by decide) (by decide)
  have hhd := heldInt64S_ev R.length hR' 1 (by decide) (by decide)
  have hj : Ev (fun k => laws_FnExactReached.j0 k R R (!true) p r l) true := by
    refine Ev.succ ?_
    simp only [laws_FnExactReached.j0, Bool.not_true, Bool.false_eq_true, if_false]
    refine Ev.bind hmk (Ev.bind hhd (Ev.ineg (by omega) (Ev.ipos rfl (Ev.bind tof (Ev.bind e2 (Ev.bind heq (Ev.ipos rfl ?_)))))))
    exact Ev.bind hhd (Ev.ineg (by omega) (Ev.ipos rfl (Ev.now true)))
  refine Ev.bind tof (Ev.bind e1 (Ev.bind tof (Ev.bind e2 (Ev.bind heq (Ev.ipos rfl (Ev.bind tof (Ev.bind (eqFunc_ev _ _ _ hs.1 hs.2.1) (Ev.ipos rfl ?_))))))))
  exact Ev.bind (Ev.cst hm) (Ev.ineg (by omega) (Ev.bind heq hj))

end Go.Proofs.Ytobfgnjdcoidoaa.Pure
