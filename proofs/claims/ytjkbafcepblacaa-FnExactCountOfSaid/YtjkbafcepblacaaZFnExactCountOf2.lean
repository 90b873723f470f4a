/- PROVED HERE: what the functions that the law FnExactCountOf reaches do in memory, each as a plain Lean function, and what these tell: part 3 of 4 of the proof of that law; no condition beyond those written out at each theorem. -/
import Derived.Deep.Slices
import Derived.ProofKit
import Derived.Test.YtjkbafcepblacaaZFnExactCountOf0
import Derived.Test.YtjkbafcepblacaaZFnExactCountOf1
namespace Go.Proofs.Ytjkbafcepblacaa.X
open Go.RowKit Go.Proofs.YtjkbafcepblacaaW.PrintWords Go.Proofs.YtjkbafcepblacaaW.PrintLast Go.Proofs.YtjkbafcepblacaaW.PrintMore
attribute [local go_sem] max2_int min2_int max_two min_two max_three min_three max_four min_four   -- for this text's walks alone
set_option linter.unusedVariables false
set_option linter.unusedSimpArgs false

/-! ### laws_eqBlock: function 116 -/
def laws_eqBlock.f (k : Nat) (l0_0 : List (S95)) (l0_1 : List (S27)) (a0_2 : Int) (a0_3 : Int) (a0_4 : Int) (a0_5 : Int) (l1_0 : List (S95)) (l1_1 : List (S27)) (a1_2 : Int) (a1_3 : Int) (a1_4 : Int) (a1_5 : Int) : Option (Bool) := (laws_eqPhiS.f k l0_0 l1_0).bind fun t664 => (if t664 = true then ((laws_eqInstS.f k l0_1 l1_1).bind fun t665 => (if t665 = true then ((laws_eqTerm.f a0_2 a0_3 a0_4 a0_5 a1_2 a1_3 a1_4 a1_5).bind fun t666 => (if t666 = true then (some true) else (some false))) else (some false))) else (some false))
theorem laws_eqBlock.mono : ∀ a0 a1 a2 a3 a4 a5 a6 a7 a8 a9 a10 a11 k, LeO (laws_eqBlock.f k a0 a1 a2 a3 a4 a5 a6 a7 a8 a9 a10 a11) (laws_eqBlock.f (k + 1) a0 a1 a2 a3 a4 a5 a6 a7 a8 a9 a10 a11) := by
  intro a0 a1 a2 a3 a4 a5 a6 a7 a8 a9 a10 a11 k
  unfold laws_eqBlock.f
  repeat' first
      | (with_reducible exact laws_eqInstS.mono _ _ _)
      | (with_reducible exact laws_eqPhiS.mono _ _ _)
      | (with_reducible exact LeO.refl _)
      | (with_reducible exact LeO.none _)
      | (with_reducible refine LeO.ite ?_ ?_)
      | (with_reducible refine LeO.bind ?_ (fun _ => ?_))
      | exact laws_eqInstS.mono _ _ _
      | exact laws_eqPhiS.mono _ _ _
      | exact LeO.none _
      | refine LeO.ite ?_ ?_
      | refine LeO.bind ?_ (fun _ => ?_)
set_option maxHeartbeats 8000000 in
set_option maxRecDepth 100000 in
theorem laws_eqBlock.calls (k : Nat) (A0_0 : Option Addr) (c0_0 : Nat) (l0_0 : List (S95)) (A0_1 : Option Addr) (c0_1 : Nat) (l0_1 : List (S27)) (a0_2 : Int) (a0_3 : Int) (a0_4 : Int) (a0_5 : Int) (A1_0 : Option Addr) (c1_0 : Nat) (l1_0 : List (S95)) (A1_1 : Option Addr) (c1_1 : Nat) (l1_1 : List (S27)) (a1_2 : Int) (a1_3 : Int) (a1_4 : Int) (a1_5 : Int) (r : Bool) (w : World) (hr0_0 : Kd.C k95 w A0_0 l0_0.length l0_0) (hc0_0 : l0_0.length ≤ c0_0) (hr0_1 : Kd.C k27 w A0_1 l0_1.length l0_1) (hc0_1 : l0_1.length ≤ c0_1) (hr1_0 : Kd.C k95 w A1_0 l1_0.length l1_0) (hc1_0 : l1_0.length ≤ c1_0) (hr1_1 : Kd.C k27 w A1_1 l1_1.length l1_1) (hc1_1 : l1_1.length ≤ c1_1) (h : laws_eqBlock.f k l0_0 l0_1 a0_2 a0_3 a0_4 a0_5 l1_0 l1_1 a1_2 a1_3 a1_4 a1_5 = some r) :
    Calls Try.prog 116 #[.agg #[.slice A0_0 l0_0.length c0_0, .slice A0_1 l0_1.length c0_1, .int .i64 a0_2, .int .i64 a0_3, .int .i64 a0_4, .int .i64 a0_5], .agg #[.slice A1_0 l1_0.length c1_0, .slice A1_1 l1_1.length c1_1, .int .i64 a1_2, .int .i64 a1_3, .int .i64 a1_4, .int .i64 a1_5]] w fun e w' => e = .returned (.bool r) ∧ Below w.heap.size w w' := by
  have hu88 := Try.underlying88
  have hu86 := Try.underlying86
  have HR0_0 := Aside0.mk hr0_0
  have HC0_0 := Aside0.mk hc0_0
  clear hr0_0 hc0_0
  have HR0_1 := Aside0.mk hr0_1
  have HC0_1 := Aside0.mk hc0_1
  clear hr0_1 hc0_1
  have HR1_0 := Aside0.mk hr1_0
  have HC1_0 := Aside0.mk hc1_0
  clear hr1_0 hc1_0
  have HR1_1 := Aside0.mk hr1_1
  have HC1_1 := Aside0.mk hc1_1
  clear hr1_1 hc1_1
  have HB := Aside0.mk (Below.refl w.heap.size w)
  have H : ((laws_eqPhiS.f k l0_0 l1_0).bind fun t664 => (if t664 = true then ((laws_eqInstS.f k l0_1 l1_1).bind fun t665 => (if t665 = true then ((laws_eqTerm.f a0_2 a0_3 a0_4 a0_5 a1_2 a1_3 a1_4 a1_5).bind fun t666 => (if t666 = true then (some true) else (some false))) else (some false))) else (some false))) = some r := h
  clear h
  replace H := Option.bind_eq_some_iff.mp H
  obtain ⟨t664, A30, H⟩ := H
  replace H : (if t664 = true then ((laws_eqInstS.f k l0_1 l1_1).bind fun t665 => (if t665 = true then ((laws_eqTerm.f a0_2 a0_3 a0_4 a0_5 a1_2 a1_3 a1_4 a1_5).bind fun t666 => (if t666 = true then (some true) else (some false))) else (some false))) else (some false)) = some r := H
  have A3 := Aside0.mk A30
  clear A30
  by_cases c4 : t664 = true
  · subst c4
    have H1 : ((laws_eqInstS.f k l0_1 l1_1).bind fun t665 => (if t665 = true then ((laws_eqTerm.f a0_2 a0_3 a0_4 a0_5 a1_2 a1_3 a1_4 a1_5).bind fun t666 => (if t666 = true then (some true) else (some false))) else (some false))) = some r := by rw [if_pos rfl] at H; exact H
    clear H
    have H := H1
    clear H1
    replace H := Option.bind_eq_some_iff.mp H
    obtain ⟨t665, A50, H⟩ := H
    replace H : (if t665 = true then ((laws_eqTerm.f a0_2 a0_3 a0_4 a0_5 a1_2 a1_3 a1_4 a1_5).bind fun t666 => (if t666 = true then (some true) else (some false))) else (some false)) = some r := H
    have A5 := Aside0.mk A50
    clear A50
    by_cases c6 : t665 = true
    · subst c6
      have H1 : ((laws_eqTerm.f a0_2 a0_3 a0_4 a0_5 a1_2 a1_3 a1_4 a1_5).bind fun t666 => (if t666 = true then (some true) else (some false))) = some r := by rw [if_pos rfl] at H; exact H
      clear H
      have H := H1
      clear H1
      replace H := Option.bind_eq_some_iff.mp H
      obtain ⟨t666, A70, H⟩ := H
      replace H : (if t666 = true then (some true) else (some false)) = some r := H
      have A7 := Aside0.mk A70
      clear A70
      by_cases c8 : t666 = true
      · subst c8
        have H1 : (some true) = some r := by rw [if_pos rfl] at H; exact H
        clear H
        have H := H1
        clear H1
        obtain rfl := Option.some.inj H
        go_enter Try.func116, Try.ntmps116
        go_wp2_with (first | ((with_reducible refine gate_dst (N := 2) rfl ?_); refine box_event ?hg (N := 2) ?hd (cs := #[.slice A0_0 l0_0.length c0_0, .slice A0_1 l0_1.length c0_1, .int .i64 a0_2, .int .i64 a0_3, .int .i64 a0_4, .int .i64 a0_5]) (t := 88) ?hr ?_; (case hd => rfl); (case hg => rfl); (case hr => first | (go_simp; done) | (go_simp; rfl)); intro gb662 hg w9 hbox hb; have n0_ := Aside0.mk (below_step (by repeat (first | (with_reducible first | exact HB.out | apply below_alloc | apply pw_below_drewN | apply below_drew1) | exact HB.out)) hb); have n1_ := Aside0.mk (hbox); have n2_ := Aside0.mk ((by rw [hg]; exact (below_size (by repeat (first | (with_reducible first | exact HB.out | apply below_alloc | apply pw_below_drewN | apply below_drew1) | exact HB.out))) : w.heap.size ≤ gb662)); have n3_ := Aside0.mk ((by rw [hg]; exact (below_size (by repeat (first | (with_reducible first | exact HB.out | apply below_alloc | apply pw_below_drewN | apply below_drew1) | exact HB.out))) : w.heap.size ≤ gb662)); clear HB; have HB := n0_; have BK662 := n1_; have GW662 := n2_; have GE662 := n3_; clear n0_ n1_ n2_ n3_; clear hb hbox hg) | ((with_reducible refine gate_dst (N := 3) rfl ?_); refine box_event ?hg (N := 3) ?hd (cs := #[.slice A1_0 l1_0.length c1_0, .slice A1_1 l1_1.length c1_1, .int .i64 a1_2, .int .i64 a1_3, .int .i64 a1_4, .int .i64 a1_5]) (t := 88) ?hr ?_; (case hd => rfl); (case hg => rfl); (case hr => first | (go_simp; done) | (go_simp; rfl)); intro gb663 hg w10 hbox hb; have n0_ := Aside0.mk (blk_below (g := gb662) (o := .cells #[.slice A0_0 l0_0.length c0_0, .slice A0_1 l0_1.length c0_1, .int .i64 a0_2, .int .i64 a0_3, .int .i64 a0_4, .int .i64 a0_5] 88 (0, 0)) (by (with_reducible repeat (first | refine blk_drewN ?_ _ | refine blk_drew ?_ | refine blk_alloc ?_ _)); exact BK662.out) hb); have n1_ := Aside0.mk (below_step (by repeat (first | (with_reducible first | exact HB.out | apply below_alloc | apply pw_below_drewN | apply below_drew1 | refine below_set ?_ GE662.out) | exact HB.out)) hb); have n2_ := Aside0.mk (hbox); have n3_ := Aside0.mk ((by rw [hg]; exact (below_size (by repeat (first | (with_reducible first | exact HB.out | apply below_alloc | apply pw_below_drewN | apply below_drew1 | refine below_set ?_ GE662.out) | exact HB.out))) : w.heap.size ≤ gb663)); have n4_ := Aside0.mk ((by rw [hg]; exact (below_size (by repeat (first | (with_reducible first | exact HB.out | apply below_alloc | apply pw_below_drewN | apply below_drew1 | refine below_set ?_ GE662.out) | exact HB.out))) : w.heap.size ≤ gb663)); have n5_ := Aside0.mk ((by rw [hg]; exact Nat.ne_of_lt (blk_lt (g := gb662) (o := .cells #[.slice A0_0 l0_0.length c0_0, .slice A0_1 l0_1.length c0_1, .int .i64 a0_2, .int .i64 a0_3, .int .i64 a0_4, .int .i64 a0_5] 88 (0, 0)) (by (with_reducible repeat (first | refine blk_drewN ?_ _ | refine blk_drew ?_ | refine blk_alloc ?_ _)); exact BK662.out)) : gb662 ≠ gb663)); have n6_ := Aside0.mk ((by rw [hg]; exact Nat.ne_of_gt (blk_lt (g := gb662) (o := .cells #[.slice A0_0 l0_0.length c0_0, .slice A0_1 l0_1.length c0_1, .int .i64 a0_2, .int .i64 a0_3, .int .i64 a0_4, .int .i64 a0_5] 88 (0, 0)) (by (with_reducible repeat (first | refine blk_drewN ?_ _ | refine blk_drew ?_ | refine blk_alloc ?_ _)); exact BK662.out)) : gb663 ≠ gb662)); clear BK662; clear HB; have BK662 := n0_; have HB := n1_; have BK663 := n2_; have GW663 := n3_; have GE663 := n4_; have NB662_663 := n5_; have NB663_662 := n6_; clear n0_ n1_ n2_ n3_ n4_ n5_ n6_; clear hb hbox hg; have hnb11 := NB662_663.out; have hnc11 := NB663_662.out; have hcz12_0 : w10.cell? ⟨gb662, 0, none⟩ = some (.slice A0_0 l0_0.length c0_0) := (blk_cell BK662.out 0).trans rfl; have hcz12_1 : w10.cell? ⟨gb662, 1, none⟩ = some (.slice A0_1 l0_1.length c0_1) := (blk_cell BK662.out 1).trans rfl; have hcz12_2 : w10.cell? ⟨gb662, 2, none⟩ = some (.int .i64 a0_2) := (blk_cell BK662.out 2).trans rfl; have hcz12_3 : w10.cell? ⟨gb662, 3, none⟩ = some (.int .i64 a0_3) := (blk_cell BK662.out 3).trans rfl; have hcz12_4 : w10.cell? ⟨gb662, 4, none⟩ = some (.int .i64 a0_4) := (blk_cell BK662.out 4).trans rfl; have hcz12_5 : w10.cell? ⟨gb662, 5, none⟩ = some (.int .i64 a0_5) := (blk_cell BK662.out 5).trans rfl; have hfz12_0 := blk_frozen BK662.out 0; have hfz12_1 := blk_frozen BK662.out 1; have hfz12_2 := blk_frozen BK662.out 2; have hfz12_3 := blk_frozen BK662.out 3; have hfz12_4 := blk_frozen BK662.out 4; have hfz12_5 := blk_frozen BK662.out 5; have hcz13_0 : w10.cell? ⟨gb663, 0, none⟩ = some (.slice A1_0 l1_0.length c1_0) := (blk_cell BK663.out 0).trans rfl; have hcz13_1 : w10.cell? ⟨gb663, 1, none⟩ = some (.slice A1_1 l1_1.length c1_1) := (blk_cell BK663.out 1).trans rfl; have hcz13_2 : w10.cell? ⟨gb663, 2, none⟩ = some (.int .i64 a1_2) := (blk_cell BK663.out 2).trans rfl; have hcz13_3 : w10.cell? ⟨gb663, 3, none⟩ = some (.int .i64 a1_3) := (blk_cell BK663.out 3).trans rfl; have hcz13_4 : w10.cell? ⟨gb663, 4, none⟩ = some (.int .i64 a1_4) := (blk_cell BK663.out 4).trans rfl; have hcz13_5 : w10.cell? ⟨gb663, 5, none⟩ = some (.int .i64 a1_5) := (blk_cell BK663.out 5).trans rfl; have hfz13_0 := blk_frozen BK663.out 0; have hfz13_1 := blk_frozen BK663.out 1; have hfz13_2 := blk_frozen BK663.out 2; have hfz13_3 := blk_frozen BK663.out 3; have hfz13_4 := blk_frozen BK663.out 4; have hfz13_5 := blk_frozen BK663.out 5) | ((with_reducible refine gate_callee (f := 128) rfl ?_); refine goesL_ (some 9) rfl rfl Try.func128 (by kernel_rfl) rfl #[.slice A0_0 l0_0.length c0_0, .slice A1_0 l1_0.length c1_0] rfl (by (try simp only [List.map_toArray, List.map_cons, List.map_nil]); first | done | rfl | (simp only [List.length_drop, List.length_take]; rfl)) ?_; (with_reducible refine (laws_eqPhiS.calls k _ _ l0_0 _ _ l1_0 true _ ?side1 ?side2 ?side3 ?side4 A3.out).mono ?_); (case side1 => repeat (first | exact (Kd.C_below HR0_0.out HB.out) | (with_reducible refine Kd.C_alloc ?_ _) | (with_reducible refine Kd.C_drewN ?_ _) | (with_reducible refine Kd.C_drew ?_))); (case side2 => exact HC0_0.out); (case side3 => repeat (first | exact (Kd.C_below HR1_0.out HB.out) | (with_reducible refine Kd.C_alloc ?_ _) | (with_reducible refine Kd.C_drewN ?_ _) | (with_reducible refine Kd.C_drew ?_))); (case side4 => exact HC1_0.out); rintro e w14 ⟨rfl, hb⟩; refine ⟨_, rfl, ?_⟩; have n0_ := Aside0.mk (blk_below (g := gb662) (o := .cells #[.slice A0_0 l0_0.length c0_0, .slice A0_1 l0_1.length c0_1, .int .i64 a0_2, .int .i64 a0_3, .int .i64 a0_4, .int .i64 a0_5] 88 (0, 0)) (by (with_reducible repeat (first | refine blk_drewN ?_ _ | refine blk_drew ?_ | refine blk_alloc ?_ _)); exact BK662.out) hb); have n1_ := Aside0.mk (blk_below (g := gb663) (o := .cells #[.slice A1_0 l1_0.length c1_0, .slice A1_1 l1_1.length c1_1, .int .i64 a1_2, .int .i64 a1_3, .int .i64 a1_4, .int .i64 a1_5] 88 (0, 0)) (by (with_reducible repeat (first | refine blk_drewN ?_ _ | refine blk_drew ?_ | refine blk_alloc ?_ _)); exact BK663.out) hb); have n2_ := Aside0.mk (below_step (by repeat (first | (with_reducible first | exact HB.out | apply below_alloc | apply pw_below_drewN | apply below_drew1 | refine below_set ?_ GE662.out | refine below_set ?_ GE663.out) | exact HB.out)) hb); clear BK662; clear BK663; clear HB; have BK662 := n0_; have BK663 := n1_; have HB := n2_; clear n0_ n1_ n2_; (try clear hb); (try clear hb2); (try clear hk); (try clear hi); have hcz15_0 : w14.cell? ⟨gb662, 0, none⟩ = some (.slice A0_0 l0_0.length c0_0) := (blk_cell BK662.out 0).trans rfl; have hcz15_1 : w14.cell? ⟨gb662, 1, none⟩ = some (.slice A0_1 l0_1.length c0_1) := (blk_cell BK662.out 1).trans rfl; have hcz15_2 : w14.cell? ⟨gb662, 2, none⟩ = some (.int .i64 a0_2) := (blk_cell BK662.out 2).trans rfl; have hcz15_3 : w14.cell? ⟨gb662, 3, none⟩ = some (.int .i64 a0_3) := (blk_cell BK662.out 3).trans rfl; have hcz15_4 : w14.cell? ⟨gb662, 4, none⟩ = some (.int .i64 a0_4) := (blk_cell BK662.out 4).trans rfl; have hcz15_5 : w14.cell? ⟨gb662, 5, none⟩ = some (.int .i64 a0_5) := (blk_cell BK662.out 5).trans rfl; have hfz15_0 := blk_frozen BK662.out 0; have hfz15_1 := blk_frozen BK662.out 1; have hfz15_2 := blk_frozen BK662.out 2; have hfz15_3 := blk_frozen BK662.out 3; have hfz15_4 := blk_frozen BK662.out 4; have hfz15_5 := blk_frozen BK662.out 5; have hcz16_0 : w14.cell? ⟨gb663, 0, none⟩ = some (.slice A1_0 l1_0.length c1_0) := (blk_cell BK663.out 0).trans rfl; have hcz16_1 : w14.cell? ⟨gb663, 1, none⟩ = some (.slice A1_1 l1_1.length c1_1) := (blk_cell BK663.out 1).trans rfl; have hcz16_2 : w14.cell? ⟨gb663, 2, none⟩ = some (.int .i64 a1_2) := (blk_cell BK663.out 2).trans rfl; have hcz16_3 : w14.cell? ⟨gb663, 3, none⟩ = some (.int .i64 a1_3) := (blk_cell BK663.out 3).trans rfl; have hcz16_4 : w14.cell? ⟨gb663, 4, none⟩ = some (.int .i64 a1_4) := (blk_cell BK663.out 4).trans rfl; have hcz16_5 : w14.cell? ⟨gb663, 5, none⟩ = some (.int .i64 a1_5) := (blk_cell BK663.out 5).trans rfl; have hfz16_0 := blk_frozen BK663.out 0; have hfz16_1 := blk_frozen BK663.out 1; have hfz16_2 := blk_frozen BK663.out 2; have hfz16_3 := blk_frozen BK663.out 3; have hfz16_4 := blk_frozen BK663.out 4; have hfz16_5 := blk_frozen BK663.out 5) | ((with_reducible refine gate_callee (f := 129) rfl ?_); refine goesL_ (some 15) rfl rfl Try.func129 (by kernel_rfl) rfl #[.slice A0_1 l0_1.length c0_1, .slice A1_1 l1_1.length c1_1] rfl (by (try simp only [List.map_toArray, List.map_cons, List.map_nil]); first | done | rfl | (simp only [List.length_drop, List.length_take]; rfl)) ?_; (with_reducible refine (laws_eqInstS.calls k _ _ l0_1 _ _ l1_1 true _ ?side1 ?side2 ?side3 ?side4 A5.out).mono ?_); (case side1 => repeat (first | exact (Kd.C_below HR0_1.out HB.out) | (with_reducible refine Kd.C_alloc ?_ _) | (with_reducible refine Kd.C_drewN ?_ _) | (with_reducible refine Kd.C_drew ?_))); (case side2 => exact HC0_1.out); (case side3 => repeat (first | exact (Kd.C_below HR1_1.out HB.out) | (with_reducible refine Kd.C_alloc ?_ _) | (with_reducible refine Kd.C_drewN ?_ _) | (with_reducible refine Kd.C_drew ?_))); (case side4 => exact HC1_1.out); rintro e w17 ⟨rfl, hb⟩; refine ⟨_, rfl, ?_⟩; have n0_ := Aside0.mk (blk_below (g := gb662) (o := .cells #[.slice A0_0 l0_0.length c0_0, .slice A0_1 l0_1.length c0_1, .int .i64 a0_2, .int .i64 a0_3, .int .i64 a0_4, .int .i64 a0_5] 88 (0, 0)) (by (with_reducible repeat (first | refine blk_drewN ?_ _ | refine blk_drew ?_ | refine blk_alloc ?_ _)); exact BK662.out) hb); have n1_ := Aside0.mk (blk_below (g := gb663) (o := .cells #[.slice A1_0 l1_0.length c1_0, .slice A1_1 l1_1.length c1_1, .int .i64 a1_2, .int .i64 a1_3, .int .i64 a1_4, .int .i64 a1_5] 88 (0, 0)) (by (with_reducible repeat (first | refine blk_drewN ?_ _ | refine blk_drew ?_ | refine blk_alloc ?_ _)); exact BK663.out) hb); have n2_ := Aside0.mk (below_step (by repeat (first | (with_reducible first | exact HB.out | apply below_alloc | apply pw_below_drewN | apply below_drew1 | refine below_set ?_ GE662.out | refine below_set ?_ GE663.out) | exact HB.out)) hb); clear BK662; clear BK663; clear HB; have BK662 := n0_; have BK663 := n1_; have HB := n2_; clear n0_ n1_ n2_; (try clear hb); (try clear hb2); (try clear hk); (try clear hi); have hcz18_0 : w17.cell? ⟨gb662, 0, none⟩ = some (.slice A0_0 l0_0.length c0_0) := (blk_cell BK662.out 0).trans rfl; have hcz18_1 : w17.cell? ⟨gb662, 1, none⟩ = some (.slice A0_1 l0_1.length c0_1) := (blk_cell BK662.out 1).trans rfl; have hcz18_2 : w17.cell? ⟨gb662, 2, none⟩ = some (.int .i64 a0_2) := (blk_cell BK662.out 2).trans rfl; have hcz18_3 : w17.cell? ⟨gb662, 3, none⟩ = some (.int .i64 a0_3) := (blk_cell BK662.out 3).trans rfl; have hcz18_4 : w17.cell? ⟨gb662, 4, none⟩ = some (.int .i64 a0_4) := (blk_cell BK662.out 4).trans rfl; have hcz18_5 : w17.cell? ⟨gb662, 5, none⟩ = some (.int .i64 a0_5) := (blk_cell BK662.out 5).trans rfl; have hfz18_0 := blk_frozen BK662.out 0; have hfz18_1 := blk_frozen BK662.out 1; have hfz18_2 := blk_frozen BK662.out 2; have hfz18_3 := blk_frozen BK662.out 3; have hfz18_4 := blk_frozen BK662.out 4; have hfz18_5 := blk_frozen BK662.out 5; have hcz19_0 : w17.cell? ⟨gb663, 0, none⟩ = some (.slice A1_0 l1_0.length c1_0) := (blk_cell BK663.out 0).trans rfl; have hcz19_1 : w17.cell? ⟨gb663, 1, none⟩ = some (.slice A1_1 l1_1.length c1_1) := (blk_cell BK663.out 1).trans rfl; have hcz19_2 : w17.cell? ⟨gb663, 2, none⟩ = some (.int .i64 a1_2) := (blk_cell BK663.out 2).trans rfl; have hcz19_3 : w17.cell? ⟨gb663, 3, none⟩ = some (.int .i64 a1_3) := (blk_cell BK663.out 3).trans rfl; have hcz19_4 : w17.cell? ⟨gb663, 4, none⟩ = some (.int .i64 a1_4) := (blk_cell BK663.out 4).trans rfl; have hcz19_5 : w17.cell? ⟨gb663, 5, none⟩ = some (.int .i64 a1_5) := (blk_cell BK663.out 5).trans rfl; have hfz19_0 := blk_frozen BK663.out 0; have hfz19_1 := blk_frozen BK663.out 1; have hfz19_2 := blk_frozen BK663.out 2; have hfz19_3 := blk_frozen BK663.out 3; have hfz19_4 := blk_frozen BK663.out 4; have hfz19_5 := blk_frozen BK663.out 5) | ((with_reducible refine gate_callee (f := 130) rfl ?_); refine goesL_ (some 21) rfl rfl Try.func130 (by kernel_rfl) rfl #[.agg #[.int .i64 a0_2, .int .i64 a0_3, .int .i64 a0_4, .int .i64 a0_5], .agg #[.int .i64 a1_2, .int .i64 a1_3, .int .i64 a1_4, .int .i64 a1_5]] rfl (by (try simp only [List.map_toArray, List.map_cons, List.map_nil]); first | done | rfl | (simp only [List.length_drop, List.length_take]; rfl)) ?_; (with_reducible refine (laws_eqTerm.calls a0_2 a0_3 a0_4 a0_5 a1_2 a1_3 a1_4 a1_5 true _ A7.out).mono ?_); rintro e w20 ⟨rfl, hb⟩; refine ⟨_, rfl, ?_⟩; have n0_ := Aside0.mk (blk_below (g := gb662) (o := .cells #[.slice A0_0 l0_0.length c0_0, .slice A0_1 l0_1.length c0_1, .int .i64 a0_2, .int .i64 a0_3, .int .i64 a0_4, .int .i64 a0_5] 88 (0, 0)) (by (with_reducible repeat (first | refine blk_drewN ?_ _ | refine blk_drew ?_ | refine blk_alloc ?_ _)); exact BK662.out) hb); have n1_ := Aside0.mk (blk_below (g := gb663) (o := .cells #[.slice A1_0 l1_0.length c1_0, .slice A1_1 l1_1.length c1_1, .int .i64 a1_2, .int .i64 a1_3, .int .i64 a1_4, .int .i64 a1_5] 88 (0, 0)) (by (with_reducible repeat (first | refine blk_drewN ?_ _ | refine blk_drew ?_ | refine blk_alloc ?_ _)); exact BK663.out) hb); have n2_ := Aside0.mk (below_step (by repeat (first | (with_reducible first | exact HB.out | apply below_alloc | apply pw_below_drewN | apply below_drew1 | refine below_set ?_ GE662.out | refine below_set ?_ GE663.out) | exact HB.out)) hb); clear BK662; clear BK663; clear HB; have BK662 := n0_; have BK663 := n1_; have HB := n2_; clear n0_ n1_ n2_; (try clear hb); (try clear hb2); (try clear hk); (try clear hi)))
        go_ret
        exact ⟨by first | rfl | (simp [errW_none, errW_some] <;> rfl) | (simp [*, errW_none, errW_some] <;> rfl), by repeat (first | (with_reducible first | exact HB.out | apply below_alloc | apply pw_below_drewN | apply below_drew1 | refine below_set ?_ GE662.out | refine below_set ?_ GE663.out) | exact HB.out)⟩
      · replace c8 := Bool.eq_false_iff.mpr c8
        subst c8
        have H1 : (some false) = some r := by rw [if_neg (show ¬ (false = true) by decide)] at H; exact H
        clear H
        have H := H1
        clear H1
        obtain rfl := Option.some.inj H
        go_enter Try.func116, Try.ntmps116
        go_wp2_with (first | ((with_reducible refine gate_dst (N := 2) rfl ?_); refine box_event ?hg (N := 2) ?hd (cs := #[.slice A0_0 l0_0.length c0_0, .slice A0_1 l0_1.length c0_1, .int .i64 a0_2, .int .i64 a0_3, .int .i64 a0_4, .int .i64 a0_5]) (t := 88) ?hr ?_; (case hd => rfl); (case hg => rfl); (case hr => first | (go_simp; done) | (go_simp; rfl)); intro gb662 hg w21 hbox hb; have n0_ := Aside0.mk (below_step (by repeat (first | (with_reducible first | exact HB.out | apply below_alloc | apply pw_below_drewN | apply below_drew1) | exact HB.out)) hb); have n1_ := Aside0.mk (hbox); have n2_ := Aside0.mk ((by rw [hg]; exact (below_size (by repeat (first | (with_reducible first | exact HB.out | apply below_alloc | apply pw_below_drewN | apply below_drew1) | exact HB.out))) : w.heap.size ≤ gb662)); have n3_ := Aside0.mk ((by rw [hg]; exact (below_size (by repeat (first | (with_reducible first | exact HB.out | apply below_alloc | apply pw_below_drewN | apply below_drew1) | exact HB.out))) : w.heap.size ≤ gb662)); clear HB; have HB := n0_; have BK662 := n1_; have GW662 := n2_; have GE662 := n3_; clear n0_ n1_ n2_ n3_; clear hb hbox hg) | ((with_reducible refine gate_dst (N := 3) rfl ?_); refine box_event ?hg (N := 3) ?hd (cs := #[.slice A1_0 l1_0.length c1_0, .slice A1_1 l1_1.length c1_1, .int .i64 a1_2, .int .i64 a1_3, .int .i64 a1_4, .int .i64 a1_5]) (t := 88) ?hr ?_; (case hd => rfl); (case hg => rfl); (case hr => first | (go_simp; done) | (go_simp; rfl)); intro gb663 hg w22 hbox hb; have n0_ := Aside0.mk (blk_below (g := gb662) (o := .cells #[.slice A0_0 l0_0.length c0_0, .slice A0_1 l0_1.length c0_1, .int .i64 a0_2, .int .i64 a0_3, .int .i64 a0_4, .int .i64 a0_5] 88 (0, 0)) (by (with_reducible repeat (first | refine blk_drewN ?_ _ | refine blk_drew ?_ | refine blk_alloc ?_ _)); exact BK662.out) hb); have n1_ := Aside0.mk (below_step (by repeat (first | (with_reducible first | exact HB.out | apply below_alloc | apply pw_below_drewN | apply below_drew1 | refine below_set ?_ GE662.out) | exact HB.out)) hb); have n2_ := Aside0.mk (hbox); have n3_ := Aside0.mk ((by rw [hg]; exact (below_size (by repeat (first | (with_reducible first | exact HB.out | apply below_alloc | apply pw_below_drewN | apply below_drew1 | refine below_set ?_ GE662.out) | exact HB.out))) : w.heap.size ≤ gb663)); have n4_ := Aside0.mk ((by rw [hg]; exact (below_size (by repeat (first | (with_reducible first | exact HB.out | apply below_alloc | apply pw_below_drewN | apply below_drew1 | refine below_set ?_ GE662.out) | exact HB.out))) : w.heap.size ≤ gb663)); have n5_ := Aside0.mk ((by rw [hg]; exact Nat.ne_of_lt (blk_lt (g := gb662) (o := .cells #[.slice A0_0 l0_0.length c0_0, .slice A0_1 l0_1.length c0_1, .int .i64 a0_2, .int .i64 a0_3, .int .i64 a0_4, .int .i64 a0_5] 88 (0, 0)) (by (with_reducible repeat (first | refine blk_drewN ?_ _ | refine blk_drew ?_ | refine blk_alloc ?_ _)); exact BK662.out)) : gb662 ≠ gb663)); have n6_ := Aside0.mk ((by rw [hg]; exact Nat.ne_of_gt (blk_lt (g := gb662) (o := .cells #[.slice A0_0 l0_0.length c0_0, .slice A0_1 l0_1.length c0_1, .int .i64 a0_2, .int .i64 a0_3, .int .i64 a0_4, .int .i64 a0_5] 88 (0, 0)) (by (with_reducible repeat (first | refine blk_drewN ?_ _ | refine blk_drew ?_ | refine blk_alloc ?_ _)); exact BK662.out)) : gb663 ≠ gb662)); clear BK662; clear HB; have BK662 := n0_; have HB := n1_; have BK663 := n2_; have GW663 := n3_; have GE663 := n4_; have NB662_663 := n5_; have NB663_662 := n6_; clear n0_ n1_ n2_ n3_ n4_ n5_ n6_; clear hb hbox hg; have hnb23 := NB662_663.out; have hnc23 := NB663_662.out; have hcz24_0 : w22.cell? ⟨gb662, 0, none⟩ = some (.slice A0_0 l0_0.length c0_0) := (blk_cell BK662.out 0).trans rfl; have hcz24_1 : w22.cell? ⟨gb662, 1, none⟩ = some (.slice A0_1 l0_1.length c0_1) := (blk_cell BK662.out 1).trans rfl; have hcz24_2 : w22.cell? ⟨gb662, 2, none⟩ = some (.int .i64 a0_2) := (blk_cell BK662.out 2).trans rfl; have hcz24_3 : w22.cell? ⟨gb662, 3, none⟩ = some (.int .i64 a0_3) := (blk_cell BK662.out 3).trans rfl; have hcz24_4 : w22.cell? ⟨gb662, 4, none⟩ = some (.int .i64 a0_4) := (blk_cell BK662.out 4).trans rfl; have hcz24_5 : w22.cell? ⟨gb662, 5, none⟩ = some (.int .i64 a0_5) := (blk_cell BK662.out 5).trans rfl; have hfz24_0 := blk_frozen BK662.out 0; have hfz24_1 := blk_frozen BK662.out 1; have hfz24_2 := blk_frozen BK662.out 2; have hfz24_3 := blk_frozen BK662.out 3; have hfz24_4 := blk_frozen BK662.out 4; have hfz24_5 := blk_frozen BK662.out 5; have hcz25_0 : w22.cell? ⟨gb663, 0, none⟩ = some (.slice A1_0 l1_0.length c1_0) := (blk_cell BK663.out 0).trans rfl; have hcz25_1 : w22.cell? ⟨gb663, 1, none⟩ = some (.slice A1_1 l1_1.length c1_1) := (blk_cell BK663.out 1).trans rfl; have hcz25_2 : w22.cell? ⟨gb663, 2, none⟩ = some (.int .i64 a1_2) := (blk_cell BK663.out 2).trans rfl; have hcz25_3 : w22.cell? ⟨gb663, 3, none⟩ = some (.int .i64 a1_3) := (blk_cell BK663.out 3).trans rfl; have hcz25_4 : w22.cell? ⟨gb663, 4, none⟩ = some (.int .i64 a1_4) := (blk_cell BK663.out 4).trans rfl; have hcz25_5 : w22.cell? ⟨gb663, 5, none⟩ = some (.int .i64 a1_5) := (blk_cell BK663.out 5).trans rfl; have hfz25_0 := blk_frozen BK663.out 0; have hfz25_1 := blk_frozen BK663.out 1; have hfz25_2 := blk_frozen BK663.out 2; have hfz25_3 := blk_frozen BK663.out 3; have hfz25_4 := blk_frozen BK663.out 4; have hfz25_5 := blk_frozen BK663.out 5) | ((with_reducible refine gate_callee (f := 128) rfl ?_); refine goesL_ (some 9) rfl rfl Try.func128 (by kernel_rfl) rfl #[.slice A0_0 l0_0.length c0_0, .slice A1_0 l1_0.length c1_0] rfl (by (try simp only [List.map_toArray, List.map_cons, List.map_nil]); first | done | rfl | (simp only [List.length_drop, List.length_take]; rfl)) ?_; (with_reducible refine (laws_eqPhiS.calls k _ _ l0_0 _ _ l1_0 true _ ?side1 ?side2 ?side3 ?side4 A3.out).mono ?_); (case side1 => repeat (first | exact (Kd.C_below HR0_0.out HB.out) | (with_reducible refine Kd.C_alloc ?_ _) | (with_reducible refine Kd.C_drewN ?_ _) | (with_reducible refine Kd.C_drew ?_))); (case side2 => exact HC0_0.out); (case side3 => repeat (first | exact (Kd.C_below HR1_0.out HB.out) | (with_reducible refine Kd.C_alloc ?_ _) | (with_reducible refine Kd.C_drewN ?_ _) | (with_reducible refine Kd.C_drew ?_))); (case side4 => exact HC1_0.out); rintro e w26 ⟨rfl, hb⟩; refine ⟨_, rfl, ?_⟩; have n0_ := Aside0.mk (blk_below (g := gb662) (o := .cells #[.slice A0_0 l0_0.length c0_0, .slice A0_1 l0_1.length c0_1, .int .i64 a0_2, .int .i64 a0_3, .int .i64 a0_4, .int .i64 a0_5] 88 (0, 0)) (by (with_reducible repeat (first | refine blk_drewN ?_ _ | refine blk_drew ?_ | refine blk_alloc ?_ _)); exact BK662.out) hb); have n1_ := Aside0.mk (blk_below (g := gb663) (o := .cells #[.slice A1_0 l1_0.length c1_0, .slice A1_1 l1_1.length c1_1, .int .i64 a1_2, .int .i64 a1_3, .int .i64 a1_4, .int .i64 a1_5] 88 (0, 0)) (by (with_reducible repeat (first | refine blk_drewN ?_ _ | refine blk_drew ?_ | refine blk_alloc ?_ _)); exact BK663.out) hb); have n2_ := Aside0.mk (below_step (by repeat (first | (with_reducible first | exact HB.out | apply below_alloc | apply pw_below_drewN | apply below_drew1 | refine below_set ?_ GE662.out | refine below_set ?_ GE663.out) | exact HB.out)) hb); clear BK662; clear BK663; clear HB; have BK662 := n0_; have BK663 := n1_; have HB := n2_; clear n0_ n1_ n2_; (try clear hb); (try clear hb2); (try clear hk); (try clear hi); have hcz27_0 : w26.cell? ⟨gb662, 0, none⟩ = some (.slice A0_0 l0_0.length c0_0) := (blk_cell BK662.out 0).trans rfl; have hcz27_1 : w26.cell? ⟨gb662, 1, none⟩ = some (.slice A0_1 l0_1.length c0_1) := (blk_cell BK662.out 1).trans rfl; have hcz27_2 : w26.cell? ⟨gb662, 2, none⟩ = some (.int .i64 a0_2) := (blk_cell BK662.out 2).trans rfl; have hcz27_3 : w26.cell? ⟨gb662, 3, none⟩ = some (.int .i64 a0_3) := (blk_cell BK662.out 3).trans rfl; have hcz27_4 : w26.cell? ⟨gb662, 4, none⟩ = some (.int .i64 a0_4) := (blk_cell BK662.out 4).trans rfl; have hcz27_5 : w26.cell? ⟨gb662, 5, none⟩ = some (.int .i64 a0_5) := (blk_cell BK662.out 5).trans rfl; have hfz27_0 := blk_frozen BK662.out 0; have hfz27_1 := blk_frozen BK662.out 1; have hfz27_2 := blk_frozen BK662.out 2; have hfz27_3 := blk_frozen BK662.out 3; have hfz27_4 := blk_frozen BK662.out 4; have hfz27_5 := blk_frozen BK662.out 5; have hcz28_0 : w26.cell? ⟨gb663, 0, none⟩ = some (.slice A1_0 l1_0.length c1_0) := (blk_cell BK663.out 0).trans rfl; have hcz28_1 : w26.cell? ⟨gb663, 1, none⟩ = some (.slice A1_1 l1_1.length c1_1) := (blk_cell BK663.out 1).trans rfl; have hcz28_2 : w26.cell? ⟨gb663, 2, none⟩ = some (.int .i64 a1_2) := (blk_cell BK663.out 2).trans rfl; have hcz28_3 : w26.cell? ⟨gb663, 3, none⟩ = some (.int .i64 a1_3) := (blk_cell BK663.out 3).trans rfl; have hcz28_4 : w26.cell? ⟨gb663, 4, none⟩ = some (.int .i64 a1_4) := (blk_cell BK663.out 4).trans rfl; have hcz28_5 : w26.cell? ⟨gb663, 5, none⟩ = some (.int .i64 a1_5) := (blk_cell BK663.out 5).trans rfl; have hfz28_0 := blk_frozen BK663.out 0; have hfz28_1 := blk_frozen BK663.out 1; have hfz28_2 := blk_frozen BK663.out 2; have hfz28_3 := blk_frozen BK663.out 3; have hfz28_4 := blk_frozen BK663.out 4; have hfz28_5 := blk_frozen BK663.out 5) | ((with_reducible refine gate_callee (f := 129) rfl ?_); refine goesL_ (some 15) rfl rfl Try.func129 (by kernel_rfl) rfl #[.slice A0_1 l0_1.length c0_1, .slice A1_1 l1_1.length c1_1] rfl (by (try simp only [List.map_toArray, List.map_cons, List.map_nil]); first | done | rfl | (simp only [List.length_drop, List.length_take]; rfl)) ?_; (with_reducible refine (laws_eqInstS.calls k _ _ l0_1 _ _ l1_1 true _ ?side1 ?side2 ?side3 ?side4 A5.out).mono ?_); (case side1 => repeat (first | exact (Kd.C_below HR0_1.out HB.out) | (with_reducible refine Kd.C_alloc ?_ _) | (with_reducible refine Kd.C_drewN ?_ _) | (with_reducible refine Kd.C_drew ?_))); (case side2 => exact HC0_1.out); (case side3 => repeat (first | exact (Kd.C_below HR1_1.out HB.out) | (with_reducible refine Kd.C_alloc ?_ _) | (with_reducible refine Kd.C_drewN ?_ _) | (with_reducible refine Kd.C_drew ?_))); (case side4 => exact HC1_1.out); rintro e w29 ⟨rfl, hb⟩; refine ⟨_, rfl, ?_⟩; have n0_ := Aside0.mk (blk_below (g := gb662) (o := .cells #[.slice A0_0 l0_0.length c0_0, .slice A0_1 l0_1.length c0_1, .int .i64 a0_2, .int .i64 a0_3, .int .i64 a0_4, .int .i64 a0_5] 88 (0, 0)) (by (with_reducible repeat (first | refine blk_drewN ?_ _ | refine blk_drew ?_ | refine blk_alloc ?_ _)); exact BK662.out) hb); have n1_ := Aside0.mk (blk_below (g := gb663) (o := .cells #[.slice A1_0 l1_0.length c1_0, .slice A1_1 l1_1.length c1_1, .int .i64 a1_2, .int .i64 a1_3, .int .i64 a1_4, .int .i64 a1_5] 88 (0, 0)) (by (with_reducible repeat (first | refine blk_drewN ?_ _ | refine blk_drew ?_ | refine blk_alloc ?_ _)); exact BK663.out) hb); have n2_ := Aside0.mk (below_step (by repeat (first | (with_reducible first | exact HB.out | apply below_alloc | apply pw_below_drewN | apply below_drew1 | refine below_set ?_ GE662.out | refine below_set ?_ GE663.out) | exact HB.out)) hb); clear BK662; clear BK663; clear HB; have BK662 := n0_; have BK663 := n1_; have HB := n2_; clear n0_ n1_ n2_; (try clear hb); (try clear hb2); (try clear hk); (try clear hi); have hcz30_0 : w29.cell? ⟨gb662, 0, none⟩ = some (.slice A0_0 l0_0.length c0_0) := (blk_cell BK662.out 0).trans rfl; have hcz30_1 : w29.cell? ⟨gb662, 1, none⟩ = some (.slice A0_1 l0_1.length c0_1) := (blk_cell BK662.out 1).trans rfl; have hcz30_2 : w29.cell? ⟨gb662, 2, none⟩ = some (.int .i64 a0_2) := (blk_cell BK662.out 2).trans rfl; have hcz30_3 : w29.cell? ⟨gb662, 3, none⟩ = some (.int .i64 a0_3) := (blk_cell BK662.out 3).trans rfl; have hcz30_4 : w29.cell? ⟨gb662, 4, none⟩ = some (.int .i64 a0_4) := (blk_cell BK662.out 4).trans rfl; have hcz30_5 : w29.cell? ⟨gb662, 5, none⟩ = some (.int .i64 a0_5) := (blk_cell BK662.out 5).trans rfl; have hfz30_0 := blk_frozen BK662.out 0; have hfz30_1 := blk_frozen BK662.out 1; have hfz30_2 := blk_frozen BK662.out 2; have hfz30_3 := blk_frozen BK662.out 3; have hfz30_4 := blk_frozen BK662.out 4; have hfz30_5 := blk_frozen BK662.out 5; have hcz31_0 : w29.cell? ⟨gb663, 0, none⟩ = some (.slice A1_0 l1_0.length c1_0) := (blk_cell BK663.out 0).trans rfl; have hcz31_1 : w29.cell? ⟨gb663, 1, none⟩ = some (.slice A1_1 l1_1.length c1_1) := (blk_cell BK663.out 1).trans rfl; have hcz31_2 : w29.cell? ⟨gb663, 2, none⟩ = some (.int .i64 a1_2) := (blk_cell BK663.out 2).trans rfl; have hcz31_3 : w29.cell? ⟨gb663, 3, none⟩ = some (.int .i64 a1_3) := (blk_cell BK663.out 3).trans rfl; have hcz31_4 : w29.cell? ⟨gb663, 4, none⟩ = some (.int .i64 a1_4) := (blk_cell BK663.out 4).trans rfl; have hcz31_5 : w29.cell? ⟨gb663, 5, none⟩ = some (.int .i64 a1_5) := (blk_cell BK663.out 5).trans rfl; have hfz31_0 := blk_frozen BK663.out 0; have hfz31_1 := blk_frozen BK663.out 1; have hfz31_2 := blk_frozen BK663.out 2; have hfz31_3 := blk_frozen BK663.out 3; have hfz31_4 := blk_frozen BK663.out 4; have hfz31_5 := blk_frozen BK663.out 5) | ((with_reducible refine gate_callee (f := 130) rfl ?_); refine goesL_ (some 21) rfl rfl Try.func130 (by kernel_rfl) rfl #[.agg #[.int .i64 a0_2, .int .i64 a0_3, .int .i64 a0_4, .int .i64 a0_5], .agg #[.int .i64 a1_2, .int .i64 a1_3, .int .i64 a1_4, .int .i64 a1_5]] rfl (by (try simp only [List.map_toArray, List.map_cons, List.map_nil]); first | done | rfl | (simp only [List.length_drop, List.length_take]; rfl)) ?_; (with_reducible refine (laws_eqTerm.calls a0_2 a0_3 a0_4 a0_5 a1_2 a1_3 a1_4 a1_5 false _ A7.out).mono ?_); rintro e w32 ⟨rfl, hb⟩; refine ⟨_, rfl, ?_⟩; have n0_ := Aside0.mk (blk_below (g := gb662) (o := .cells #[.slice A0_0 l0_0.length c0_0, .slice A0_1 l0_1.length c0_1, .int .i64 a0_2, .int .i64 a0_3, .int .i64 a0_4, .int .i64 a0_5] 88 (0, 0)) (by (with_reducible repeat (first | refine blk_drewN ?_ _ | refine blk_drew ?_ | refine blk_alloc ?_ _)); exact BK662.out) hb); have n1_ := Aside0.mk (blk_below (g := gb663) (o := .cells #[.slice A1_0 l1_0.length c1_0, .slice A1_1 l1_1.length c1_1, .int .i64 a1_2, .int .i64 a1_3, .int .i64 a1_4, .int .i64 a1_5] 88 (0, 0)) (by (with_reducible repeat (first | refine blk_drewN ?_ _ | refine blk_drew ?_ | refine blk_alloc ?_ _)); exact BK663.out) hb); have n2_ := Aside0.mk (below_step (by repeat (first | (with_reducible first | exact HB.out | apply below_alloc | apply pw_below_drewN | apply below_drew1 | refine below_set ?_ GE662.out | refine below_set ?_ GE663.out) | exact HB.out)) hb); clear BK662; clear BK663; clear HB; have BK662 := n0_; have BK663 := n1_; have HB := n2_; clear n0_ n1_ n2_; (try clear hb); (try clear hb2); (try clear hk); (try clear hi)))
        go_ret
        exact ⟨by first | rfl | (simp [errW_none, errW_some] <;> rfl) | (simp [*, errW_none, errW_some] <;> rfl), by repeat (first | (with_reducible first | exact HB.out | apply below_alloc | apply pw_below_drewN | apply below_drew1 | refine below_set ?_ GE662.out | refine below_set ?_ GE663.out) | exact HB.out)⟩
    · replace c6 := Bool.eq_false_iff.mpr c6
      subst c6
      have H1 : (some false) = some r := by rw [if_neg (show ¬ (false = true) by decide)] at H; exact H
      clear H
      have H := H1
      clear H1
      obtain rfl := Option.some.inj H
      go_enter Try.func116, Try.ntmps116
      go_wp2_with (first | ((with_reducible refine gate_dst (N := 2) rfl ?_); refine box_event ?hg (N := 2) ?hd (cs := #[.slice A0_0 l0_0.length c0_0, .slice A0_1 l0_1.length c0_1, .int .i64 a0_2, .int .i64 a0_3, .int .i64 a0_4, .int .i64 a0_5]) (t := 88) ?hr ?_; (case hd => rfl); (case hg => rfl); (case hr => first | (go_simp; done) | (go_simp; rfl)); intro gb662 hg w33 hbox hb; have n0_ := Aside0.mk (below_step (by repeat (first | (with_reducible first | exact HB.out | apply below_alloc | apply pw_below_drewN | apply below_drew1) | exact HB.out)) hb); have n1_ := Aside0.mk (hbox); have n2_ := Aside0.mk ((by rw [hg]; exact (below_size (by repeat (first | (with_reducible first | exact HB.out | apply below_alloc | apply pw_below_drewN | apply below_drew1) | exact HB.out))) : w.heap.size ≤ gb662)); have n3_ := Aside0.mk ((by rw [hg]; exact (below_size (by repeat (first | (with_reducible first | exact HB.out | apply below_alloc | apply pw_below_drewN | apply below_drew1) | exact HB.out))) : w.heap.size ≤ gb662)); clear HB; have HB := n0_; have BK662 := n1_; have GW662 := n2_; have GE662 := n3_; clear n0_ n1_ n2_ n3_; clear hb hbox hg) | ((with_reducible refine gate_dst (N := 3) rfl ?_); refine box_event ?hg (N := 3) ?hd (cs := #[.slice A1_0 l1_0.length c1_0, .slice A1_1 l1_1.length c1_1, .int .i64 a1_2, .int .i64 a1_3, .int .i64 a1_4, .int .i64 a1_5]) (t := 88) ?hr ?_; (case hd => rfl); (case hg => rfl); (case hr => first | (go_simp; done) | (go_simp; rfl)); intro gb663 hg w34 hbox hb; have n0_ := Aside0.mk (blk_below (g := gb662) (o := .cells #[.slice A0_0 l0_0.length c0_0, .slice A0_1 l0_1.length c0_1, .int .i64 a0_2, .int .i64 a0_3, .int .i64 a0_4, .int .i64 a0_5] 88 (0, 0)) (by (with_reducible repeat (first | refine blk_drewN ?_ _ | refine blk_drew ?_ | refine blk_alloc ?_ _)); exact BK662.out) hb); have n1_ := Aside0.mk (below_step (by repeat (first | (with_reducible first | exact HB.out | apply below_alloc | apply pw_below_drewN | apply below_drew1 | refine below_set ?_ GE662.out) | exact HB.out)) hb); have n2_ := Aside0.mk (hbox); have n3_ := Aside0.mk ((by rw [hg]; exact (below_size (by repeat (first | (with_reducible first | exact HB.out | apply below_alloc | apply pw_below_drewN | apply below_drew1 | refine below_set ?_ GE662.out) | exact HB.out))) : w.heap.size ≤ gb663)); have n4_ := Aside0.mk ((by rw [hg]; exact (below_size (by repeat (first | (with_reducible first | exact HB.out | apply below_alloc | apply pw_below_drewN | apply below_drew1 | refine below_set ?_ GE662.out) | exact HB.out))) : w.heap.size ≤ gb663)); have n5_ := Aside0.mk ((by rw [hg]; exact Nat.ne_of_lt (blk_lt (g := gb662) (o := .cells #[.slice A0_0 l0_0.length c0_0, .slice A0_1 l0_1.length c0_1, .int .i64 a0_2, .int .i64 a0_3, .int .i64 a0_4, .int .i64 a0_5] 88 (0, 0)) (by (with_reducible repeat (first | refine blk_drewN ?_ _ | refine blk_drew ?_ | refine blk_alloc ?_ _)); exact BK662.out)) : gb662 ≠ gb663)); have n6_ := Aside0.mk ((by rw [hg]; exact Nat.ne_of_gt (blk_lt (g := gb662) (o := .cells #[.slice A0_0 l0_0.length c0_0, .slice A0_1 l0_1.length c0_1, .int .i64 a0_2, .int .i64 a0_3, .int .i64 a0_4, .int .i64 a0_5] 88 (0, 0)) (by (with_reducible repeat (first | refine blk_drewN ?_ _ | refine blk_drew ?_ | refine blk_alloc ?_ _)); exact BK662.out)) : gb663 ≠ gb662)); clear BK662; clear HB; have BK662 := n0_; have HB := n1_; have BK663 := n2_; have GW663 := n3_; have GE663 := n4_; have NB662_663 := n5_; have NB663_662 := n6_; clear n0_ n1_ n2_ n3_ n4_ n5_ n6_; clear hb hbox hg; have hnb35 := NB662_663.out; have hnc35 := NB663_662.out; have hcz36_0 : w34.cell? ⟨gb662, 0, none⟩ = some (.slice A0_0 l0_0.length c0_0) := (blk_cell BK662.out 0).trans rfl; have hcz36_1 : w34.cell? ⟨gb662, 1, none⟩ = some (.slice A0_1 l0_1.length c0_1) := (blk_cell BK662.out 1).trans rfl; have hcz36_2 : w34.cell? ⟨gb662, 2, none⟩ = some (.int .i64 a0_2) := (blk_cell BK662.out 2).trans rfl; have hcz36_3 : w34.cell? ⟨gb662, 3, none⟩ = some (.int .i64 a0_3) := (blk_cell BK662.out 3).trans rfl; have hcz36_4 : w34.cell? ⟨gb662, 4, none⟩ = some (.int .i64 a0_4) := (blk_cell BK662.out 4).trans rfl; have hcz36_5 : w34.cell? ⟨gb662, 5, none⟩ = some (.int .i64 a0_5) := (blk_cell BK662.out 5).trans rfl; have hfz36_0 := blk_frozen BK662.out 0; have hfz36_1 := blk_frozen BK662.out 1; have hfz36_2 := blk_frozen BK662.out 2; have hfz36_3 := blk_frozen BK662.out 3; have hfz36_4 := blk_frozen BK662.out 4; have hfz36_5 := blk_frozen BK662.out 5; have hcz37_0 : w34.cell? ⟨gb663, 0, none⟩ = some (.slice A1_0 l1_0.length c1_0) := (blk_cell BK663.out 0).trans rfl; have hcz37_1 : w34.cell? ⟨gb663, 1, none⟩ = some (.slice A1_1 l1_1.length c1_1) := (blk_cell BK663.out 1).trans rfl; have hcz37_2 : w34.cell? ⟨gb663, 2, none⟩ = some (.int .i64 a1_2) := (blk_cell BK663.out 2).trans rfl; have hcz37_3 : w34.cell? ⟨gb663, 3, none⟩ = some (.int .i64 a1_3) := (blk_cell BK663.out 3).trans rfl; have hcz37_4 : w34.cell? ⟨gb663, 4, none⟩ = some (.int .i64 a1_4) := (blk_cell BK663.out 4).trans rfl; have hcz37_5 : w34.cell? ⟨gb663, 5, none⟩ = some (.int .i64 a1_5) := (blk_cell BK663.out 5).trans rfl; have hfz37_0 := blk_frozen BK663.out 0; have hfz37_1 := blk_frozen BK663.out 1; have hfz37_2 := blk_frozen BK663.out 2; have hfz37_3 := blk_frozen BK663.out 3; have hfz37_4 := blk_frozen BK663.out 4; have hfz37_5 := blk_frozen BK663.out 5) | ((with_reducible refine gate_callee (f := 128) rfl ?_); refine goesL_ (some 9) rfl rfl Try.func128 (by kernel_rfl) rfl #[.slice A0_0 l0_0.length c0_0, .slice A1_0 l1_0.length c1_0] rfl (by (try simp only [List.map_toArray, List.map_cons, List.map_nil]); first | done | rfl | (simp only [List.length_drop, List.length_take]; rfl)) ?_; (with_reducible refine (laws_eqPhiS.calls k _ _ l0_0 _ _ l1_0 true _ ?side1 ?side2 ?side3 ?side4 A3.out).mono ?_); (case side1 => repeat (first | exact (Kd.C_below HR0_0.out HB.out) | (with_reducible refine Kd.C_alloc ?_ _) | (with_reducible refine Kd.C_drewN ?_ _) | (with_reducible refine Kd.C_drew ?_))); (case side2 => exact HC0_0.out); (case side3 => repeat (first | exact (Kd.C_below HR1_0.out HB.out) | (with_reducible refine Kd.C_alloc ?_ _) | (with_reducible refine Kd.C_drewN ?_ _) | (with_reducible refine Kd.C_drew ?_))); (case side4 => exact HC1_0.out); rintro e w38 ⟨rfl, hb⟩; refine ⟨_, rfl, ?_⟩; have n0_ := Aside0.mk (blk_below (g := gb662) (o := .cells #[.slice A0_0 l0_0.length c0_0, .slice A0_1 l0_1.length c0_1, .int .i64 a0_2, .int .i64 a0_3, .int .i64 a0_4, .int .i64 a0_5] 88 (0, 0)) (by (with_reducible repeat (first | refine blk_drewN ?_ _ | refine blk_drew ?_ | refine blk_alloc ?_ _)); exact BK662.out) hb); have n1_ := Aside0.mk (blk_below (g := gb663) (o := .cells #[.slice A1_0 l1_0.length c1_0, .slice A1_1 l1_1.length c1_1, .int .i64 a1_2, .int .i64 a1_3, .int .i64 a1_4, .int .i64 a1_5] 88 (0, 0)) (by (with_reducible repeat (first | refine blk_drewN ?_ _ | refine blk_drew ?_ | refine blk_alloc ?_ _)); exact BK663.out) hb); have n2_ := Aside0.mk (below_step (by repeat (first | (with_reducible first | exact HB.out | apply below_alloc | apply pw_below_drewN | apply below_drew1 | refine below_set ?_ GE662.out | refine below_set ?_ GE663.out) | exact HB.out)) hb); clear BK662; clear BK663; clear HB; have BK662 := n0_; have BK663 := n1_; have HB := n2_; clear n0_ n1_ n2_; (try clear hb); (try clear hb2); (try clear hk); (try clear hi); have hcz39_0 : w38.cell? ⟨gb662, 0, none⟩ = some (.slice A0_0 l0_0.length c0_0) := (blk_cell BK662.out 0).trans rfl; have hcz39_1 : w38.cell? ⟨gb662, 1, none⟩ = some (.slice A0_1 l0_1.length c0_1) := (blk_cell BK662.out 1).trans rfl; have hcz39_2 : w38.cell? ⟨gb662, 2, none⟩ = some (.int .i64 a0_2) := (blk_cell BK662.out 2).trans rfl; have hcz39_3 : w38.cell? ⟨gb662, 3, none⟩ = some (.int .i64 a0_3) := (blk_cell BK662.out 3).trans rfl; have hcz39_4 : w38.cell? ⟨gb662, 4, none⟩ = some (.int .i64 a0_4) := (blk_cell BK662.out 4).trans rfl; have hcz39_5 : w38.cell? ⟨gb662, 5, none⟩ = some (.int .i64 a0_5) := (blk_cell BK662.out 5).trans rfl; have hfz39_0 := blk_frozen BK662.out 0; have hfz39_1 := blk_frozen BK662.out 1; have hfz39_2 := blk_frozen BK662.out 2; have hfz39_3 := blk_frozen BK662.out 3; have hfz39_4 := blk_frozen BK662.out 4; have hfz39_5 := blk_frozen BK662.out 5; have hcz40_0 : w38.cell? ⟨gb663, 0, none⟩ = some (.slice A1_0 l1_0.length c1_0) := (blk_cell BK663.out 0).trans rfl; have hcz40_1 : w38.cell? ⟨gb663, 1, none⟩ = some (.slice A1_1 l1_1.length c1_1) := (blk_cell BK663.out 1).trans rfl; have hcz40_2 : w38.cell? ⟨gb663, 2, none⟩ = some (.int .i64 a1_2) := (blk_cell BK663.out 2).trans rfl; have hcz40_3 : w38.cell? ⟨gb663, 3, none⟩ = some (.int .i64 a1_3) := (blk_cell BK663.out 3).trans rfl; have hcz40_4 : w38.cell? ⟨gb663, 4, none⟩ = some (.int .i64 a1_4) := (blk_cell BK663.out 4).trans rfl; have hcz40_5 : w38.cell? ⟨gb663, 5, none⟩ = some (.int .i64 a1_5) := (blk_cell BK663.out 5).trans rfl; have hfz40_0 := blk_frozen BK663.out 0; have hfz40_1 := blk_frozen BK663.out 1; have hfz40_2 := blk_frozen BK663.out 2; have hfz40_3 := blk_frozen BK663.out 3; have hfz40_4 := blk_frozen BK663.out 4; have hfz40_5 := blk_frozen BK663.out 5) | ((with_reducible refine gate_callee (f := 129) rfl ?_); refine goesL_ (some 15) rfl rfl Try.func129 (by kernel_rfl) rfl #[.slice A0_1 l0_1.length c0_1, .slice A1_1 l1_1.length c1_1] rfl (by (try simp only [List.map_toArray, List.map_cons, List.map_nil]); first | done | rfl | (simp only [List.length_drop, List.length_take]; rfl)) ?_; (with_reducible refine (laws_eqInstS.calls k _ _ l0_1 _ _ l1_1 false _ ?side1 ?side2 ?side3 ?side4 A5.out).mono ?_); (case side1 => repeat (first | exact (Kd.C_below HR0_1.out HB.out) | (with_reducible refine Kd.C_alloc ?_ _) | (with_reducible refine Kd.C_drewN ?_ _) | (with_reducible refine Kd.C_drew ?_))); (case side2 => exact HC0_1.out); (case side3 => repeat (first | exact (Kd.C_below HR1_1.out HB.out) | (with_reducible refine Kd.C_alloc ?_ _) | (with_reducible refine Kd.C_drewN ?_ _) | (with_reducible refine Kd.C_drew ?_))); (case side4 => exact HC1_1.out); rintro e w41 ⟨rfl, hb⟩; refine ⟨_, rfl, ?_⟩; have n0_ := Aside0.mk (blk_below (g := gb662) (o := .cells #[.slice A0_0 l0_0.length c0_0, .slice A0_1 l0_1.length c0_1, .int .i64 a0_2, .int .i64 a0_3, .int .i64 a0_4, .int .i64 a0_5] 88 (0, 0)) (by (with_reducible repeat (first | refine blk_drewN ?_ _ | refine blk_drew ?_ | refine blk_alloc ?_ _)); exact BK662.out) hb); have n1_ := Aside0.mk (blk_below (g := gb663) (o := .cells #[.slice A1_0 l1_0.length c1_0, .slice A1_1 l1_1.length c1_1, .int .i64 a1_2, .int .i64 a1_3, .int .i64 a1_4, .int .i64 a1_5] 88 (0, 0)) (by (with_reducible repeat (first | refine blk_drewN ?_ _ | refine blk_drew ?_ | refine blk_alloc ?_ _)); exact BK663.out) hb); have n2_ := Aside0.mk (below_step (by repeat (first | (with_reducible first | exact HB.out | apply below_alloc | apply pw_below_drewN | apply below_drew1 | refine below_set ?_ GE662.out | refine below_set ?_ GE663.out) | exact HB.out)) hb); clear BK662; clear BK663; clear HB; have BK662 := n0_; have BK663 := n1_; have HB := n2_; clear n0_ n1_ n2_; (try clear hb); (try clear hb2); (try clear hk); (try clear hi)))
      go_ret
      exact ⟨by first | rfl | (simp [errW_none, errW_some] <;> rfl) | (simp [*, errW_none, errW_some] <;> rfl), by repeat (first | (with_reducible first | exact HB.out | apply below_alloc | apply pw_below_drewN | apply below_drew1 | refine below_set ?_ GE662.out | refine below_set ?_ GE663.out) | exact HB.out)⟩
  · replace c4 := Bool.eq_false_iff.mpr c4
    subst c4
    have H1 : (some false) = some r := by rw [if_neg (show ¬ (false = true) by decide)] at H; exact H
    clear H
    have H := H1
    clear H1
    obtain rfl := Option.some.inj H
    go_enter Try.func116, Try.ntmps116
    go_wp2_with (first | ((with_reducible refine gate_dst (N := 2) rfl ?_); refine box_event ?hg (N := 2) ?hd (cs := #[.slice A0_0 l0_0.length c0_0, .slice A0_1 l0_1.length c0_1, .int .i64 a0_2, .int .i64 a0_3, .int .i64 a0_4, .int .i64 a0_5]) (t := 88) ?hr ?_; (case hd => rfl); (case hg => rfl); (case hr => first | (go_simp; done) | (go_simp; rfl)); intro gb662 hg w42 hbox hb; have n0_ := Aside0.mk (below_step (by repeat (first | (with_reducible first | exact HB.out | apply below_alloc | apply pw_below_drewN | apply below_drew1) | exact HB.out)) hb); have n1_ := Aside0.mk (hbox); have n2_ := Aside0.mk ((by rw [hg]; exact (below_size (by repeat (first | (with_reducible first | exact HB.out | apply below_alloc | apply pw_below_drewN | apply below_drew1) | exact HB.out))) : w.heap.size ≤ gb662)); have n3_ := Aside0.mk ((by rw [hg]; exact (below_size (by repeat (first | (with_reducible first | exact HB.out | apply below_alloc | apply pw_below_drewN | apply below_drew1) | exact HB.out))) : w.heap.size ≤ gb662)); clear HB; have HB := n0_; have BK662 := n1_; have GW662 := n2_; have GE662 := n3_; clear n0_ n1_ n2_ n3_; clear hb hbox hg) | ((with_reducible refine gate_dst (N := 3) rfl ?_); refine box_event ?hg (N := 3) ?hd (cs := #[.slice A1_0 l1_0.length c1_0, .slice A1_1 l1_1.length c1_1, .int .i64 a1_2, .int .i64 a1_3, .int .i64 a1_4, .int .i64 a1_5]) (t := 88) ?hr ?_; (case hd => rfl); (case hg => rfl); (case hr => first | (go_simp; done) | (go_simp; rfl)); intro gb663 hg w43 hbox hb; have n0_ := Aside0.mk (blk_below (g := gb662) (o := .cells #[.slice A0_0 l0_0.length c0_0, .slice A0_1 l0_1.length c0_1, .int .i64 a0_2, .int .i64 a0_3, .int .i64 a0_4, .int .i64 a0_5] 88 (0, 0)) (by (with_reducible repeat (first | refine blk_drewN ?_ _ | refine blk_drew ?_ | refine blk_alloc ?_ _)); exact BK662.out) hb); have n1_ := Aside0.mk (below_step (by repeat (first | (with_reducible first | exact HB.out | apply below_alloc | apply pw_below_drewN | apply below_drew1 | refine below_set ?_ GE662.out) | exact HB.out)) hb); have n2_ := Aside0.mk (hbox); have n3_ := Aside0.mk ((by rw [hg]; exact (below_size (by repeat (first | (with_reducible first | exact HB.out | apply below_alloc | apply pw_below_drewN | apply below_drew1 | refine below_set ?_ GE662.out) | exact HB.out))) : w.heap.size ≤ gb663)); have n4_ := Aside0.mk ((by rw [hg]; exact (below_size (by repeat (first | (with_reducible first | exact HB.out | apply below_alloc | apply pw_below_drewN | apply below_drew1 | refine below_set ?_ GE662.out) | exact HB.out))) : w.heap.size ≤ gb663)); have n5_ := Aside0.mk ((by rw [hg]; exact Nat.ne_of_lt (blk_lt (g := gb662) (o := .cells #[.slice A0_0 l0_0.length c0_0, .slice A0_1 l0_1.length c0_1, .int .i64 a0_2, .int .i64 a0_3, .int .i64 a0_4, .int .i64 a0_5] 88 (0, 0)) (by (with_reducible repeat (first | refine blk_drewN ?_ _ | refine blk_drew ?_ | refine blk_alloc ?_ _)); exact BK662.out)) : gb662 ≠ gb663)); have n6_ := Aside0.mk ((by rw [hg]; exact Nat.ne_of_gt (blk_lt (g := gb662) (o := .cells #[.slice A0_0 l0_0.length c0_0, .slice A0_1 l0_1.length c0_1, .int .i64 a0_2, .int .i64 a0_3, .int .i64 a0_4, .int .i64 a0_5] 88 (0, 0)) (by (with_reducible repeat (first | refine blk_drewN ?_ _ | refine blk_drew ?_ | refine blk_alloc ?_ _)); exact BK662.out)) : gb663 ≠ gb662)); clear BK662; clear HB; have BK662 := n0_; have HB := n1_; have BK663 := n2_; have GW663 := n3_; have GE663 := n4_; have NB662_663 := n5_; have NB663_662 := n6_; clear n0_ n1_ n2_ n3_ n4_ n5_ n6_; clear hb hbox hg; have hnb44 := NB662_663.out; have hnc44 := NB663_662.out; have hcz45_0 : w43.cell? ⟨gb662, 0, none⟩ = some (.slice A0_0 l0_0.length c0_0) := (blk_cell BK662.out 0).trans rfl; have hcz45_1 : w43.cell? ⟨gb662, 1, none⟩ = some (.slice A0_1 l0_1.length c0_1) := (blk_cell BK662.out 1).trans rfl; have hcz45_2 : w43.cell? ⟨gb662, 2, none⟩ = some (.int .i64 a0_2) := (blk_cell BK662.out 2).trans rfl; have hcz45_3 : w43.cell? ⟨gb662, 3, none⟩ = some (.int .i64 a0_3) := (blk_cell BK662.out 3).trans rfl; have hcz45_4 : w43.cell? ⟨gb662, 4, none⟩ = some (.int .i64 a0_4) := (blk_cell BK662.out 4).trans rfl; have hcz45_5 : w43.cell? ⟨gb662, 5, none⟩ = some (.int .i64 a0_5) := (blk_cell BK662.out 5).trans rfl; have hfz45_0 := blk_frozen BK662.out 0; have hfz45_1 := blk_frozen BK662.out 1; have hfz45_2 := blk_frozen BK662.out 2; have hfz45_3 := blk_frozen BK662.out 3; have hfz45_4 := blk_frozen BK662.out 4; have hfz45_5 := blk_frozen BK662.out 5; have hcz46_0 : w43.cell? ⟨gb663, 0, none⟩ = some (.slice A1_0 l1_0.length c1_0) := (blk_cell BK663.out 0).trans rfl; have hcz46_1 : w43.cell? ⟨gb663, 1, none⟩ = some (.slice A1_1 l1_1.length c1_1) := (blk_cell BK663.out 1).trans rfl; have hcz46_2 : w43.cell? ⟨gb663, 2, none⟩ = some (.int .i64 a1_2) := (blk_cell BK663.out 2).trans rfl; have hcz46_3 : w43.cell? ⟨gb663, 3, none⟩ = some (.int .i64 a1_3) := (blk_cell BK663.out 3).trans rfl; have hcz46_4 : w43.cell? ⟨gb663, 4, none⟩ = some (.int .i64 a1_4) := (blk_cell BK663.out 4).trans rfl; have hcz46_5 : w43.cell? ⟨gb663, 5, none⟩ = some (.int .i64 a1_5) := (blk_cell BK663.out 5).trans rfl; have hfz46_0 := blk_frozen BK663.out 0; have hfz46_1 := blk_frozen BK663.out 1; have hfz46_2 := blk_frozen BK663.out 2; have hfz46_3 := blk_frozen BK663.out 3; have hfz46_4 := blk_frozen BK663.out 4; have hfz46_5 := blk_frozen BK663.out 5) | ((with_reducible refine gate_callee (f := 128) rfl ?_); refine goesL_ (some 9) rfl rfl Try.func128 (by kernel_rfl) rfl #[.slice A0_0 l0_0.length c0_0, .slice A1_0 l1_0.length c1_0] rfl (by (try simp only [List.map_toArray, List.map_cons, List.map_nil]); first | done | rfl | (simp only [List.length_drop, List.length_take]; rfl)) ?_; (with_reducible refine (laws_eqPhiS.calls k _ _ l0_0 _ _ l1_0 false _ ?side1 ?side2 ?side3 ?side4 A3.out).mono ?_); (case side1 => repeat (first | exact (Kd.C_below HR0_0.out HB.out) | (with_reducible refine Kd.C_alloc ?_ _) | (with_reducible refine Kd.C_drewN ?_ _) | (with_reducible refine Kd.C_drew ?_))); (case side2 => exact HC0_0.out); (case side3 => repeat (first | exact (Kd.C_below HR1_0.out HB.out) | (with_reducible refine Kd.C_alloc ?_ _) | (with_reducible refine Kd.C_drewN ?_ _) | (with_reducible refine Kd.C_drew ?_))); (case side4 => exact HC1_0.out); rintro e w47 ⟨rfl, hb⟩; refine ⟨_, rfl, ?_⟩; have n0_ := Aside0.mk (blk_below (g := gb662) (o := .cells #[.slice A0_0 l0_0.length c0_0, .slice A0_1 l0_1.length c0_1, .int .i64 a0_2, .int .i64 a0_3, .int .i64 a0_4, .int .i64 a0_5] 88 (0, 0)) (by (with_reducible repeat (first | refine blk_drewN ?_ _ | refine blk_drew ?_ | refine blk_alloc ?_ _)); exact BK662.out) hb); have n1_ := Aside0.mk (blk_below (g := gb663) (o := .cells #[.slice A1_0 l1_0.length c1_0, .slice A1_1 l1_1.length c1_1, .int .i64 a1_2, .int .i64 a1_3, .int .i64 a1_4, .int .i64 a1_5] 88 (0, 0)) (by (with_reducible repeat (first | refine blk_drewN ?_ _ | refine blk_drew ?_ | refine blk_alloc ?_ _)); exact BK663.out) hb); have n2_ := Aside0.mk (below_step (by repeat (first | (with_reducible first | exact HB.out | apply below_alloc | apply pw_below_drewN | apply below_drew1 | refine below_set ?_ GE662.out | refine below_set ?_ GE663.out) | exact HB.out)) hb); clear BK662; clear BK663; clear HB; have BK662 := n0_; have BK663 := n1_; have HB := n2_; clear n0_ n1_ n2_; (try clear hb); (try clear hb2); (try clear hk); (try clear hi)))
    go_ret
    exact ⟨by first | rfl | (simp [errW_none, errW_some] <;> rfl) | (simp [*, errW_none, errW_some] <;> rfl), by repeat (first | (with_reducible first | exact HB.out | apply below_alloc | apply pw_below_drewN | apply below_drew1 | refine below_set ?_ GE662.out | refine below_set ?_ GE663.out) | exact HB.out)⟩

end Go.Proofs.Ytjkbafcepblacaa.X
namespace Go.Proofs.Ytjkbafcepblacaa.X
open Go.RowKit Go.Proofs.YtjkbafcepblacaaW.PrintWords Go.Proofs.YtjkbafcepblacaaW.PrintLast Go.Proofs.YtjkbafcepblacaaW.PrintMore
attribute [local go_sem] max2_int min2_int max_two min_two max_three min_three max_four min_four   -- for this text's walks alone
set_option linter.unusedVariables false
set_option linter.unusedSimpArgs false

/-! ### laws_eqBlockS: function 82 -/
def laws_eqBlockS.l0 : Nat → List (S88) → List (S88) → Int → Option (Bool)
  | 0, _, _, _ => none
  | k + 1, x0, x1, x5 => if x5 < (x0.length : Int) then (if 0 ≤ x5 then (if x5 < (x1.length : Int) then ((laws_eqBlock.f k ((rd_T88 x0 x5).f0) ((rd_T88 x0 x5).f1) ((rd_T88 x0 x5).f2.f0) ((rd_T88 x0 x5).f2.f1) ((rd_T88 x0 x5).f2.f2) ((rd_T88 x0 x5).f2.f3) ((rd_T88 x1 x5).f0) ((rd_T88 x1 x5).f1) ((rd_T88 x1 x5).f2.f0) ((rd_T88 x1 x5).f2.f1) ((rd_T88 x1 x5).f2.f2) ((rd_T88 x1 x5).f2.f3)).bind fun t669 => (if t669 = true then (laws_eqBlockS.l0 k x0 x1 (wrap64 (x5 + 1))) else (some false))) else (none)) else (none)) else (some true)
def laws_eqBlockS.f (k : Nat) (l0 : List (S88)) (l1 : List (S88)) : Option (Bool) := if (l0.length : Int) = (l1.length : Int) then (laws_eqBlockS.l0 k l0 l1 0) else (some false)
theorem laws_eqBlockS.mono_l : ∀ k, (∀ y0 y1 y2, LeO (laws_eqBlockS.l0 k y0 y1 y2) (laws_eqBlockS.l0 (k + 1) y0 y1 y2))
  | 0 => fun _ _ _ r h => by simp [laws_eqBlockS.l0] at h
  | k + 1 => by
    have ih0 := laws_eqBlockS.mono_l k
    · intro y0 y1 y2
      unfold laws_eqBlockS.l0
      repeat' first
      | (with_reducible exact ih0 _ _ _)
      | (with_reducible exact laws_eqBlock.mono _ _ _ _ _ _ _ _ _ _ _ _ _)
      | (with_reducible exact LeO.refl _)
      | (with_reducible exact LeO.none _)
      | (with_reducible refine LeO.ite ?_ ?_)
      | (with_reducible refine LeO.bind ?_ (fun _ => ?_))
      | exact ih0 _ _ _
      | exact laws_eqBlock.mono _ _ _ _ _ _ _ _ _ _ _ _ _
      | exact LeO.none _
      | refine LeO.ite ?_ ?_
      | refine LeO.bind ?_ (fun _ => ?_)
theorem laws_eqBlockS.mono : ∀ a0 a1 k, LeO (laws_eqBlockS.f k a0 a1) (laws_eqBlockS.f (k + 1) a0 a1) := by
  intro a0 a1 k
  have ih0 := laws_eqBlockS.mono_l k
  unfold laws_eqBlockS.f
  repeat' first
      | (with_reducible exact ih0 _ _ _)
      | (with_reducible exact laws_eqBlock.mono _ _ _ _ _ _ _ _ _ _ _ _ _)
      | (with_reducible exact LeO.refl _)
      | (with_reducible exact LeO.none _)
      | (with_reducible refine LeO.ite ?_ ?_)
      | (with_reducible refine LeO.bind ?_ (fun _ => ?_))
      | exact ih0 _ _ _
      | exact laws_eqBlock.mono _ _ _ _ _ _ _ _ _ _ _ _ _
      | exact LeO.none _
      | refine LeO.ite ?_ ?_
      | refine LeO.bind ?_ (fun _ => ?_)
def laws_eqBlockS.T6 : Bool × List (List Nat × List Nat) := (true, [([], []), ([], []), ([0, 1], [0, 1]), ([2], [2]), ([], []), ([], []), ([4, 5], [4, 5]), ([6], [6]), ([3, 7], [3, 7]), ([8], [8])])
def laws_eqBlockS.B6 : List Nat := [0, 0, 3, 7, 0, 0, 48, 112, 255, 511]
theorem laws_eqBlockS.tab6 : rtab .any (opsOf Try.f82 6) = laws_eqBlockS.T6 := by kernel_rfl
theorem laws_eqBlockS.bits6 : waitsOk laws_eqBlockS.T6.2 laws_eqBlockS.B6 = true := by kernel_rfl
set_option maxHeartbeats 8000000 in
set_option maxRecDepth 100000 in
theorem laws_eqBlockS.calls (k : Nat) (A0 : Option Addr) (c0 : Nat) (l0 : List (S88)) (A1 : Option Addr) (c1 : Nat) (l1 : List (S88)) (r : Bool) (w : World) (hr0 : Kd.C k88 w A0 l0.length l0) (hc0 : l0.length ≤ c0) (hr1 : Kd.C k88 w A1 l1.length l1) (hc1 : l1.length ≤ c1) (h : laws_eqBlockS.f k l0 l1 = some r) :
    Calls Try.prog 82 #[.slice A0 l0.length c0, .slice A1 l1.length c1] w fun e w' => e = .returned (.bool r) ∧ Below w.heap.size w w' := by
  have hu88 := Try.underlying88
  have HR0 := Aside0.mk hr0
  have HC0 := Aside0.mk hc0
  clear hr0 hc0
  have HR1 := Aside0.mk hr1
  have HC1 := Aside0.mk hc1
  clear hr1 hc1
  have HB := Aside0.mk (Below.refl w.heap.size w)
  have H : (if (l0.length : Int) = (l1.length : Int) then (laws_eqBlockS.l0 k l0 l1 0) else (some false)) = some r := h
  clear h
  by_cases c3 : (l0.length : Int) = (l1.length : Int)
  · rw [if_pos c3] at H
    have c3b0 : ((l0.length : Int) == (l1.length : Int)) = true := beq_iff_eq.mpr c3
    have c3b1 : ((l0.length : Int) != (l1.length : Int)) = false := bne_eq_false_iff_eq.mpr c3
    have c3b2 : (l0.length == l1.length) = true := by first | simpa using c3 | (simp at c3 ⊢; omega)
    clear c3
    have H' := Aside0.mk H
    clear H
    go_enter Try.func82, Try.ntmps82
    go_wp2
    go_loopg [5] k (fun kq v5 w' => ∃ (x5_1 : Int), v5 = .int .i64 x5_1 ∧ Aside0 (laws_eqBlockS.l0 kq l0 l1 x5_1 = some r) ∧ Aside0 (kq ≤ k) ∧ Aside0 (Below w.heap.size w w'))
    case atStart => exact ⟨(0), (by first | rfl | (simp; done) | (simp [*]; done)), H', ⟨Nat.le_refl _⟩, ⟨by repeat (first | (with_reducible first | exact HB.out | apply below_alloc | apply pw_below_drewN | apply below_drew1) | exact HB.out)⟩⟩
    case round =>
      clear H'
      try clear c1
      try clear p2
      try clear c3
      try clear c3b0
      try clear c3b1
      try clear c3b2
      obtain ⟨x5_1, rfl, HA, HK1, HB⟩ := hrel
      cases gk with
      | zero => exact absurd HA.out (by simp [laws_eqBlockS.l0])
      | succ k1 =>
        have H := HA.out
        clear HA
        simp only [laws_eqBlockS.l0] at H
        by_cases c4 : x5_1 < (l0.length : Int)
        · rw [if_pos c4] at H
          have c4b0 : decide (x5_1 < (l0.length : Int)) = true := decide_eq_true c4
          clear c4
          by_cases c5 : 0 ≤ x5_1
          · rw [if_pos c5] at H
            have c5b0 : decide (0 ≤ x5_1) = true := decide_eq_true c5
            clear c5
            by_cases c6 : x5_1 < (l1.length : Int)
            · rw [if_pos c6] at H
              have c6b0 : decide (x5_1 < (l1.length : Int)) = true := decide_eq_true c6
              clear c6
              replace H := Option.bind_eq_some_iff.mp H
              obtain ⟨t669, A70, H⟩ := H
              replace H : (if t669 = true then (laws_eqBlockS.l0 k1 l0 l1 (wrap64 (x5_1 + 1))) else (some false)) = some r := H
              have A7 := Aside0.mk A70
              clear A70
              by_cases c8 : t669 = true
              · subst c8
                have H1 : (laws_eqBlockS.l0 k1 l0 l1 (wrap64 (x5_1 + 1))) = some r := by rw [if_pos rfl] at H; exact H
                clear H
                have H := H1
                clear H1
                have H' := Aside0.mk H
                clear H
                try go_wp2
                have n0_ := Aside0.mk (below_drew1 HB.out)
                clear HB
                have HB := n0_
                clear n0_
                have p667 : 0 ≤ (x5_1 : Int) := of_decide_eq_true (by first | (with_reducible assumption) | assumption)
                have q667 : x5_1 < (l0.length : Int) := of_decide_eq_true (by first | (with_reducible assumption) | assumption)
                obtain ⟨ad667, A667_0, c667_0, A667_1, c667_1, e667, hx667_0, hx667_1, hx667_2, hx667_3, hx667_4, hx667_5, hl667_0, hi667_0, hl667_1, hi667_1⟩ := at_T88 HR0.out x5_1 p667 q667
                have hw667_5 := hx667_5
                have hw667_4 := hx667_4
                have hw667_3 := hx667_3
                have hw667_2 := hx667_2
                have hw667_1 := hx667_1
                have hw667_0 := hx667_0
                cases e667
                replace hx667_0 := (HB.out.cell (World.block_lt_of_cell? w _ hx667_0)).trans hx667_0
                replace hx667_1 := (HB.out.cell (World.block_lt_of_cell? w _ hx667_1)).trans hx667_1
                replace hx667_2 := (HB.out.cell (World.block_lt_of_cell? w _ hx667_2)).trans hx667_2
                replace hx667_3 := (HB.out.cell (World.block_lt_of_cell? w _ hx667_3)).trans hx667_3
                replace hx667_4 := (HB.out.cell (World.block_lt_of_cell? w _ hx667_4)).trans hx667_4
                replace hx667_5 := (HB.out.cell (World.block_lt_of_cell? w _ hx667_5)).trans hx667_5
                have HR667_0 := Aside0.mk hi667_0
                have HC667_0 := Aside0.mk hl667_0
                clear hi667_0 hl667_0
                have HR667_1 := Aside0.mk hi667_1
                have HC667_1 := Aside0.mk hl667_1
                clear hi667_1 hl667_1
                replace p667 := eq_true p667
                replace q667 := eq_true q667
                have p668 : 0 ≤ (x5_1 : Int) := of_decide_eq_true (by first | (with_reducible assumption) | assumption)
                have q668 : x5_1 < (l1.length : Int) := of_decide_eq_true (by first | (with_reducible assumption) | assumption)
                obtain ⟨ad668, A668_0, c668_0, A668_1, c668_1, e668, hx668_0, hx668_1, hx668_2, hx668_3, hx668_4, hx668_5, hl668_0, hi668_0, hl668_1, hi668_1⟩ := at_T88 HR1.out x5_1 p668 q668
                have hw668_5 := hx668_5
                have hw668_4 := hx668_4
                have hw668_3 := hx668_3
                have hw668_2 := hx668_2
                have hw668_1 := hx668_1
                have hw668_0 := hx668_0
                cases e668
                replace hx668_0 := (HB.out.cell (World.block_lt_of_cell? w _ hx668_0)).trans hx668_0
                replace hx668_1 := (HB.out.cell (World.block_lt_of_cell? w _ hx668_1)).trans hx668_1
                replace hx668_2 := (HB.out.cell (World.block_lt_of_cell? w _ hx668_2)).trans hx668_2
                replace hx668_3 := (HB.out.cell (World.block_lt_of_cell? w _ hx668_3)).trans hx668_3
                replace hx668_4 := (HB.out.cell (World.block_lt_of_cell? w _ hx668_4)).trans hx668_4
                replace hx668_5 := (HB.out.cell (World.block_lt_of_cell? w _ hx668_5)).trans hx668_5
                have HR668_0 := Aside0.mk hi668_0
                have HC668_0 := Aside0.mk hl668_0
                clear hi668_0 hl668_0
                have HR668_1 := Aside0.mk hi668_1
                have HC668_1 := Aside0.mk hl668_1
                clear hi668_1 hl668_1
                replace p668 := eq_true p668
                replace q668 := eq_true q668
                refine start_ (n := 10) (S := fun w' => w'.cell? (ad667.add ((x5_1).toNat * 6)) = some (.slice A667_0 ((rd_T88 l0 x5_1).f0).length c667_0) ∧ w'.cell? ⟨(ad667.add ((x5_1).toNat * 6)).block, (ad667.add ((x5_1).toNat * 6)).off + 1, none⟩ = some (.slice A667_1 ((rd_T88 l0 x5_1).f1).length c667_1) ∧ w'.cell? ⟨(ad667.add ((x5_1).toNat * 6)).block, (ad667.add ((x5_1).toNat * 6)).off + 2, none⟩ = some (.int .i64 ((rd_T88 l0 x5_1).f2.f0)) ∧ w'.cell? ⟨(ad667.add ((x5_1).toNat * 6)).block, (ad667.add ((x5_1).toNat * 6)).off + 3, none⟩ = some (.int .i64 ((rd_T88 l0 x5_1).f2.f1)) ∧ w'.cell? ⟨(ad667.add ((x5_1).toNat * 6)).block, (ad667.add ((x5_1).toNat * 6)).off + 4, none⟩ = some (.int .i64 ((rd_T88 l0 x5_1).f2.f2)) ∧ w'.cell? ⟨(ad667.add ((x5_1).toNat * 6)).block, (ad667.add ((x5_1).toNat * 6)).off + 5, none⟩ = some (.int .i64 ((rd_T88 l0 x5_1).f2.f3)) ∧ w'.cell? (ad668.add ((x5_1).toNat * 6)) = some (.slice A668_0 ((rd_T88 l1 x5_1).f0).length c668_0) ∧ w'.cell? ⟨(ad668.add ((x5_1).toNat * 6)).block, (ad668.add ((x5_1).toNat * 6)).off + 1, none⟩ = some (.slice A668_1 ((rd_T88 l1 x5_1).f1).length c668_1) ∧ w'.cell? ⟨(ad668.add ((x5_1).toNat * 6)).block, (ad668.add ((x5_1).toNat * 6)).off + 2, none⟩ = some (.int .i64 ((rd_T88 l1 x5_1).f2.f0)) ∧ w'.cell? ⟨(ad668.add ((x5_1).toNat * 6)).block, (ad668.add ((x5_1).toNat * 6)).off + 3, none⟩ = some (.int .i64 ((rd_T88 l1 x5_1).f2.f1)) ∧ w'.cell? ⟨(ad668.add ((x5_1).toNat * 6)).block, (ad668.add ((x5_1).toNat * 6)).off + 4, none⟩ = some (.int .i64 ((rd_T88 l1 x5_1).f2.f2)) ∧ w'.cell? ⟨(ad668.add ((x5_1).toNat * 6)).block, (ad668.add ((x5_1).toNat * 6)).off + 5, none⟩ = some (.int .i64 ((rd_T88 l1 x5_1).f2.f3))) (ds := []) #[false, false, false, false, false, false, false, false, false, false] (by kernel_rfl) rfl rfl ⟨((HB.out.cell (World.block_lt_of_cell? w _ hw667_0)).trans hw667_0), ((HB.out.cell (World.block_lt_of_cell? w _ hw667_1)).trans hw667_1), ((HB.out.cell (World.block_lt_of_cell? w _ hw667_2)).trans hw667_2), ((HB.out.cell (World.block_lt_of_cell? w _ hw667_3)).trans hw667_3), ((HB.out.cell (World.block_lt_of_cell? w _ hw667_4)).trans hw667_4), ((HB.out.cell (World.block_lt_of_cell? w _ hw667_5)).trans hw667_5), ((HB.out.cell (World.block_lt_of_cell? w _ hw668_0)).trans hw668_0), ((HB.out.cell (World.block_lt_of_cell? w _ hw668_1)).trans hw668_1), ((HB.out.cell (World.block_lt_of_cell? w _ hw668_2)).trans hw668_2), ((HB.out.cell (World.block_lt_of_cell? w _ hw668_3)).trans hw668_3), ((HB.out.cell (World.block_lt_of_cell? w _ hw668_4)).trans hw668_4), ((HB.out.cell (World.block_lt_of_cell? w _ hw668_5)).trans hw668_5)⟩ (fun hHeld => ?_); refine with_tabW laws_eqBlockS.tab6 laws_eqBlockS.bits6 (fun HT_ HW_ => ?_)
                generalize wr.drew = w9 at HB HR667_0 HR667_1 HR668_0 HR668_1 hx667_0 hx667_1 hx667_2 hx667_3 hx667_4 hx667_5 hx668_0 hx668_1 hx668_2 hx668_3 hx668_4 hx668_5 hHeld ⊢
                refine pure_ (i := 0) (N := some 17) (v := ?_) (a' := ?_) #[true, false, false, false, false, false, false, false, false, false] rfl rfl (any_of HT_.out (by kernel_rfl)) (fun _ _ _ h => h) (Or.inl ⟨by rfl, ?_⟩) ?_ ?_
                rotate_left
                · intro w'
                  go_simp
                  with_reducible rfl
                rotate_left
                · simp only [Act.put, List.setIfInBounds_toArray, List.set_cons_zero, List.set_cons_succ, i64_w, i32_w]
                  rfl
                refine pure_ (i := 1) (N := some 18) (v := ?_) (a' := ?_) #[true, true, false, false, false, false, false, false, false, false] rfl rfl (any_of HT_.out (by kernel_rfl)) (fun _ _ _ h => h) (Or.inl ⟨by rfl, ?_⟩) ?_ ?_
                rotate_left
                · intro w'
                  go_simp
                  with_reducible rfl
                rotate_left
                · simp only [Act.put, List.setIfInBounds_toArray, List.set_cons_zero, List.set_cons_succ, i64_w, i32_w]
                  rfl
                refine pure_ (i := 2) (N := some 19) (v := ?_) (a' := ?_) #[true, true, true, false, false, false, false, false, false, false] rfl rfl (any_of HT_.out (by kernel_rfl)) (fun _ _ _ h => h) (Or.inl ⟨by rfl, ?_⟩) ?_ ?_
                rotate_left
                · intro w'
                  go_simp
                  with_reducible rfl
                rotate_left
                · simp only [Act.put, List.setIfInBounds_toArray, List.set_cons_zero, List.set_cons_succ, i64_w, i32_w]
                  rfl
                refine pure_ (i := 4) (N := some 21) (v := ?_) (a' := ?_) #[true, true, true, false, true, false, false, false, false, false] rfl rfl (any_of HT_.out (by kernel_rfl)) (fun _ _ _ h => h) (Or.inl ⟨by rfl, ?_⟩) ?_ ?_
                rotate_left
                · intro w'
                  go_simp
                  with_reducible rfl
                rotate_left
                · simp only [Act.put, List.setIfInBounds_toArray, List.set_cons_zero, List.set_cons_succ, i64_w, i32_w]
                  rfl
                refine pure_ (i := 5) (N := some 22) (v := ?_) (a' := ?_) #[true, true, true, false, true, true, false, false, false, false] rfl rfl (any_of HT_.out (by kernel_rfl)) (fun _ _ _ h => h) (Or.inl ⟨by rfl, ?_⟩) ?_ ?_
                rotate_left
                · intro w'
                  go_simp
                  with_reducible rfl
                rotate_left
                · simp only [Act.put, List.setIfInBounds_toArray, List.set_cons_zero, List.set_cons_succ, i64_w, i32_w]
                  rfl
                refine pure_ (i := 6) (N := some 23) (v := ?_) (a' := ?_) #[true, true, true, false, true, true, true, false, false, false] rfl rfl (any_of HT_.out (by kernel_rfl)) (fun _ _ _ h => h) (Or.inl ⟨by rfl, ?_⟩) ?_ ?_
                rotate_left
                · intro w'
                  go_simp
                  with_reducible rfl
                rotate_left
                · simp only [Act.put, List.setIfInBounds_toArray, List.set_cons_zero, List.set_cons_succ, i64_w, i32_w]
                  rfl
                refine take_ (i := 3) (N := some 20) (v := ?_) (a' := ?_) #[true, true, true, true, true, true, true, false, false, false] rfl rfl (take_ofW HT_.out HW_.out (by kernel_rfl)) (fun _ _ _ h => h) (Or.inl ⟨by rfl, ?_⟩) hHeld ?_ ?_
                rotate_left
                · rintro w' ⟨s0, s1, s2, s3, s4, s5, s6, s7, s8, s9, s10, s11⟩
                  go_simp
                  with_reducible rfl
                rotate_left
                · simp only [Act.put, List.setIfInBounds_toArray, List.set_cons_zero, List.set_cons_succ, i64_w, i32_w]
                  rfl
                refine take_ (i := 7) (N := some 24) (v := ?_) (a' := ?_) #[true, true, true, true, true, true, true, true, false, false] rfl rfl (take_ofW HT_.out HW_.out (by kernel_rfl)) (fun _ _ _ h => h) (Or.inl ⟨by rfl, ?_⟩) hHeld ?_ ?_
                rotate_left
                · rintro w' ⟨s0, s1, s2, s3, s4, s5, s6, s7, s8, s9, s10, s11⟩
                  go_simp
                  with_reducible rfl
                rotate_left
                · simp only [Act.put, List.setIfInBounds_toArray, List.set_cons_zero, List.set_cons_succ, i64_w, i32_w]
                  rfl
                refine one_ (i := 8) (N := some 25) #[true, true, true, true, true, true, true, true, true, false] rfl rfl (one_of HT_.out (by kernel_rfl)) (by decide) (fun K hK => ?_)
                refine goes_ Try.func116 (by kernel_rfl) rfl #[.agg #[.slice A667_0 ((rd_T88 l0 x5_1).f0).length c667_0, .slice A667_1 ((rd_T88 l0 x5_1).f1).length c667_1, .int .i64 ((rd_T88 l0 x5_1).f2.f0), .int .i64 ((rd_T88 l0 x5_1).f2.f1), .int .i64 ((rd_T88 l0 x5_1).f2.f2), .int .i64 ((rd_T88 l0 x5_1).f2.f3)], .agg #[.slice A668_0 ((rd_T88 l1 x5_1).f0).length c668_0, .slice A668_1 ((rd_T88 l1 x5_1).f1).length c668_1, .int .i64 ((rd_T88 l1 x5_1).f2.f0), .int .i64 ((rd_T88 l1 x5_1).f2.f1), .int .i64 ((rd_T88 l1 x5_1).f2.f2), .int .i64 ((rd_T88 l1 x5_1).f2.f3)]] (by rfl) rfl rfl (by (try simp only [List.map_toArray, List.map_cons, List.map_nil]); first | done | rfl | (simp only [List.length_drop, List.length_take]; rfl)) ?_
                with_reducible refine (laws_eqBlock.calls k1 _ _ ((rd_T88 l0 x5_1).f0) _ _ ((rd_T88 l0 x5_1).f1) ((rd_T88 l0 x5_1).f2.f0) ((rd_T88 l0 x5_1).f2.f1) ((rd_T88 l0 x5_1).f2.f2) ((rd_T88 l0 x5_1).f2.f3) _ _ ((rd_T88 l1 x5_1).f0) _ _ ((rd_T88 l1 x5_1).f1) ((rd_T88 l1 x5_1).f2.f0) ((rd_T88 l1 x5_1).f2.f1) ((rd_T88 l1 x5_1).f2.f2) ((rd_T88 l1 x5_1).f2.f3) true _ ?side1 ?side2 ?side3 ?side4 ?side5 ?side6 ?side7 ?side8 A7.out).mono ?_
                (case side1 => repeat (first | exact (Kd.C_below HR667_0.out HB.out) | (with_reducible refine Kd.C_alloc ?_ _) | (with_reducible refine Kd.C_drewN ?_ _) | (with_reducible refine Kd.C_drew ?_)))
                (case side2 => exact HC667_0.out)
                (case side3 => repeat (first | exact (Kd.C_below HR667_1.out HB.out) | (with_reducible refine Kd.C_alloc ?_ _) | (with_reducible refine Kd.C_drewN ?_ _) | (with_reducible refine Kd.C_drew ?_)))
                (case side4 => exact HC667_1.out)
                (case side5 => repeat (first | exact (Kd.C_below HR668_0.out HB.out) | (with_reducible refine Kd.C_alloc ?_ _) | (with_reducible refine Kd.C_drewN ?_ _) | (with_reducible refine Kd.C_drew ?_)))
                (case side6 => exact HC668_0.out)
                (case side7 => repeat (first | exact (Kd.C_below HR668_1.out HB.out) | (with_reducible refine Kd.C_alloc ?_ _) | (with_reducible refine Kd.C_drewN ?_ _) | (with_reducible refine Kd.C_drew ?_)))
                (case side8 => exact HC668_1.out)
                rintro e w10 ⟨rfl, hb⟩
                refine ⟨_, rfl, ?_⟩
                have n0_ := Aside0.mk (below_step (by repeat (first | (with_reducible first | exact HB.out | apply below_alloc | apply pw_below_drewN | apply below_drew1) | exact HB.out)) hb)
                clear HB
                have HB := n0_
                clear n0_
                (try clear hb)
                (try clear hb2)
                (try clear hk)
                (try clear hi)
                refine hK.out _ _ ⟨((HB.out.cell (World.block_lt_of_cell? w _ hw667_0)).trans hw667_0), ((HB.out.cell (World.block_lt_of_cell? w _ hw667_1)).trans hw667_1), ((HB.out.cell (World.block_lt_of_cell? w _ hw667_2)).trans hw667_2), ((HB.out.cell (World.block_lt_of_cell? w _ hw667_3)).trans hw667_3), ((HB.out.cell (World.block_lt_of_cell? w _ hw667_4)).trans hw667_4), ((HB.out.cell (World.block_lt_of_cell? w _ hw667_5)).trans hw667_5), ((HB.out.cell (World.block_lt_of_cell? w _ hw668_0)).trans hw668_0), ((HB.out.cell (World.block_lt_of_cell? w _ hw668_1)).trans hw668_1), ((HB.out.cell (World.block_lt_of_cell? w _ hw668_2)).trans hw668_2), ((HB.out.cell (World.block_lt_of_cell? w _ hw668_3)).trans hw668_3), ((HB.out.cell (World.block_lt_of_cell? w _ hw668_4)).trans hw668_4), ((HB.out.cell (World.block_lt_of_cell? w _ hw668_5)).trans hw668_5)⟩ (fun hHeld => ?_)
                clear hK K
                refine norm_ (a' := ?_) ?_ ?_
                rotate_left
                · show Act.put _ (some 25) _ = _
                  simp only [Act.put, List.setIfInBounds_toArray, List.set_cons_zero, List.set_cons_succ, i64_w, i32_w]
                  rfl
                refine pure_ (i := 9) (N := some 26) (v := ?_) (a' := ?_) #[true, true, true, true, true, true, true, true, true, true] rfl rfl (any_of HT_.out (by kernel_rfl)) (fun _ _ _ h => h) (Or.inl ⟨by rfl, ?_⟩) ?_ ?_
                rotate_left
                · intro w'
                  go_simp
                  with_reducible rfl
                rotate_left
                · simp only [Act.put, List.setIfInBounds_toArray, List.set_cons_zero, List.set_cons_succ, i64_w, i32_w]
                  rfl
                refine done_ (done_of HT_.out (by kernel_rfl)) ?_
                try go_wp2
                go_roundg k1
                case measure => have := HK1.out; omega
                case rel => exact ⟨(wrap64 (x5_1 + 1)), (by first | rfl | (simp; done) | (simp [*]; done)), H', ⟨by have := HK1.out; omega⟩, ⟨by repeat (first | (with_reducible first | exact HB.out | apply below_alloc | apply pw_below_drewN | apply below_drew1) | exact HB.out)⟩⟩
              · replace c8 := Bool.eq_false_iff.mpr c8
                subst c8
                have H1 : (some false) = some r := by rw [if_neg (show ¬ (false = true) by decide)] at H; exact H
                clear H
                have H := H1
                clear H1
                obtain rfl := Option.some.inj H
                try go_wp2
                have n0_ := Aside0.mk (below_drew1 HB.out)
                clear HB
                have HB := n0_
                clear n0_
                have p667 : 0 ≤ (x5_1 : Int) := of_decide_eq_true (by first | (with_reducible assumption) | assumption)
                have q667 : x5_1 < (l0.length : Int) := of_decide_eq_true (by first | (with_reducible assumption) | assumption)
                obtain ⟨ad667, A667_0, c667_0, A667_1, c667_1, e667, hx667_0, hx667_1, hx667_2, hx667_3, hx667_4, hx667_5, hl667_0, hi667_0, hl667_1, hi667_1⟩ := at_T88 HR0.out x5_1 p667 q667
                have hw667_5 := hx667_5
                have hw667_4 := hx667_4
                have hw667_3 := hx667_3
                have hw667_2 := hx667_2
                have hw667_1 := hx667_1
                have hw667_0 := hx667_0
                cases e667
                replace hx667_0 := (HB.out.cell (World.block_lt_of_cell? w _ hx667_0)).trans hx667_0
                replace hx667_1 := (HB.out.cell (World.block_lt_of_cell? w _ hx667_1)).trans hx667_1
                replace hx667_2 := (HB.out.cell (World.block_lt_of_cell? w _ hx667_2)).trans hx667_2
                replace hx667_3 := (HB.out.cell (World.block_lt_of_cell? w _ hx667_3)).trans hx667_3
                replace hx667_4 := (HB.out.cell (World.block_lt_of_cell? w _ hx667_4)).trans hx667_4
                replace hx667_5 := (HB.out.cell (World.block_lt_of_cell? w _ hx667_5)).trans hx667_5
                have HR667_0 := Aside0.mk hi667_0
                have HC667_0 := Aside0.mk hl667_0
                clear hi667_0 hl667_0
                have HR667_1 := Aside0.mk hi667_1
                have HC667_1 := Aside0.mk hl667_1
                clear hi667_1 hl667_1
                replace p667 := eq_true p667
                replace q667 := eq_true q667
                have p668 : 0 ≤ (x5_1 : Int) := of_decide_eq_true (by first | (with_reducible assumption) | assumption)
                have q668 : x5_1 < (l1.length : Int) := of_decide_eq_true (by first | (with_reducible assumption) | assumption)
                obtain ⟨ad668, A668_0, c668_0, A668_1, c668_1, e668, hx668_0, hx668_1, hx668_2, hx668_3, hx668_4, hx668_5, hl668_0, hi668_0, hl668_1, hi668_1⟩ := at_T88 HR1.out x5_1 p668 q668
                have hw668_5 := hx668_5
                have hw668_4 := hx668_4
                have hw668_3 := hx668_3
                have hw668_2 := hx668_2
                have hw668_1 := hx668_1
                have hw668_0 := hx668_0
                cases e668
                replace hx668_0 := (HB.out.cell (World.block_lt_of_cell? w _ hx668_0)).trans hx668_0
                replace hx668_1 := (HB.out.cell (World.block_lt_of_cell? w _ hx668_1)).trans hx668_1
                replace hx668_2 := (HB.out.cell (World.block_lt_of_cell? w _ hx668_2)).trans hx668_2
                replace hx668_3 := (HB.out.cell (World.block_lt_of_cell? w _ hx668_3)).trans hx668_3
                replace hx668_4 := (HB.out.cell (World.block_lt_of_cell? w _ hx668_4)).trans hx668_4
                replace hx668_5 := (HB.out.cell (World.block_lt_of_cell? w _ hx668_5)).trans hx668_5
                have HR668_0 := Aside0.mk hi668_0
                have HC668_0 := Aside0.mk hl668_0
                clear hi668_0 hl668_0
                have HR668_1 := Aside0.mk hi668_1
                have HC668_1 := Aside0.mk hl668_1
                clear hi668_1 hl668_1
                replace p668 := eq_true p668
                replace q668 := eq_true q668
                refine start_ (n := 10) (S := fun w' => w'.cell? (ad667.add ((x5_1).toNat * 6)) = some (.slice A667_0 ((rd_T88 l0 x5_1).f0).length c667_0) ∧ w'.cell? ⟨(ad667.add ((x5_1).toNat * 6)).block, (ad667.add ((x5_1).toNat * 6)).off + 1, none⟩ = some (.slice A667_1 ((rd_T88 l0 x5_1).f1).length c667_1) ∧ w'.cell? ⟨(ad667.add ((x5_1).toNat * 6)).block, (ad667.add ((x5_1).toNat * 6)).off + 2, none⟩ = some (.int .i64 ((rd_T88 l0 x5_1).f2.f0)) ∧ w'.cell? ⟨(ad667.add ((x5_1).toNat * 6)).block, (ad667.add ((x5_1).toNat * 6)).off + 3, none⟩ = some (.int .i64 ((rd_T88 l0 x5_1).f2.f1)) ∧ w'.cell? ⟨(ad667.add ((x5_1).toNat * 6)).block, (ad667.add ((x5_1).toNat * 6)).off + 4, none⟩ = some (.int .i64 ((rd_T88 l0 x5_1).f2.f2)) ∧ w'.cell? ⟨(ad667.add ((x5_1).toNat * 6)).block, (ad667.add ((x5_1).toNat * 6)).off + 5, none⟩ = some (.int .i64 ((rd_T88 l0 x5_1).f2.f3)) ∧ w'.cell? (ad668.add ((x5_1).toNat * 6)) = some (.slice A668_0 ((rd_T88 l1 x5_1).f0).length c668_0) ∧ w'.cell? ⟨(ad668.add ((x5_1).toNat * 6)).block, (ad668.add ((x5_1).toNat * 6)).off + 1, none⟩ = some (.slice A668_1 ((rd_T88 l1 x5_1).f1).length c668_1) ∧ w'.cell? ⟨(ad668.add ((x5_1).toNat * 6)).block, (ad668.add ((x5_1).toNat * 6)).off + 2, none⟩ = some (.int .i64 ((rd_T88 l1 x5_1).f2.f0)) ∧ w'.cell? ⟨(ad668.add ((x5_1).toNat * 6)).block, (ad668.add ((x5_1).toNat * 6)).off + 3, none⟩ = some (.int .i64 ((rd_T88 l1 x5_1).f2.f1)) ∧ w'.cell? ⟨(ad668.add ((x5_1).toNat * 6)).block, (ad668.add ((x5_1).toNat * 6)).off + 4, none⟩ = some (.int .i64 ((rd_T88 l1 x5_1).f2.f2)) ∧ w'.cell? ⟨(ad668.add ((x5_1).toNat * 6)).block, (ad668.add ((x5_1).toNat * 6)).off + 5, none⟩ = some (.int .i64 ((rd_T88 l1 x5_1).f2.f3))) (ds := []) #[false, false, false, false, false, false, false, false, false, false] (by kernel_rfl) rfl rfl ⟨((HB.out.cell (World.block_lt_of_cell? w _ hw667_0)).trans hw667_0), ((HB.out.cell (World.block_lt_of_cell? w _ hw667_1)).trans hw667_1), ((HB.out.cell (World.block_lt_of_cell? w _ hw667_2)).trans hw667_2), ((HB.out.cell (World.block_lt_of_cell? w _ hw667_3)).trans hw667_3), ((HB.out.cell (World.block_lt_of_cell? w _ hw667_4)).trans hw667_4), ((HB.out.cell (World.block_lt_of_cell? w _ hw667_5)).trans hw667_5), ((HB.out.cell (World.block_lt_of_cell? w _ hw668_0)).trans hw668_0), ((HB.out.cell (World.block_lt_of_cell? w _ hw668_1)).trans hw668_1), ((HB.out.cell (World.block_lt_of_cell? w _ hw668_2)).trans hw668_2), ((HB.out.cell (World.block_lt_of_cell? w _ hw668_3)).trans hw668_3), ((HB.out.cell (World.block_lt_of_cell? w _ hw668_4)).trans hw668_4), ((HB.out.cell (World.block_lt_of_cell? w _ hw668_5)).trans hw668_5)⟩ (fun hHeld => ?_); refine with_tabW laws_eqBlockS.tab6 laws_eqBlockS.bits6 (fun HT_ HW_ => ?_)
                generalize wr.drew = w11 at HB HR667_0 HR667_1 HR668_0 HR668_1 hx667_0 hx667_1 hx667_2 hx667_3 hx667_4 hx667_5 hx668_0 hx668_1 hx668_2 hx668_3 hx668_4 hx668_5 hHeld ⊢
                refine pure_ (i := 0) (N := some 17) (v := ?_) (a' := ?_) #[true, false, false, false, false, false, false, false, false, false] rfl rfl (any_of HT_.out (by kernel_rfl)) (fun _ _ _ h => h) (Or.inl ⟨by rfl, ?_⟩) ?_ ?_
                rotate_left
                · intro w'
                  go_simp
                  with_reducible rfl
                rotate_left
                · simp only [Act.put, List.setIfInBounds_toArray, List.set_cons_zero, List.set_cons_succ, i64_w, i32_w]
                  rfl
                refine pure_ (i := 1) (N := some 18) (v := ?_) (a' := ?_) #[true, true, false, false, false, false, false, false, false, false] rfl rfl (any_of HT_.out (by kernel_rfl)) (fun _ _ _ h => h) (Or.inl ⟨by rfl, ?_⟩) ?_ ?_
                rotate_left
                · intro w'
                  go_simp
                  with_reducible rfl
                rotate_left
                · simp only [Act.put, List.setIfInBounds_toArray, List.set_cons_zero, List.set_cons_succ, i64_w, i32_w]
                  rfl
                refine pure_ (i := 2) (N := some 19) (v := ?_) (a' := ?_) #[true, true, true, false, false, false, false, false, false, false] rfl rfl (any_of HT_.out (by kernel_rfl)) (fun _ _ _ h => h) (Or.inl ⟨by rfl, ?_⟩) ?_ ?_
                rotate_left
                · intro w'
                  go_simp
                  with_reducible rfl
                rotate_left
                · simp only [Act.put, List.setIfInBounds_toArray, List.set_cons_zero, List.set_cons_succ, i64_w, i32_w]
                  rfl
                refine pure_ (i := 4) (N := some 21) (v := ?_) (a' := ?_) #[true, true, true, false, true, false, false, false, false, false] rfl rfl (any_of HT_.out (by kernel_rfl)) (fun _ _ _ h => h) (Or.inl ⟨by rfl, ?_⟩) ?_ ?_
                rotate_left
                · intro w'
                  go_simp
                  with_reducible rfl
                rotate_left
                · simp only [Act.put, List.setIfInBounds_toArray, List.set_cons_zero, List.set_cons_succ, i64_w, i32_w]
                  rfl
                refine pure_ (i := 5) (N := some 22) (v := ?_) (a' := ?_) #[true, true, true, false, true, true, false, false, false, false] rfl rfl (any_of HT_.out (by kernel_rfl)) (fun _ _ _ h => h) (Or.inl ⟨by rfl, ?_⟩) ?_ ?_
                rotate_left
                · intro w'
                  go_simp
                  with_reducible rfl
                rotate_left
                · simp only [Act.put, List.setIfInBounds_toArray, List.set_cons_zero, List.set_cons_succ, i64_w, i32_w]
                  rfl
                refine pure_ (i := 6) (N := some 23) (v := ?_) (a' := ?_) #[true, true, true, false, true, true, true, false, false, false] rfl rfl (any_of HT_.out (by kernel_rfl)) (fun _ _ _ h => h) (Or.inl ⟨by rfl, ?_⟩) ?_ ?_
                rotate_left
                · intro w'
                  go_simp
                  with_reducible rfl
                rotate_left
                · simp only [Act.put, List.setIfInBounds_toArray, List.set_cons_zero, List.set_cons_succ, i64_w, i32_w]
                  rfl
                refine take_ (i := 3) (N := some 20) (v := ?_) (a' := ?_) #[true, true, true, true, true, true, true, false, false, false] rfl rfl (take_ofW HT_.out HW_.out (by kernel_rfl)) (fun _ _ _ h => h) (Or.inl ⟨by rfl, ?_⟩) hHeld ?_ ?_
                rotate_left
                · rintro w' ⟨s0, s1, s2, s3, s4, s5, s6, s7, s8, s9, s10, s11⟩
                  go_simp
                  with_reducible rfl
                rotate_left
                · simp only [Act.put, List.setIfInBounds_toArray, List.set_cons_zero, List.set_cons_succ, i64_w, i32_w]
                  rfl
                refine take_ (i := 7) (N := some 24) (v := ?_) (a' := ?_) #[true, true, true, true, true, true, true, true, false, false] rfl rfl (take_ofW HT_.out HW_.out (by kernel_rfl)) (fun _ _ _ h => h) (Or.inl ⟨by rfl, ?_⟩) hHeld ?_ ?_
                rotate_left
                · rintro w' ⟨s0, s1, s2, s3, s4, s5, s6, s7, s8, s9, s10, s11⟩
                  go_simp
                  with_reducible rfl
                rotate_left
                · simp only [Act.put, List.setIfInBounds_toArray, List.set_cons_zero, List.set_cons_succ, i64_w, i32_w]
                  rfl
                refine one_ (i := 8) (N := some 25) #[true, true, true, true, true, true, true, true, true, false] rfl rfl (one_of HT_.out (by kernel_rfl)) (by decide) (fun K hK => ?_)
                refine goes_ Try.func116 (by kernel_rfl) rfl #[.agg #[.slice A667_0 ((rd_T88 l0 x5_1).f0).length c667_0, .slice A667_1 ((rd_T88 l0 x5_1).f1).length c667_1, .int .i64 ((rd_T88 l0 x5_1).f2.f0), .int .i64 ((rd_T88 l0 x5_1).f2.f1), .int .i64 ((rd_T88 l0 x5_1).f2.f2), .int .i64 ((rd_T88 l0 x5_1).f2.f3)], .agg #[.slice A668_0 ((rd_T88 l1 x5_1).f0).length c668_0, .slice A668_1 ((rd_T88 l1 x5_1).f1).length c668_1, .int .i64 ((rd_T88 l1 x5_1).f2.f0), .int .i64 ((rd_T88 l1 x5_1).f2.f1), .int .i64 ((rd_T88 l1 x5_1).f2.f2), .int .i64 ((rd_T88 l1 x5_1).f2.f3)]] (by rfl) rfl rfl (by (try simp only [List.map_toArray, List.map_cons, List.map_nil]); first | done | rfl | (simp only [List.length_drop, List.length_take]; rfl)) ?_
                with_reducible refine (laws_eqBlock.calls k1 _ _ ((rd_T88 l0 x5_1).f0) _ _ ((rd_T88 l0 x5_1).f1) ((rd_T88 l0 x5_1).f2.f0) ((rd_T88 l0 x5_1).f2.f1) ((rd_T88 l0 x5_1).f2.f2) ((rd_T88 l0 x5_1).f2.f3) _ _ ((rd_T88 l1 x5_1).f0) _ _ ((rd_T88 l1 x5_1).f1) ((rd_T88 l1 x5_1).f2.f0) ((rd_T88 l1 x5_1).f2.f1) ((rd_T88 l1 x5_1).f2.f2) ((rd_T88 l1 x5_1).f2.f3) false _ ?side1 ?side2 ?side3 ?side4 ?side5 ?side6 ?side7 ?side8 A7.out).mono ?_
                (case side1 => repeat (first | exact (Kd.C_below HR667_0.out HB.out) | (with_reducible refine Kd.C_alloc ?_ _) | (with_reducible refine Kd.C_drewN ?_ _) | (with_reducible refine Kd.C_drew ?_)))
                (case side2 => exact HC667_0.out)
                (case side3 => repeat (first | exact (Kd.C_below HR667_1.out HB.out) | (with_reducible refine Kd.C_alloc ?_ _) | (with_reducible refine Kd.C_drewN ?_ _) | (with_reducible refine Kd.C_drew ?_)))
                (case side4 => exact HC667_1.out)
                (case side5 => repeat (first | exact (Kd.C_below HR668_0.out HB.out) | (with_reducible refine Kd.C_alloc ?_ _) | (with_reducible refine Kd.C_drewN ?_ _) | (with_reducible refine Kd.C_drew ?_)))
                (case side6 => exact HC668_0.out)
                (case side7 => repeat (first | exact (Kd.C_below HR668_1.out HB.out) | (with_reducible refine Kd.C_alloc ?_ _) | (with_reducible refine Kd.C_drewN ?_ _) | (with_reducible refine Kd.C_drew ?_)))
                (case side8 => exact HC668_1.out)
                rintro e w12 ⟨rfl, hb⟩
                refine ⟨_, rfl, ?_⟩
                have n0_ := Aside0.mk (below_step (by repeat (first | (with_reducible first | exact HB.out | apply below_alloc | apply pw_below_drewN | apply below_drew1) | exact HB.out)) hb)
                clear HB
                have HB := n0_
                clear n0_
                (try clear hb)
                (try clear hb2)
                (try clear hk)
                (try clear hi)
                refine hK.out _ _ ⟨((HB.out.cell (World.block_lt_of_cell? w _ hw667_0)).trans hw667_0), ((HB.out.cell (World.block_lt_of_cell? w _ hw667_1)).trans hw667_1), ((HB.out.cell (World.block_lt_of_cell? w _ hw667_2)).trans hw667_2), ((HB.out.cell (World.block_lt_of_cell? w _ hw667_3)).trans hw667_3), ((HB.out.cell (World.block_lt_of_cell? w _ hw667_4)).trans hw667_4), ((HB.out.cell (World.block_lt_of_cell? w _ hw667_5)).trans hw667_5), ((HB.out.cell (World.block_lt_of_cell? w _ hw668_0)).trans hw668_0), ((HB.out.cell (World.block_lt_of_cell? w _ hw668_1)).trans hw668_1), ((HB.out.cell (World.block_lt_of_cell? w _ hw668_2)).trans hw668_2), ((HB.out.cell (World.block_lt_of_cell? w _ hw668_3)).trans hw668_3), ((HB.out.cell (World.block_lt_of_cell? w _ hw668_4)).trans hw668_4), ((HB.out.cell (World.block_lt_of_cell? w _ hw668_5)).trans hw668_5)⟩ (fun hHeld => ?_)
                clear hK K
                refine norm_ (a' := ?_) ?_ ?_
                rotate_left
                · show Act.put _ (some 25) _ = _
                  simp only [Act.put, List.setIfInBounds_toArray, List.set_cons_zero, List.set_cons_succ, i64_w, i32_w]
                  rfl
                refine pure_ (i := 9) (N := some 26) (v := ?_) (a' := ?_) #[true, true, true, true, true, true, true, true, true, true] rfl rfl (any_of HT_.out (by kernel_rfl)) (fun _ _ _ h => h) (Or.inl ⟨by rfl, ?_⟩) ?_ ?_
                rotate_left
                · intro w'
                  go_simp
                  with_reducible rfl
                rotate_left
                · simp only [Act.put, List.setIfInBounds_toArray, List.set_cons_zero, List.set_cons_succ, i64_w, i32_w]
                  rfl
                refine done_ (done_of HT_.out (by kernel_rfl)) ?_
                try go_wp2
                go_ret
                exact ⟨by first | rfl | (simp [errW_none, errW_some] <;> rfl) | (simp [*, errW_none, errW_some] <;> rfl), by repeat (first | (with_reducible first | exact HB.out | apply below_alloc | apply pw_below_drewN | apply below_drew1) | exact HB.out)⟩
            · rw [if_neg c6] at H
              exact absurd H (by simp)
          · rw [if_neg c5] at H
            exact absurd H (by simp)
        · rw [if_neg c4] at H
          have c4b0 : decide (x5_1 < (l0.length : Int)) = false := decide_eq_false c4
          clear c4
          obtain rfl := Option.some.inj H
          go_wp2
          go_ret
          exact ⟨by first | rfl | (simp [errW_none, errW_some] <;> rfl) | (simp [*, errW_none, errW_some] <;> rfl), by repeat (first | (with_reducible first | exact HB.out | apply below_alloc | apply pw_below_drewN | apply below_drew1) | exact HB.out)⟩
  · rw [if_neg c3] at H
    have c3b0 : ((l0.length : Int) == (l1.length : Int)) = false := beq_eq_false_iff_ne.mpr c3
    have c3b1 : ((l0.length : Int) != (l1.length : Int)) = true := bne_iff_ne.mpr c3
    have c3b2 : (l0.length == l1.length) = false := by first | simpa using c3 | (simp at c3 ⊢; omega)
    obtain rfl := Option.some.inj H
    go_enter Try.func82, Try.ntmps82
    go_wp2
    go_ret
    exact ⟨by first | rfl | (simp [errW_none, errW_some] <;> rfl) | (simp [*, errW_none, errW_some] <;> rfl), by repeat (first | (with_reducible first | exact HB.out | apply below_alloc | apply pw_below_drewN | apply below_drew1) | exact HB.out)⟩

end Go.Proofs.Ytjkbafcepblacaa.X
namespace Go.Proofs.Ytjkbafcepblacaa.X
open Go.RowKit Go.Proofs.YtjkbafcepblacaaW.PrintWords Go.Proofs.YtjkbafcepblacaaW.PrintLast Go.Proofs.YtjkbafcepblacaaW.PrintMore
attribute [local go_sem] max2_int min2_int max_two min_two max_three min_three max_four min_four   -- for this text's walks alone
set_option linter.unusedVariables false
set_option linter.unusedSimpArgs false

/-! ### laws_eqFunc: function 44 -/
def laws_eqFunc.f (k : Nat) (l0_0 : List Int) (a0_1 : Int) (l0_2 : List (S88)) (l1_0 : List Int) (a1_1 : Int) (l1_2 : List (S88)) : Option (Bool) := (laws_eqInt64S.f k l0_0 l1_0).bind fun t672 => (if t672 = true then (if a0_1 = a1_1 then ((laws_eqBlockS.f k l0_2 l1_2).bind fun t673 => (if t673 = true then (some true) else (some false))) else (some false)) else (some false))
theorem laws_eqFunc.mono : ∀ a0 a1 a2 a3 a4 a5 k, LeO (laws_eqFunc.f k a0 a1 a2 a3 a4 a5) (laws_eqFunc.f (k + 1) a0 a1 a2 a3 a4 a5) := by
  intro a0 a1 a2 a3 a4 a5 k
  unfold laws_eqFunc.f
  repeat' first
      | (with_reducible exact laws_eqBlockS.mono _ _ _)
      | (with_reducible exact laws_eqInt64S.mono _ _ _)
      | (with_reducible exact LeO.refl _)
      | (with_reducible exact LeO.none _)
      | (with_reducible refine LeO.ite ?_ ?_)
      | (with_reducible refine LeO.bind ?_ (fun _ => ?_))
      | exact laws_eqBlockS.mono _ _ _
      | exact laws_eqInt64S.mono _ _ _
      | exact LeO.none _
      | refine LeO.ite ?_ ?_
      | refine LeO.bind ?_ (fun _ => ?_)
set_option maxHeartbeats 8000000 in
set_option maxRecDepth 100000 in
theorem laws_eqFunc.calls (k : Nat) (A0_0 : Option Addr) (c0_0 : Nat) (l0_0 : List Int) (a0_1 : Int) (A0_2 : Option Addr) (c0_2 : Nat) (l0_2 : List (S88)) (A1_0 : Option Addr) (c1_0 : Nat) (l1_0 : List Int) (a1_1 : Int) (A1_2 : Option Addr) (c1_2 : Nat) (l1_2 : List (S88)) (r : Bool) (w : World) (hr0_0 : Kd.C (Kd.int .i64) w A0_0 l0_0.length l0_0) (hc0_0 : l0_0.length ≤ c0_0) (hr0_2 : Kd.C k88 w A0_2 l0_2.length l0_2) (hc0_2 : l0_2.length ≤ c0_2) (hr1_0 : Kd.C (Kd.int .i64) w A1_0 l1_0.length l1_0) (hc1_0 : l1_0.length ≤ c1_0) (hr1_2 : Kd.C k88 w A1_2 l1_2.length l1_2) (hc1_2 : l1_2.length ≤ c1_2) (h : laws_eqFunc.f k l0_0 a0_1 l0_2 l1_0 a1_1 l1_2 = some r) :
    Calls Try.prog 44 #[.agg #[.slice A0_0 l0_0.length c0_0, .int .i64 a0_1, .slice A0_2 l0_2.length c0_2], .agg #[.slice A1_0 l1_0.length c1_0, .int .i64 a1_1, .slice A1_2 l1_2.length c1_2]] w fun e w' => e = .returned (.bool r) ∧ Below w.heap.size w w' := by
  have hu41 := Try.underlying41
  have HR0_0 := Aside0.mk hr0_0
  have HC0_0 := Aside0.mk hc0_0
  clear hr0_0 hc0_0
  have HR0_2 := Aside0.mk hr0_2
  have HC0_2 := Aside0.mk hc0_2
  clear hr0_2 hc0_2
  have HR1_0 := Aside0.mk hr1_0
  have HC1_0 := Aside0.mk hc1_0
  clear hr1_0 hc1_0
  have HR1_2 := Aside0.mk hr1_2
  have HC1_2 := Aside0.mk hc1_2
  clear hr1_2 hc1_2
  have HB := Aside0.mk (Below.refl w.heap.size w)
  have H : ((laws_eqInt64S.f k l0_0 l1_0).bind fun t672 => (if t672 = true then (if a0_1 = a1_1 then ((laws_eqBlockS.f k l0_2 l1_2).bind fun t673 => (if t673 = true then (some true) else (some false))) else (some false)) else (some false))) = some r := h
  clear h
  replace H := Option.bind_eq_some_iff.mp H
  obtain ⟨t672, A30, H⟩ := H
  replace H : (if t672 = true then (if a0_1 = a1_1 then ((laws_eqBlockS.f k l0_2 l1_2).bind fun t673 => (if t673 = true then (some true) else (some false))) else (some false)) else (some false)) = some r := H
  have A3 := Aside0.mk A30
  clear A30
  by_cases c4 : t672 = true
  · subst c4
    have H1 : (if a0_1 = a1_1 then ((laws_eqBlockS.f k l0_2 l1_2).bind fun t673 => (if t673 = true then (some true) else (some false))) else (some false)) = some r := by rw [if_pos rfl] at H; exact H
    clear H
    have H := H1
    clear H1
    by_cases c5 : a0_1 = a1_1
    · rw [if_pos c5] at H
      have c5b0 : (a0_1 == a1_1) = true := beq_iff_eq.mpr c5
      have c5b1 : (a0_1 != a1_1) = false := bne_eq_false_iff_eq.mpr c5
      clear c5
      replace H := Option.bind_eq_some_iff.mp H
      obtain ⟨t673, A60, H⟩ := H
      replace H : (if t673 = true then (some true) else (some false)) = some r := H
      have A6 := Aside0.mk A60
      clear A60
      by_cases c7 : t673 = true
      · subst c7
        have H1 : (some true) = some r := by rw [if_pos rfl] at H; exact H
        clear H
        have H := H1
        clear H1
        obtain rfl := Option.some.inj H
        go_enter Try.func44, Try.ntmps44
        go_wp2_with (first | ((with_reducible refine gate_dst (N := 2) rfl ?_); refine box_event ?hg (N := 2) ?hd (cs := #[.slice A0_0 l0_0.length c0_0, .int .i64 a0_1, .slice A0_2 l0_2.length c0_2]) (t := 41) ?hr ?_; (case hd => rfl); (case hg => rfl); (case hr => first | (go_simp; done) | (go_simp; rfl)); intro gb670 hg w8 hbox hb; have n0_ := Aside0.mk (below_step (by repeat (first | (with_reducible first | exact HB.out | apply below_alloc | apply pw_below_drewN | apply below_drew1) | exact HB.out)) hb); have n1_ := Aside0.mk (hbox); have n2_ := Aside0.mk ((by rw [hg]; exact (below_size (by repeat (first | (with_reducible first | exact HB.out | apply below_alloc | apply pw_below_drewN | apply below_drew1) | exact HB.out))) : w.heap.size ≤ gb670)); have n3_ := Aside0.mk ((by rw [hg]; exact (below_size (by repeat (first | (with_reducible first | exact HB.out | apply below_alloc | apply pw_below_drewN | apply below_drew1) | exact HB.out))) : w.heap.size ≤ gb670)); clear HB; have HB := n0_; have BK670 := n1_; have GW670 := n2_; have GE670 := n3_; clear n0_ n1_ n2_ n3_; clear hb hbox hg) | ((with_reducible refine gate_dst (N := 3) rfl ?_); refine box_event ?hg (N := 3) ?hd (cs := #[.slice A1_0 l1_0.length c1_0, .int .i64 a1_1, .slice A1_2 l1_2.length c1_2]) (t := 41) ?hr ?_; (case hd => rfl); (case hg => rfl); (case hr => first | (go_simp; done) | (go_simp; rfl)); intro gb671 hg w9 hbox hb; have n0_ := Aside0.mk (blk_below (g := gb670) (o := .cells #[.slice A0_0 l0_0.length c0_0, .int .i64 a0_1, .slice A0_2 l0_2.length c0_2] 41 (0, 0)) (by (with_reducible repeat (first | refine blk_drewN ?_ _ | refine blk_drew ?_ | refine blk_alloc ?_ _)); exact BK670.out) hb); have n1_ := Aside0.mk (below_step (by repeat (first | (with_reducible first | exact HB.out | apply below_alloc | apply pw_below_drewN | apply below_drew1 | refine below_set ?_ GE670.out) | exact HB.out)) hb); have n2_ := Aside0.mk (hbox); have n3_ := Aside0.mk ((by rw [hg]; exact (below_size (by repeat (first | (with_reducible first | exact HB.out | apply below_alloc | apply pw_below_drewN | apply below_drew1 | refine below_set ?_ GE670.out) | exact HB.out))) : w.heap.size ≤ gb671)); have n4_ := Aside0.mk ((by rw [hg]; exact (below_size (by repeat (first | (with_reducible first | exact HB.out | apply below_alloc | apply pw_below_drewN | apply below_drew1 | refine below_set ?_ GE670.out) | exact HB.out))) : w.heap.size ≤ gb671)); have n5_ := Aside0.mk ((by rw [hg]; exact Nat.ne_of_lt (blk_lt (g := gb670) (o := .cells #[.slice A0_0 l0_0.length c0_0, .int .i64 a0_1, .slice A0_2 l0_2.length c0_2] 41 (0, 0)) (by (with_reducible repeat (first | refine blk_drewN ?_ _ | refine blk_drew ?_ | refine blk_alloc ?_ _)); exact BK670.out)) : gb670 ≠ gb671)); have n6_ := Aside0.mk ((by rw [hg]; exact Nat.ne_of_gt (blk_lt (g := gb670) (o := .cells #[.slice A0_0 l0_0.length c0_0, .int .i64 a0_1, .slice A0_2 l0_2.length c0_2] 41 (0, 0)) (by (with_reducible repeat (first | refine blk_drewN ?_ _ | refine blk_drew ?_ | refine blk_alloc ?_ _)); exact BK670.out)) : gb671 ≠ gb670)); clear BK670; clear HB; have BK670 := n0_; have HB := n1_; have BK671 := n2_; have GW671 := n3_; have GE671 := n4_; have NB670_671 := n5_; have NB671_670 := n6_; clear n0_ n1_ n2_ n3_ n4_ n5_ n6_; clear hb hbox hg; have hnb10 := NB670_671.out; have hnc10 := NB671_670.out; have hcz11_0 : w9.cell? ⟨gb670, 0, none⟩ = some (.slice A0_0 l0_0.length c0_0) := (blk_cell BK670.out 0).trans rfl; have hcz11_1 : w9.cell? ⟨gb670, 1, none⟩ = some (.int .i64 a0_1) := (blk_cell BK670.out 1).trans rfl; have hcz11_2 : w9.cell? ⟨gb670, 2, none⟩ = some (.slice A0_2 l0_2.length c0_2) := (blk_cell BK670.out 2).trans rfl; have hfz11_0 := blk_frozen BK670.out 0; have hfz11_1 := blk_frozen BK670.out 1; have hfz11_2 := blk_frozen BK670.out 2; have hcz12_0 : w9.cell? ⟨gb671, 0, none⟩ = some (.slice A1_0 l1_0.length c1_0) := (blk_cell BK671.out 0).trans rfl; have hcz12_1 : w9.cell? ⟨gb671, 1, none⟩ = some (.int .i64 a1_1) := (blk_cell BK671.out 1).trans rfl; have hcz12_2 : w9.cell? ⟨gb671, 2, none⟩ = some (.slice A1_2 l1_2.length c1_2) := (blk_cell BK671.out 2).trans rfl; have hfz12_0 := blk_frozen BK671.out 0; have hfz12_1 := blk_frozen BK671.out 1; have hfz12_2 := blk_frozen BK671.out 2) | ((with_reducible refine gate_callee (f := 18) rfl ?_); refine goesL_ (some 9) rfl rfl Try.func18 (by kernel_rfl) rfl #[.slice A0_0 l0_0.length c0_0, .slice A1_0 l1_0.length c1_0] rfl (by (try simp only [List.map_toArray, List.map_cons, List.map_nil]); first | done | rfl | (simp only [List.length_drop, List.length_take]; rfl)) ?_; (with_reducible refine (laws_eqInt64S.calls k _ _ l0_0 _ _ l1_0 true _ ?side1 ?side2 ?side3 ?side4 A3.out).mono ?_); (case side1 => repeat (first | exact (Kd.C_below HR0_0.out HB.out) | (with_reducible refine Kd.C_alloc ?_ _) | (with_reducible refine Kd.C_drewN ?_ _) | (with_reducible refine Kd.C_drew ?_))); (case side2 => exact HC0_0.out); (case side3 => repeat (first | exact (Kd.C_below HR1_0.out HB.out) | (with_reducible refine Kd.C_alloc ?_ _) | (with_reducible refine Kd.C_drewN ?_ _) | (with_reducible refine Kd.C_drew ?_))); (case side4 => exact HC1_0.out); rintro e w' ⟨rfl, ⟨nd, rfl⟩⟩; refine ⟨_, rfl, ?_⟩) | ((with_reducible refine gate_callee (f := 82) rfl ?_); refine goesL_ (some 20) rfl rfl Try.func82 (by kernel_rfl) rfl #[.slice A0_2 l0_2.length c0_2, .slice A1_2 l1_2.length c1_2] rfl (by (try simp only [List.map_toArray, List.map_cons, List.map_nil]); first | done | rfl | (simp only [List.length_drop, List.length_take]; rfl)) ?_; (with_reducible refine (laws_eqBlockS.calls k _ _ l0_2 _ _ l1_2 true _ ?side1 ?side2 ?side3 ?side4 A6.out).mono ?_); (case side1 => repeat (first | exact (Kd.C_below HR0_2.out (by repeat (first | (with_reducible first | exact HB.out | apply below_alloc | apply pw_below_drewN | apply below_drew1 | refine below_set ?_ GE670.out | refine below_set ?_ GE671.out) | exact HB.out))) | (with_reducible refine Kd.C_alloc ?_ _) | (with_reducible refine Kd.C_drewN ?_ _) | (with_reducible refine Kd.C_drew ?_))); (case side2 => exact HC0_2.out); (case side3 => repeat (first | exact (Kd.C_below HR1_2.out (by repeat (first | (with_reducible first | exact HB.out | apply below_alloc | apply pw_below_drewN | apply below_drew1 | refine below_set ?_ GE670.out | refine below_set ?_ GE671.out) | exact HB.out))) | (with_reducible refine Kd.C_alloc ?_ _) | (with_reducible refine Kd.C_drewN ?_ _) | (with_reducible refine Kd.C_drew ?_))); (case side4 => exact HC1_2.out); rintro e w13 ⟨rfl, hb⟩; refine ⟨_, rfl, ?_⟩; have n0_ := Aside0.mk (blk_below (g := gb670) (o := .cells #[.slice A0_0 l0_0.length c0_0, .int .i64 a0_1, .slice A0_2 l0_2.length c0_2] 41 (0, 0)) (by (with_reducible repeat (first | refine blk_drewN ?_ _ | refine blk_drew ?_ | refine blk_alloc ?_ _)); exact BK670.out) hb); have n1_ := Aside0.mk (blk_below (g := gb671) (o := .cells #[.slice A1_0 l1_0.length c1_0, .int .i64 a1_1, .slice A1_2 l1_2.length c1_2] 41 (0, 0)) (by (with_reducible repeat (first | refine blk_drewN ?_ _ | refine blk_drew ?_ | refine blk_alloc ?_ _)); exact BK671.out) hb); have n2_ := Aside0.mk (below_step (by repeat (first | (with_reducible first | exact HB.out | apply below_alloc | apply pw_below_drewN | apply below_drew1 | refine below_set ?_ GE670.out | refine below_set ?_ GE671.out) | exact HB.out)) hb); clear BK670; clear BK671; clear HB; have BK670 := n0_; have BK671 := n1_; have HB := n2_; clear n0_ n1_ n2_; (try clear hb); (try clear hb2); (try clear hk); (try clear hi)))
        go_ret
        exact ⟨by first | rfl | (simp [errW_none, errW_some] <;> rfl) | (simp [*, errW_none, errW_some] <;> rfl), by repeat (first | (with_reducible first | exact HB.out | apply below_alloc | apply pw_below_drewN | apply below_drew1 | refine below_set ?_ GE670.out | refine below_set ?_ GE671.out) | exact HB.out)⟩
      · replace c7 := Bool.eq_false_iff.mpr c7
        subst c7
        have H1 : (some false) = some r := by rw [if_neg (show ¬ (false = true) by decide)] at H; exact H
        clear H
        have H := H1
        clear H1
        obtain rfl := Option.some.inj H
        go_enter Try.func44, Try.ntmps44
        go_wp2_with (first | ((with_reducible refine gate_dst (N := 2) rfl ?_); refine box_event ?hg (N := 2) ?hd (cs := #[.slice A0_0 l0_0.length c0_0, .int .i64 a0_1, .slice A0_2 l0_2.length c0_2]) (t := 41) ?hr ?_; (case hd => rfl); (case hg => rfl); (case hr => first | (go_simp; done) | (go_simp; rfl)); intro gb670 hg w14 hbox hb; have n0_ := Aside0.mk (below_step (by repeat (first | (with_reducible first | exact HB.out | apply below_alloc | apply pw_below_drewN | apply below_drew1) | exact HB.out)) hb); have n1_ := Aside0.mk (hbox); have n2_ := Aside0.mk ((by rw [hg]; exact (below_size (by repeat (first | (with_reducible first | exact HB.out | apply below_alloc | apply pw_below_drewN | apply below_drew1) | exact HB.out))) : w.heap.size ≤ gb670)); have n3_ := Aside0.mk ((by rw [hg]; exact (below_size (by repeat (first | (with_reducible first | exact HB.out | apply below_alloc | apply pw_below_drewN | apply below_drew1) | exact HB.out))) : w.heap.size ≤ gb670)); clear HB; have HB := n0_; have BK670 := n1_; have GW670 := n2_; have GE670 := n3_; clear n0_ n1_ n2_ n3_; clear hb hbox hg) | ((with_reducible refine gate_dst (N := 3) rfl ?_); refine box_event ?hg (N := 3) ?hd (cs := #[.slice A1_0 l1_0.length c1_0, .int .i64 a1_1, .slice A1_2 l1_2.length c1_2]) (t := 41) ?hr ?_; (case hd => rfl); (case hg => rfl); (case hr => first | (go_simp; done) | (go_simp; rfl)); intro gb671 hg w15 hbox hb; have n0_ := Aside0.mk (blk_below (g := gb670) (o := .cells #[.slice A0_0 l0_0.length c0_0, .int .i64 a0_1, .slice A0_2 l0_2.length c0_2] 41 (0, 0)) (by (with_reducible repeat (first | refine blk_drewN ?_ _ | refine blk_drew ?_ | refine blk_alloc ?_ _)); exact BK670.out) hb); have n1_ := Aside0.mk (below_step (by repeat (first | (with_reducible first | exact HB.out | apply below_alloc | apply pw_below_drewN | apply below_drew1 | refine below_set ?_ GE670.out) | exact HB.out)) hb); have n2_ := Aside0.mk (hbox); have n3_ := Aside0.mk ((by rw [hg]; exact (below_size (by repeat (first | (with_reducible first | exact HB.out | apply below_alloc | apply pw_below_drewN | apply below_drew1 | refine below_set ?_ GE670.out) | exact HB.out))) : w.heap.size ≤ gb671)); have n4_ := Aside0.mk ((by rw [hg]; exact (below_size (by repeat (first | (with_reducible first | exact HB.out | apply below_alloc | apply pw_below_drewN | apply below_drew1 | refine below_set ?_ GE670.out) | exact HB.out))) : w.heap.size ≤ gb671)); have n5_ := Aside0.mk ((by rw [hg]; exact Nat.ne_of_lt (blk_lt (g := gb670) (o := .cells #[.slice A0_0 l0_0.length c0_0, .int .i64 a0_1, .slice A0_2 l0_2.length c0_2] 41 (0, 0)) (by (with_reducible repeat (first | refine blk_drewN ?_ _ | refine blk_drew ?_ | refine blk_alloc ?_ _)); exact BK670.out)) : gb670 ≠ gb671)); have n6_ := Aside0.mk ((by rw [hg]; exact Nat.ne_of_gt (blk_lt (g := gb670) (o := .cells #[.slice A0_0 l0_0.length c0_0, .int .i64 a0_1, .slice A0_2 l0_2.length c0_2] 41 (0, 0)) (by (with_reducible repeat (first | refine blk_drewN ?_ _ | refine blk_drew ?_ | refine blk_alloc ?_ _)); exact BK670.out)) : gb671 ≠ gb670)); clear BK670; clear HB; have BK670 := n0_; have HB := n1_; have BK671 := n2_; have GW671 := n3_; have GE671 := n4_; have NB670_671 := n5_; have NB671_670 := n6_; clear n0_ n1_ n2_ n3_ n4_ n5_ n6_; clear hb hbox hg; have hnb16 := NB670_671.out; have hnc16 := NB671_670.out; have hcz17_0 : w15.cell? ⟨gb670, 0, none⟩ = some (.slice A0_0 l0_0.length c0_0) := (blk_cell BK670.out 0).trans rfl; have hcz17_1 : w15.cell? ⟨gb670, 1, none⟩ = some (.int .i64 a0_1) := (blk_cell BK670.out 1).trans rfl; have hcz17_2 : w15.cell? ⟨gb670, 2, none⟩ = some (.slice A0_2 l0_2.length c0_2) := (blk_cell BK670.out 2).trans rfl; have hfz17_0 := blk_frozen BK670.out 0; have hfz17_1 := blk_frozen BK670.out 1; have hfz17_2 := blk_frozen BK670.out 2; have hcz18_0 : w15.cell? ⟨gb671, 0, none⟩ = some (.slice A1_0 l1_0.length c1_0) := (blk_cell BK671.out 0).trans rfl; have hcz18_1 : w15.cell? ⟨gb671, 1, none⟩ = some (.int .i64 a1_1) := (blk_cell BK671.out 1).trans rfl; have hcz18_2 : w15.cell? ⟨gb671, 2, none⟩ = some (.slice A1_2 l1_2.length c1_2) := (blk_cell BK671.out 2).trans rfl; have hfz18_0 := blk_frozen BK671.out 0; have hfz18_1 := blk_frozen BK671.out 1; have hfz18_2 := blk_frozen BK671.out 2) | ((with_reducible refine gate_callee (f := 18) rfl ?_); refine goesL_ (some 9) rfl rfl Try.func18 (by kernel_rfl) rfl #[.slice A0_0 l0_0.length c0_0, .slice A1_0 l1_0.length c1_0] rfl (by (try simp only [List.map_toArray, List.map_cons, List.map_nil]); first | done | rfl | (simp only [List.length_drop, List.length_take]; rfl)) ?_; (with_reducible refine (laws_eqInt64S.calls k _ _ l0_0 _ _ l1_0 true _ ?side1 ?side2 ?side3 ?side4 A3.out).mono ?_); (case side1 => repeat (first | exact (Kd.C_below HR0_0.out HB.out) | (with_reducible refine Kd.C_alloc ?_ _) | (with_reducible refine Kd.C_drewN ?_ _) | (with_reducible refine Kd.C_drew ?_))); (case side2 => exact HC0_0.out); (case side3 => repeat (first | exact (Kd.C_below HR1_0.out HB.out) | (with_reducible refine Kd.C_alloc ?_ _) | (with_reducible refine Kd.C_drewN ?_ _) | (with_reducible refine Kd.C_drew ?_))); (case side4 => exact HC1_0.out); rintro e w' ⟨rfl, ⟨nd, rfl⟩⟩; refine ⟨_, rfl, ?_⟩) | ((with_reducible refine gate_callee (f := 82) rfl ?_); refine goesL_ (some 20) rfl rfl Try.func82 (by kernel_rfl) rfl #[.slice A0_2 l0_2.length c0_2, .slice A1_2 l1_2.length c1_2] rfl (by (try simp only [List.map_toArray, List.map_cons, List.map_nil]); first | done | rfl | (simp only [List.length_drop, List.length_take]; rfl)) ?_; (with_reducible refine (laws_eqBlockS.calls k _ _ l0_2 _ _ l1_2 false _ ?side1 ?side2 ?side3 ?side4 A6.out).mono ?_); (case side1 => repeat (first | exact (Kd.C_below HR0_2.out (by repeat (first | (with_reducible first | exact HB.out | apply below_alloc | apply pw_below_drewN | apply below_drew1 | refine below_set ?_ GE670.out | refine below_set ?_ GE671.out) | exact HB.out))) | (with_reducible refine Kd.C_alloc ?_ _) | (with_reducible refine Kd.C_drewN ?_ _) | (with_reducible refine Kd.C_drew ?_))); (case side2 => exact HC0_2.out); (case side3 => repeat (first | exact (Kd.C_below HR1_2.out (by repeat (first | (with_reducible first | exact HB.out | apply below_alloc | apply pw_below_drewN | apply below_drew1 | refine below_set ?_ GE670.out | refine below_set ?_ GE671.out) | exact HB.out))) | (with_reducible refine Kd.C_alloc ?_ _) | (with_reducible refine Kd.C_drewN ?_ _) | (with_reducible refine Kd.C_drew ?_))); (case side4 => exact HC1_2.out); rintro e w19 ⟨rfl, hb⟩; refine ⟨_, rfl, ?_⟩; have n0_ := Aside0.mk (blk_below (g := gb670) (o := .cells #[.slice A0_0 l0_0.length c0_0, .int .i64 a0_1, .slice A0_2 l0_2.length c0_2] 41 (0, 0)) (by (with_reducible repeat (first | refine blk_drewN ?_ _ | refine blk_drew ?_ | refine blk_alloc ?_ _)); exact BK670.out) hb); have n1_ := Aside0.mk (blk_below (g := gb671) (o := .cells #[.slice A1_0 l1_0.length c1_0, .int .i64 a1_1, .slice A1_2 l1_2.length c1_2] 41 (0, 0)) (by (with_reducible repeat (first | refine blk_drewN ?_ _ | refine blk_drew ?_ | refine blk_alloc ?_ _)); exact BK671.out) hb); have n2_ := Aside0.mk (below_step (by repeat (first | (with_reducible first | exact HB.out | apply below_alloc | apply pw_below_drewN | apply below_drew1 | refine below_set ?_ GE670.out | refine below_set ?_ GE671.out) | exact HB.out)) hb); clear BK670; clear BK671; clear HB; have BK670 := n0_; have BK671 := n1_; have HB := n2_; clear n0_ n1_ n2_; (try clear hb); (try clear hb2); (try clear hk); (try clear hi)))
        go_ret
        exact ⟨by first | rfl | (simp [errW_none, errW_some] <;> rfl) | (simp [*, errW_none, errW_some] <;> rfl), by repeat (first | (with_reducible first | exact HB.out | apply below_alloc | apply pw_below_drewN | apply below_drew1 | refine below_set ?_ GE670.out | refine below_set ?_ GE671.out) | exact HB.out)⟩
    · rw [if_neg c5] at H
      have c5b0 : (a0_1 == a1_1) = false := beq_eq_false_iff_ne.mpr c5
      have c5b1 : (a0_1 != a1_1) = true := bne_iff_ne.mpr c5
      obtain rfl := Option.some.inj H
      go_enter Try.func44, Try.ntmps44
      go_wp2_with (first | ((with_reducible refine gate_dst (N := 2) rfl ?_); refine box_event ?hg (N := 2) ?hd (cs := #[.slice A0_0 l0_0.length c0_0, .int .i64 a0_1, .slice A0_2 l0_2.length c0_2]) (t := 41) ?hr ?_; (case hd => rfl); (case hg => rfl); (case hr => first | (go_simp; done) | (go_simp; rfl)); intro gb670 hg w20 hbox hb; have n0_ := Aside0.mk (below_step (by repeat (first | (with_reducible first | exact HB.out | apply below_alloc | apply pw_below_drewN | apply below_drew1) | exact HB.out)) hb); have n1_ := Aside0.mk (hbox); have n2_ := Aside0.mk ((by rw [hg]; exact (below_size (by repeat (first | (with_reducible first | exact HB.out | apply below_alloc | apply pw_below_drewN | apply below_drew1) | exact HB.out))) : w.heap.size ≤ gb670)); have n3_ := Aside0.mk ((by rw [hg]; exact (below_size (by repeat (first | (with_reducible first | exact HB.out | apply below_alloc | apply pw_below_drewN | apply below_drew1) | exact HB.out))) : w.heap.size ≤ gb670)); clear HB; have HB := n0_; have BK670 := n1_; have GW670 := n2_; have GE670 := n3_; clear n0_ n1_ n2_ n3_; clear hb hbox hg) | ((with_reducible refine gate_dst (N := 3) rfl ?_); refine box_event ?hg (N := 3) ?hd (cs := #[.slice A1_0 l1_0.length c1_0, .int .i64 a1_1, .slice A1_2 l1_2.length c1_2]) (t := 41) ?hr ?_; (case hd => rfl); (case hg => rfl); (case hr => first | (go_simp; done) | (go_simp; rfl)); intro gb671 hg w21 hbox hb; have n0_ := Aside0.mk (blk_below (g := gb670) (o := .cells #[.slice A0_0 l0_0.length c0_0, .int .i64 a0_1, .slice A0_2 l0_2.length c0_2] 41 (0, 0)) (by (with_reducible repeat (first | refine blk_drewN ?_ _ | refine blk_drew ?_ | refine blk_alloc ?_ _)); exact BK670.out) hb); have n1_ := Aside0.mk (below_step (by repeat (first | (with_reducible first | exact HB.out | apply below_alloc | apply pw_below_drewN | apply below_drew1 | refine below_set ?_ GE670.out) | exact HB.out)) hb); have n2_ := Aside0.mk (hbox); have n3_ := Aside0.mk ((by rw [hg]; exact (below_size (by repeat (first | (with_reducible first | exact HB.out | apply below_alloc | apply pw_below_drewN | apply below_drew1 | refine below_set ?_ GE670.out) | exact HB.out))) : w.heap.size ≤ gb671)); have n4_ := Aside0.mk ((by rw [hg]; exact (below_size (by repeat (first | (with_reducible first | exact HB.out | apply below_alloc | apply pw_below_drewN | apply below_drew1 | refine below_set ?_ GE670.out) | exact HB.out))) : w.heap.size ≤ gb671)); have n5_ := Aside0.mk ((by rw [hg]; exact Nat.ne_of_lt (blk_lt (g := gb670) (o := .cells #[.slice A0_0 l0_0.length c0_0, .int .i64 a0_1, .slice A0_2 l0_2.length c0_2] 41 (0, 0)) (by (with_reducible repeat (first | refine blk_drewN ?_ _ | refine blk_drew ?_ | refine blk_alloc ?_ _)); exact BK670.out)) : gb670 ≠ gb671)); have n6_ := Aside0.mk ((by rw [hg]; exact Nat.ne_of_gt (blk_lt (g := gb670) (o := .cells #[.slice A0_0 l0_0.length c0_0, .int .i64 a0_1, .slice A0_2 l0_2.length c0_2] 41 (0, 0)) (by (with_reducible repeat (first | refine blk_drewN ?_ _ | refine blk_drew ?_ | refine blk_alloc ?_ _)); exact BK670.out)) : gb671 ≠ gb670)); clear BK670; clear HB; have BK670 := n0_; have HB := n1_; have BK671 := n2_; have GW671 := n3_; have GE671 := n4_; have NB670_671 := n5_; have NB671_670 := n6_; clear n0_ n1_ n2_ n3_ n4_ n5_ n6_; clear hb hbox hg; have hnb22 := NB670_671.out; have hnc22 := NB671_670.out; have hcz23_0 : w21.cell? ⟨gb670, 0, none⟩ = some (.slice A0_0 l0_0.length c0_0) := (blk_cell BK670.out 0).trans rfl; have hcz23_1 : w21.cell? ⟨gb670, 1, none⟩ = some (.int .i64 a0_1) := (blk_cell BK670.out 1).trans rfl; have hcz23_2 : w21.cell? ⟨gb670, 2, none⟩ = some (.slice A0_2 l0_2.length c0_2) := (blk_cell BK670.out 2).trans rfl; have hfz23_0 := blk_frozen BK670.out 0; have hfz23_1 := blk_frozen BK670.out 1; have hfz23_2 := blk_frozen BK670.out 2; have hcz24_0 : w21.cell? ⟨gb671, 0, none⟩ = some (.slice A1_0 l1_0.length c1_0) := (blk_cell BK671.out 0).trans rfl; have hcz24_1 : w21.cell? ⟨gb671, 1, none⟩ = some (.int .i64 a1_1) := (blk_cell BK671.out 1).trans rfl; have hcz24_2 : w21.cell? ⟨gb671, 2, none⟩ = some (.slice A1_2 l1_2.length c1_2) := (blk_cell BK671.out 2).trans rfl; have hfz24_0 := blk_frozen BK671.out 0; have hfz24_1 := blk_frozen BK671.out 1; have hfz24_2 := blk_frozen BK671.out 2) | ((with_reducible refine gate_callee (f := 18) rfl ?_); refine goesL_ (some 9) rfl rfl Try.func18 (by kernel_rfl) rfl #[.slice A0_0 l0_0.length c0_0, .slice A1_0 l1_0.length c1_0] rfl (by (try simp only [List.map_toArray, List.map_cons, List.map_nil]); first | done | rfl | (simp only [List.length_drop, List.length_take]; rfl)) ?_; (with_reducible refine (laws_eqInt64S.calls k _ _ l0_0 _ _ l1_0 true _ ?side1 ?side2 ?side3 ?side4 A3.out).mono ?_); (case side1 => repeat (first | exact (Kd.C_below HR0_0.out HB.out) | (with_reducible refine Kd.C_alloc ?_ _) | (with_reducible refine Kd.C_drewN ?_ _) | (with_reducible refine Kd.C_drew ?_))); (case side2 => exact HC0_0.out); (case side3 => repeat (first | exact (Kd.C_below HR1_0.out HB.out) | (with_reducible refine Kd.C_alloc ?_ _) | (with_reducible refine Kd.C_drewN ?_ _) | (with_reducible refine Kd.C_drew ?_))); (case side4 => exact HC1_0.out); rintro e w' ⟨rfl, ⟨nd, rfl⟩⟩; refine ⟨_, rfl, ?_⟩))
      go_ret
      exact ⟨by first | rfl | (simp [errW_none, errW_some] <;> rfl) | (simp [*, errW_none, errW_some] <;> rfl), by repeat (first | (with_reducible first | exact HB.out | apply below_alloc | apply pw_below_drewN | apply below_drew1 | refine below_set ?_ GE670.out | refine below_set ?_ GE671.out) | exact HB.out)⟩
  · replace c4 := Bool.eq_false_iff.mpr c4
    subst c4
    have H1 : (some false) = some r := by rw [if_neg (show ¬ (false = true) by decide)] at H; exact H
    clear H
    have H := H1
    clear H1
    obtain rfl := Option.some.inj H
    go_enter Try.func44, Try.ntmps44
    go_wp2_with (first | ((with_reducible refine gate_dst (N := 2) rfl ?_); refine box_event ?hg (N := 2) ?hd (cs := #[.slice A0_0 l0_0.length c0_0, .int .i64 a0_1, .slice A0_2 l0_2.length c0_2]) (t := 41) ?hr ?_; (case hd => rfl); (case hg => rfl); (case hr => first | (go_simp; done) | (go_simp; rfl)); intro gb670 hg w25 hbox hb; have n0_ := Aside0.mk (below_step (by repeat (first | (with_reducible first | exact HB.out | apply below_alloc | apply pw_below_drewN | apply below_drew1) | exact HB.out)) hb); have n1_ := Aside0.mk (hbox); have n2_ := Aside0.mk ((by rw [hg]; exact (below_size (by repeat (first | (with_reducible first | exact HB.out | apply below_alloc | apply pw_below_drewN | apply below_drew1) | exact HB.out))) : w.heap.size ≤ gb670)); have n3_ := Aside0.mk ((by rw [hg]; exact (below_size (by repeat (first | (with_reducible first | exact HB.out | apply below_alloc | apply pw_below_drewN | apply below_drew1) | exact HB.out))) : w.heap.size ≤ gb670)); clear HB; have HB := n0_; have BK670 := n1_; have GW670 := n2_; have GE670 := n3_; clear n0_ n1_ n2_ n3_; clear hb hbox hg) | ((with_reducible refine gate_dst (N := 3) rfl ?_); refine box_event ?hg (N := 3) ?hd (cs := #[.slice A1_0 l1_0.length c1_0, .int .i64 a1_1, .slice A1_2 l1_2.length c1_2]) (t := 41) ?hr ?_; (case hd => rfl); (case hg => rfl); (case hr => first | (go_simp; done) | (go_simp; rfl)); intro gb671 hg w26 hbox hb; have n0_ := Aside0.mk (blk_below (g := gb670) (o := .cells #[.slice A0_0 l0_0.length c0_0, .int .i64 a0_1, .slice A0_2 l0_2.length c0_2] 41 (0, 0)) (by (with_reducible repeat (first | refine blk_drewN ?_ _ | refine blk_drew ?_ | refine blk_alloc ?_ _)); exact BK670.out) hb); have n1_ := Aside0.mk (below_step (by repeat (first | (with_reducible first | exact HB.out | apply below_alloc | apply pw_below_drewN | apply below_drew1 | refine below_set ?_ GE670.out) | exact HB.out)) hb); have n2_ := Aside0.mk (hbox); have n3_ := Aside0.mk ((by rw [hg]; exact (below_size (by repeat (first | (with_reducible first | exact HB.out | apply below_alloc | apply pw_below_drewN | apply below_drew1 | refine below_set ?_ GE670.out) | exact HB.out))) : w.heap.size ≤ gb671)); have n4_ := Aside0.mk ((by rw [hg]; exact (below_size (by repeat (first | (with_reducible first | exact HB.out | apply below_alloc | apply pw_below_drewN | apply below_drew1 | refine below_set ?_ GE670.out) | exact HB.out))) : w.heap.size ≤ gb671)); have n5_ := Aside0.mk ((by rw [hg]; exact Nat.ne_of_lt (blk_lt (g := gb670) (o := .cells #[.slice A0_0 l0_0.length c0_0, .int .i64 a0_1, .slice A0_2 l0_2.length c0_2] 41 (0, 0)) (by (with_reducible repeat (first | refine blk_drewN ?_ _ | refine blk_drew ?_ | refine blk_alloc ?_ _)); exact BK670.out)) : gb670 ≠ gb671)); have n6_ := Aside0.mk ((by rw [hg]; exact Nat.ne_of_gt (blk_lt (g := gb670) (o := .cells #[.slice A0_0 l0_0.length c0_0, .int .i64 a0_1, .slice A0_2 l0_2.length c0_2] 41 (0, 0)) (by (with_reducible repeat (first | refine blk_drewN ?_ _ | refine blk_drew ?_ | refine blk_alloc ?_ _)); exact BK670.out)) : gb671 ≠ gb670)); clear BK670; clear HB; have BK670 := n0_; have HB := n1_; have BK671 := n2_; have GW671 := n3_; have GE671 := n4_; have NB670_671 := n5_; have NB671_670 := n6_; clear n0_ n1_ n2_ n3_ n4_ n5_ n6_; clear hb hbox hg; have hnb27 := NB670_671.out; have hnc27 := NB671_670.out; have hcz28_0 : w26.cell? ⟨gb670, 0, none⟩ = some (.slice A0_0 l0_0.length c0_0) := (blk_cell BK670.out 0).trans rfl; have hcz28_1 : w26.cell? ⟨gb670, 1, none⟩ = some (.int .i64 a0_1) := (blk_cell BK670.out 1).trans rfl; have hcz28_2 : w26.cell? ⟨gb670, 2, none⟩ = some (.slice A0_2 l0_2.length c0_2) := (blk_cell BK670.out 2).trans rfl; have hfz28_0 := blk_frozen BK670.out 0; have hfz28_1 := blk_frozen BK670.out 1; have hfz28_2 := blk_frozen BK670.out 2; have hcz29_0 : w26.cell? ⟨gb671, 0, none⟩ = some (.slice A1_0 l1_0.length c1_0) := (blk_cell BK671.out 0).trans rfl; have hcz29_1 : w26.cell? ⟨gb671, 1, none⟩ = some (.int .i64 a1_1) := (blk_cell BK671.out 1).trans rfl; have hcz29_2 : w26.cell? ⟨gb671, 2, none⟩ = some (.slice A1_2 l1_2.length c1_2) := (blk_cell BK671.out 2).trans rfl; have hfz29_0 := blk_frozen BK671.out 0; have hfz29_1 := blk_frozen BK671.out 1; have hfz29_2 := blk_frozen BK671.out 2) | ((with_reducible refine gate_callee (f := 18) rfl ?_); refine goesL_ (some 9) rfl rfl Try.func18 (by kernel_rfl) rfl #[.slice A0_0 l0_0.length c0_0, .slice A1_0 l1_0.length c1_0] rfl (by (try simp only [List.map_toArray, List.map_cons, List.map_nil]); first | done | rfl | (simp only [List.length_drop, List.length_take]; rfl)) ?_; (with_reducible refine (laws_eqInt64S.calls k _ _ l0_0 _ _ l1_0 false _ ?side1 ?side2 ?side3 ?side4 A3.out).mono ?_); (case side1 => repeat (first | exact (Kd.C_below HR0_0.out HB.out) | (with_reducible refine Kd.C_alloc ?_ _) | (with_reducible refine Kd.C_drewN ?_ _) | (with_reducible refine Kd.C_drew ?_))); (case side2 => exact HC0_0.out); (case side3 => repeat (first | exact (Kd.C_below HR1_0.out HB.out) | (with_reducible refine Kd.C_alloc ?_ _) | (with_reducible refine Kd.C_drewN ?_ _) | (with_reducible refine Kd.C_drew ?_))); (case side4 => exact HC1_0.out); rintro e w' ⟨rfl, ⟨nd, rfl⟩⟩; refine ⟨_, rfl, ?_⟩))
    go_ret
    exact ⟨by first | rfl | (simp [errW_none, errW_some] <;> rfl) | (simp [*, errW_none, errW_some] <;> rfl), by repeat (first | (with_reducible first | exact HB.out | apply below_alloc | apply pw_below_drewN | apply below_drew1 | refine below_set ?_ GE670.out | refine below_set ?_ GE671.out) | exact HB.out)⟩

end Go.Proofs.Ytjkbafcepblacaa.X
namespace Go.Proofs.Ytjkbafcepblacaa.X
open Go.RowKit Go.Proofs.YtjkbafcepblacaaW.PrintWords Go.Proofs.YtjkbafcepblacaaW.PrintLast Go.Proofs.YtjkbafcepblacaaW.PrintMore
attribute [local go_sem] max2_int min2_int max_two min_two max_three min_three max_four min_four   -- for this text's walks alone
set_option linter.unusedVariables false
set_option linter.unusedSimpArgs false

/-! ### laws_FnExactCountOf: function 8 -/
def laws_FnExactCountOf.f (k : Nat) (l0_0 : List Int) (a0_1 : Int) (l0_2 : List (S113)) : Option (Bool) := (laws_szFunc.f k l0_0 a0_1 l0_2 1048576).bind fun t675 => (if t675 < 0 then (some true) else ((laws_toFunc.f k l0_0 a0_1 l0_2).bind fun bt676 => ((spec_CountOf.f k bt676.1 bt676.2.1 bt676.2.2).bind fun t683 => ((laws_toFunc.f k l0_0 a0_1 l0_2).bind fun bt684 => ((impl_CountOf.f k bt684.1 bt684.2.1 bt684.2.2).bind fun t692 => (if t692 = t683 then ((laws_toFunc.f k l0_0 a0_1 l0_2).bind fun bt693 => ((laws_eqFunc.f k bt684.1 bt684.2.1 bt684.2.2 bt693.1 bt693.2.1 bt693.2.2).bind fun t700 => (if t700 = true then (some true) else (some false)))) else (some false)))))))
theorem laws_FnExactCountOf.mono : ∀ a0 a1 a2 k, LeO (laws_FnExactCountOf.f k a0 a1 a2) (laws_FnExactCountOf.f (k + 1) a0 a1 a2) := by
  intro a0 a1 a2 k
  unfold laws_FnExactCountOf.f
  repeat' first
      | (with_reducible exact impl_CountOf.mono _ _ _ _)
      | (with_reducible exact laws_eqFunc.mono _ _ _ _ _ _ _)
      | (with_reducible exact laws_szFunc.mono _ _ _ _ _)
      | (with_reducible exact laws_toFunc.mono _ _ _ _)
      | (with_reducible exact spec_CountOf.mono _ _ _ _)
      | (with_reducible exact LeO.refl _)
      | (with_reducible exact LeO.none _)
      | (with_reducible refine LeO.ite ?_ ?_)
      | (with_reducible refine LeO.bind ?_ (fun _ => ?_))
      | exact impl_CountOf.mono _ _ _ _
      | exact laws_eqFunc.mono _ _ _ _ _ _ _
      | exact laws_szFunc.mono _ _ _ _ _
      | exact laws_toFunc.mono _ _ _ _
      | exact spec_CountOf.mono _ _ _ _
      | exact LeO.none _
      | refine LeO.ite ?_ ?_
      | refine LeO.bind ?_ (fun _ => ?_)
set_option maxHeartbeats 8000000 in
set_option maxRecDepth 100000 in
theorem laws_FnExactCountOf.calls (k : Nat) (A0_0 : Option Addr) (c0_0 : Nat) (l0_0 : List Int) (a0_1 : Int) (A0_2 : Option Addr) (c0_2 : Nat) (l0_2 : List (S113)) (r : Bool) (w : World) (hr0_0 : Kd.C (Kd.int .i64) w A0_0 l0_0.length l0_0) (hc0_0 : l0_0.length ≤ c0_0) (hr0_2 : Kd.C k113 w A0_2 l0_2.length l0_2) (hc0_2 : l0_2.length ≤ c0_2) (h : laws_FnExactCountOf.f k l0_0 a0_1 l0_2 = some r) :
    Calls Try.prog 8 #[.agg #[.slice A0_0 l0_0.length c0_0, .int .i64 a0_1, .slice A0_2 l0_2.length c0_2]] w fun e w' => e = .returned (.bool r) ∧ Below w.heap.size w w' := by
  have hu54 := Try.underlying54
  have hu41 := Try.underlying41
  have HR0_0 := Aside0.mk hr0_0
  have HC0_0 := Aside0.mk hc0_0
  clear hr0_0 hc0_0
  have HR0_2 := Aside0.mk hr0_2
  have HC0_2 := Aside0.mk hc0_2
  clear hr0_2 hc0_2
  have HB := Aside0.mk (Below.refl w.heap.size w)
  have H : ((laws_szFunc.f k l0_0 a0_1 l0_2 1048576).bind fun t675 => (if t675 < 0 then (some true) else ((laws_toFunc.f k l0_0 a0_1 l0_2).bind fun bt676 => ((spec_CountOf.f k bt676.1 bt676.2.1 bt676.2.2).bind fun t683 => ((laws_toFunc.f k l0_0 a0_1 l0_2).bind fun bt684 => ((impl_CountOf.f k bt684.1 bt684.2.1 bt684.2.2).bind fun t692 => (if t692 = t683 then ((laws_toFunc.f k l0_0 a0_1 l0_2).bind fun bt693 => ((laws_eqFunc.f k bt684.1 bt684.2.1 bt684.2.2 bt693.1 bt693.2.1 bt693.2.2).bind fun t700 => (if t700 = true then (some true) else (some false)))) else (some false)))))))) = some r := h
  clear h
  replace H := Option.bind_eq_some_iff.mp H
  obtain ⟨t675, A20, H⟩ := H
  replace H : (if t675 < 0 then (some true) else ((laws_toFunc.f k l0_0 a0_1 l0_2).bind fun bt676 => ((spec_CountOf.f k bt676.1 bt676.2.1 bt676.2.2).bind fun t683 => ((laws_toFunc.f k l0_0 a0_1 l0_2).bind fun bt684 => ((impl_CountOf.f k bt684.1 bt684.2.1 bt684.2.2).bind fun t692 => (if t692 = t683 then ((laws_toFunc.f k l0_0 a0_1 l0_2).bind fun bt693 => ((laws_eqFunc.f k bt684.1 bt684.2.1 bt684.2.2 bt693.1 bt693.2.1 bt693.2.2).bind fun t700 => (if t700 = true then (some true) else (some false)))) else (some false))))))) = some r := H
  have A2 := Aside0.mk A20
  clear A20
  by_cases c3 : t675 < 0
  · rw [if_pos c3] at H
    have c3b0 : decide (t675 < 0) = true := decide_eq_true c3
    clear c3
    obtain rfl := Option.some.inj H
    go_enter Try.func8, Try.ntmps8
    go_wp2_with (first | ((with_reducible refine gate_dst (N := 1) rfl ?_); refine box_event ?hg (N := 1) ?hd (cs := #[.slice A0_0 l0_0.length c0_0, .int .i64 a0_1, .slice A0_2 l0_2.length c0_2]) (t := 54) ?hr ?_; (case hd => rfl); (case hg => rfl); (case hr => first | (go_simp; done) | (go_simp; rfl)); intro gb674 hg w4 hbox hb; have n0_ := Aside0.mk (below_step (by repeat (first | (with_reducible first | exact HB.out | apply below_alloc | apply pw_below_drewN | apply below_drew1) | exact HB.out)) hb); have n1_ := Aside0.mk (hbox); have n2_ := Aside0.mk ((by rw [hg]; exact (below_size (by repeat (first | (with_reducible first | exact HB.out | apply below_alloc | apply pw_below_drewN | apply below_drew1) | exact HB.out))) : w.heap.size ≤ gb674)); have n3_ := Aside0.mk ((by rw [hg]; exact (below_size (by repeat (first | (with_reducible first | exact HB.out | apply below_alloc | apply pw_below_drewN | apply below_drew1) | exact HB.out))) : w.heap.size ≤ gb674)); clear HB; have HB := n0_; have BK674 := n1_; have GW674 := n2_; have GE674 := n3_; clear n0_ n1_ n2_ n3_; clear hb hbox hg; have hcz5_0 : w4.cell? ⟨gb674, 0, none⟩ = some (.slice A0_0 l0_0.length c0_0) := (blk_cell BK674.out 0).trans rfl; have hcz5_1 : w4.cell? ⟨gb674, 1, none⟩ = some (.int .i64 a0_1) := (blk_cell BK674.out 1).trans rfl; have hcz5_2 : w4.cell? ⟨gb674, 2, none⟩ = some (.slice A0_2 l0_2.length c0_2) := (blk_cell BK674.out 2).trans rfl; have hfz5_0 := blk_frozen BK674.out 0; have hfz5_1 := blk_frozen BK674.out 1; have hfz5_2 := blk_frozen BK674.out 2) | ((with_reducible refine gate_callee (f := 40) rfl ?_); refine goesL_ (some 9) rfl rfl Try.func40 (by kernel_rfl) rfl #[.agg #[.slice A0_0 l0_0.length c0_0, .int .i64 a0_1, .slice A0_2 l0_2.length c0_2], .int .i64 1048576] rfl (by (try simp only [List.map_toArray, List.map_cons, List.map_nil]); first | done | rfl | (simp only [List.length_drop, List.length_take]; rfl)) ?_; (with_reducible refine (laws_szFunc.calls k _ _ l0_0 a0_1 _ _ l0_2 1048576 t675 _ ?side1 ?side2 ?side3 ?side4 A2.out).mono ?_); (case side1 => repeat (first | exact (Kd.C_below HR0_0.out HB.out) | (with_reducible refine Kd.C_alloc ?_ _) | (with_reducible refine Kd.C_drewN ?_ _) | (with_reducible refine Kd.C_drew ?_))); (case side2 => exact HC0_0.out); (case side3 => repeat (first | exact (Kd.C_below HR0_2.out HB.out) | (with_reducible refine Kd.C_alloc ?_ _) | (with_reducible refine Kd.C_drewN ?_ _) | (with_reducible refine Kd.C_drew ?_))); (case side4 => exact HC0_2.out); rintro e w6 ⟨rfl, hb⟩; refine ⟨_, rfl, ?_⟩; have n0_ := Aside0.mk (blk_below (g := gb674) (o := .cells #[.slice A0_0 l0_0.length c0_0, .int .i64 a0_1, .slice A0_2 l0_2.length c0_2] 54 (0, 0)) (by (with_reducible repeat (first | refine blk_drewN ?_ _ | refine blk_drew ?_ | refine blk_alloc ?_ _)); exact BK674.out) hb); have n1_ := Aside0.mk (below_step (by repeat (first | (with_reducible first | exact HB.out | apply below_alloc | apply pw_below_drewN | apply below_drew1 | refine below_set ?_ GE674.out) | exact HB.out)) hb); clear BK674; clear HB; have BK674 := n0_; have HB := n1_; clear n0_ n1_; (try clear hb); (try clear hb2); (try clear hk); (try clear hi)))
    go_ret
    exact ⟨by first | rfl | (simp [errW_none, errW_some] <;> rfl) | (simp [*, errW_none, errW_some] <;> rfl), by repeat (first | (with_reducible first | exact HB.out | apply below_alloc | apply pw_below_drewN | apply below_drew1 | refine below_set ?_ GE674.out) | exact HB.out)⟩
  · rw [if_neg c3] at H
    have c3b0 : decide (t675 < 0) = false := decide_eq_false c3
    clear c3
    replace H := Option.bind_eq_some_iff.mp H
    obtain ⟨⟨t676, t679, t680⟩, A70, H⟩ := H
    replace H : ((spec_CountOf.f k t676 t679 t680).bind fun t683 => ((laws_toFunc.f k l0_0 a0_1 l0_2).bind fun bt684 => ((impl_CountOf.f k bt684.1 bt684.2.1 bt684.2.2).bind fun t692 => (if t692 = t683 then ((laws_toFunc.f k l0_0 a0_1 l0_2).bind fun bt693 => ((laws_eqFunc.f k bt684.1 bt684.2.1 bt684.2.2 bt693.1 bt693.2.1 bt693.2.2).bind fun t700 => (if t700 = true then (some true) else (some false)))) else (some false))))) = some r := H
    have A7 := Aside0.mk A70
    clear A70
    replace H := Option.bind_eq_some_iff.mp H
    obtain ⟨t683, A80, H⟩ := H
    replace H : ((laws_toFunc.f k l0_0 a0_1 l0_2).bind fun bt684 => ((impl_CountOf.f k bt684.1 bt684.2.1 bt684.2.2).bind fun t692 => (if t692 = t683 then ((laws_toFunc.f k l0_0 a0_1 l0_2).bind fun bt693 => ((laws_eqFunc.f k bt684.1 bt684.2.1 bt684.2.2 bt693.1 bt693.2.1 bt693.2.2).bind fun t700 => (if t700 = true then (some true) else (some false)))) else (some false)))) = some r := H
    have A8 := Aside0.mk A80
    clear A80
    replace H := Option.bind_eq_some_iff.mp H
    obtain ⟨⟨t684, t687, t688⟩, A90, H⟩ := H
    replace H : ((impl_CountOf.f k t684 t687 t688).bind fun t692 => (if t692 = t683 then ((laws_toFunc.f k l0_0 a0_1 l0_2).bind fun bt693 => ((laws_eqFunc.f k t684 t687 t688 bt693.1 bt693.2.1 bt693.2.2).bind fun t700 => (if t700 = true then (some true) else (some false)))) else (some false))) = some r := H
    have A9 := Aside0.mk A90
    clear A90
    replace H := Option.bind_eq_some_iff.mp H
    obtain ⟨t692, A100, H⟩ := H
    replace H : (if t692 = t683 then ((laws_toFunc.f k l0_0 a0_1 l0_2).bind fun bt693 => ((laws_eqFunc.f k t684 t687 t688 bt693.1 bt693.2.1 bt693.2.2).bind fun t700 => (if t700 = true then (some true) else (some false)))) else (some false)) = some r := H
    have A10 := Aside0.mk A100
    clear A100
    by_cases c11 : t692 = t683
    · rw [if_pos c11] at H
      have c11b0 : (t692 == t683) = true := beq_iff_eq.mpr c11
      have c11b1 : (t692 != t683) = false := bne_eq_false_iff_eq.mpr c11
      clear c11
      replace H := Option.bind_eq_some_iff.mp H
      obtain ⟨⟨t693, t696, t697⟩, A120, H⟩ := H
      replace H : ((laws_eqFunc.f k t684 t687 t688 t693 t696 t697).bind fun t700 => (if t700 = true then (some true) else (some false))) = some r := H
      have A12 := Aside0.mk A120
      clear A120
      replace H := Option.bind_eq_some_iff.mp H
      obtain ⟨t700, A130, H⟩ := H
      replace H : (if t700 = true then (some true) else (some false)) = some r := H
      have A13 := Aside0.mk A130
      clear A130
      by_cases c14 : t700 = true
      · subst c14
        have H1 : (some true) = some r := by rw [if_pos rfl] at H; exact H
        clear H
        have H := H1
        clear H1
        obtain rfl := Option.some.inj H
        go_enter Try.func8, Try.ntmps8
        try go_wp2_with (first | ((with_reducible refine gate_dst (N := 1) rfl ?_); refine box_event ?hg (N := 1) ?hd (cs := #[.slice A0_0 l0_0.length c0_0, .int .i64 a0_1, .slice A0_2 l0_2.length c0_2]) (t := 54) ?hr ?_; (case hd => rfl); (case hg => rfl); (case hr => first | (go_simp; done) | (go_simp; rfl)); intro gb674 hg w15 hbox hb; have n0_ := Aside0.mk (below_step (by repeat (first | (with_reducible first | exact HB.out | apply below_alloc | apply pw_below_drewN | apply below_drew1) | exact HB.out)) hb); have n1_ := Aside0.mk (hbox); have n2_ := Aside0.mk ((by rw [hg]; exact (below_size (by repeat (first | (with_reducible first | exact HB.out | apply below_alloc | apply pw_below_drewN | apply below_drew1) | exact HB.out))) : w.heap.size ≤ gb674)); have n3_ := Aside0.mk ((by rw [hg]; exact (below_size (by repeat (first | (with_reducible first | exact HB.out | apply below_alloc | apply pw_below_drewN | apply below_drew1) | exact HB.out))) : w.heap.size ≤ gb674)); clear HB; have HB := n0_; have BK674 := n1_; have GW674 := n2_; have GE674 := n3_; clear n0_ n1_ n2_ n3_; clear hb hbox hg; have hcz16_0 : w15.cell? ⟨gb674, 0, none⟩ = some (.slice A0_0 l0_0.length c0_0) := (blk_cell BK674.out 0).trans rfl; have hcz16_1 : w15.cell? ⟨gb674, 1, none⟩ = some (.int .i64 a0_1) := (blk_cell BK674.out 1).trans rfl; have hcz16_2 : w15.cell? ⟨gb674, 2, none⟩ = some (.slice A0_2 l0_2.length c0_2) := (blk_cell BK674.out 2).trans rfl; have hfz16_0 := blk_frozen BK674.out 0; have hfz16_1 := blk_frozen BK674.out 1; have hfz16_2 := blk_frozen BK674.out 2) | ((with_reducible refine gate_callee (f := 40) rfl ?_); refine goesL_ (some 9) rfl rfl Try.func40 (by kernel_rfl) rfl #[.agg #[.slice A0_0 l0_0.length c0_0, .int .i64 a0_1, .slice A0_2 l0_2.length c0_2], .int .i64 1048576] rfl (by (try simp only [List.map_toArray, List.map_cons, List.map_nil]); first | done | rfl | (simp only [List.length_drop, List.length_take]; rfl)) ?_; (with_reducible refine (laws_szFunc.calls k _ _ l0_0 a0_1 _ _ l0_2 1048576 t675 _ ?side1 ?side2 ?side3 ?side4 A2.out).mono ?_); (case side1 => repeat (first | exact (Kd.C_below HR0_0.out HB.out) | (with_reducible refine Kd.C_alloc ?_ _) | (with_reducible refine Kd.C_drewN ?_ _) | (with_reducible refine Kd.C_drew ?_))); (case side2 => exact HC0_0.out); (case side3 => repeat (first | exact (Kd.C_below HR0_2.out HB.out) | (with_reducible refine Kd.C_alloc ?_ _) | (with_reducible refine Kd.C_drewN ?_ _) | (with_reducible refine Kd.C_drew ?_))); (case side4 => exact HC0_2.out); rintro e w17 ⟨rfl, hb⟩; refine ⟨_, rfl, ?_⟩; have n0_ := Aside0.mk (blk_below (g := gb674) (o := .cells #[.slice A0_0 l0_0.length c0_0, .int .i64 a0_1, .slice A0_2 l0_2.length c0_2] 54 (0, 0)) (by (with_reducible repeat (first | refine blk_drewN ?_ _ | refine blk_drew ?_ | refine blk_alloc ?_ _)); exact BK674.out) hb); have n1_ := Aside0.mk (below_step (by repeat (first | (with_reducible first | exact HB.out | apply below_alloc | apply pw_below_drewN | apply below_drew1 | refine below_set ?_ GE674.out) | exact HB.out)) hb); clear BK674; clear HB; have BK674 := n0_; have HB := n1_; clear n0_ n1_; (try clear hb); (try clear hb2); (try clear hk); (try clear hi); have hcz18_0 : w17.cell? ⟨gb674, 0, none⟩ = some (.slice A0_0 l0_0.length c0_0) := (blk_cell BK674.out 0).trans rfl; have hcz18_1 : w17.cell? ⟨gb674, 1, none⟩ = some (.int .i64 a0_1) := (blk_cell BK674.out 1).trans rfl; have hcz18_2 : w17.cell? ⟨gb674, 2, none⟩ = some (.slice A0_2 l0_2.length c0_2) := (blk_cell BK674.out 2).trans rfl; have hfz18_0 := blk_frozen BK674.out 0; have hfz18_1 := blk_frozen BK674.out 1; have hfz18_2 := blk_frozen BK674.out 2) | ((with_reducible refine gate_callee (f := 42) rfl ?_); refine goesL_ (some 13) rfl rfl Try.func42 (by kernel_rfl) rfl #[.agg #[.slice A0_0 l0_0.length c0_0, .int .i64 a0_1, .slice A0_2 l0_2.length c0_2]] rfl (by (try simp only [List.map_toArray, List.map_cons, List.map_nil]); first | done | rfl | (simp only [List.length_drop, List.length_take]; rfl)) ?_; (with_reducible refine (laws_toFunc.calls k _ _ l0_0 a0_1 _ _ l0_2 t676 t679 t680 _ ?side1 ?side2 ?side3 ?side4 A7.out).mono ?_); (case side1 => repeat (first | exact (Kd.C_below HR0_0.out HB.out) | (with_reducible refine Kd.C_alloc ?_ _) | (with_reducible refine Kd.C_drewN ?_ _) | (with_reducible refine Kd.C_drew ?_))); (case side2 => exact HC0_0.out); (case side3 => repeat (first | exact (Kd.C_below HR0_2.out HB.out) | (with_reducible refine Kd.C_alloc ?_ _) | (with_reducible refine Kd.C_drewN ?_ _) | (with_reducible refine Kd.C_drew ?_))); (case side4 => exact HC0_2.out); rintro e w19 ⟨v677, v681, rfl, ho0, ho1, hb⟩; refine ⟨_, rfl, ?_⟩; have n0_ := Aside0.mk (Kd.R_lower ho0 (below_size (by repeat (first | (with_reducible first | exact HB.out | apply below_alloc | apply pw_below_drewN | apply below_drew1 | refine below_set ?_ GE674.out) | exact HB.out)))); have n1_ := Aside0.mk (Kd.R_lower ho1 (below_size (by repeat (first | (with_reducible first | exact HB.out | apply below_alloc | apply pw_below_drewN | apply below_drew1 | refine below_set ?_ GE674.out) | exact HB.out)))); have n2_ := Aside0.mk (blk_below (g := gb674) (o := .cells #[.slice A0_0 l0_0.length c0_0, .int .i64 a0_1, .slice A0_2 l0_2.length c0_2] 54 (0, 0)) (by (with_reducible repeat (first | refine blk_drewN ?_ _ | refine blk_drew ?_ | refine blk_alloc ?_ _)); exact BK674.out) hb); have n3_ := Aside0.mk (below_step (by repeat (first | (with_reducible first | exact HB.out | apply below_alloc | apply pw_below_drewN | apply below_drew1 | refine below_set ?_ GE674.out) | exact HB.out)) hb); clear BK674; clear HB; have HO678 := n0_; have HO682 := n1_; have BK674 := n2_; have HB := n3_; clear n0_ n1_ n2_ n3_; (try clear hb); (try clear hb2); (try clear hk); (try clear hi); (try clear ho0); (try clear ho1); obtain ⟨Ao20, co20, eo20⟩ := Kd.R_slice HO678.out; subst eo20; obtain ⟨Ao21, co21, eo21⟩ := Kd.R_slice HO682.out; subst eo21) | ((with_reducible refine gate_callee (f := 41) rfl ?_); refine goesL_ (some 14) rfl rfl Try.func41 (by kernel_rfl) rfl #[.agg #[.slice Ao20 t676.length co20, .int .i64 t679, .slice Ao21 t680.length co21]] rfl (by (try simp only [List.map_toArray, List.map_cons, List.map_nil]); first | done | rfl | (simp only [List.length_drop, List.length_take]; rfl)) ?_; (with_reducible refine (spec_CountOf.calls k _ _ t676 t679 _ _ t680 t683 _ ?side1 ?side2 ?side3 ?side4 A8.out).mono ?_); (case side1 => repeat (first | exact (Kd.R_reads' HO678.out).2.2 | (with_reducible refine Kd.C_alloc ?_ _) | (with_reducible refine Kd.C_drewN ?_ _) | (with_reducible refine Kd.C_drew ?_))); (case side2 => exact (Kd.R_reads' HO678.out).2.1); (case side3 => repeat (first | exact (Kd.R_reads' HO682.out).2.2 | (with_reducible refine Kd.C_alloc ?_ _) | (with_reducible refine Kd.C_drewN ?_ _) | (with_reducible refine Kd.C_drew ?_))); (case side4 => exact (Kd.R_reads' HO682.out).2.1); rintro e w22 ⟨rfl, hb⟩; refine ⟨_, rfl, ?_⟩; have n0_ := Aside0.mk (Kd.R_below (by (with_reducible repeat (first | apply Kd.R_alloc | apply Kd.R_drewN | apply Kd.R_drew)); exact HO678.out) hb); have n1_ := Aside0.mk (Kd.R_below (by (with_reducible repeat (first | apply Kd.R_alloc | apply Kd.R_drewN | apply Kd.R_drew)); exact HO682.out) hb); have n2_ := Aside0.mk (blk_below (g := gb674) (o := .cells #[.slice A0_0 l0_0.length c0_0, .int .i64 a0_1, .slice A0_2 l0_2.length c0_2] 54 (0, 0)) (by (with_reducible repeat (first | refine blk_drewN ?_ _ | refine blk_drew ?_ | refine blk_alloc ?_ _)); exact BK674.out) hb); have n3_ := Aside0.mk (below_step (by repeat (first | (with_reducible first | exact HB.out | apply below_alloc | apply pw_below_drewN | apply below_drew1 | refine below_set ?_ GE674.out) | exact HB.out)) hb); clear HO678; clear HO682; clear BK674; clear HB; have HO678 := n0_; have HO682 := n1_; have BK674 := n2_; have HB := n3_; clear n0_ n1_ n2_ n3_; (try clear hb); (try clear hb2); (try clear hk); (try clear hi); have hcz23_0 : w22.cell? ⟨gb674, 0, none⟩ = some (.slice A0_0 l0_0.length c0_0) := (blk_cell BK674.out 0).trans rfl; have hcz23_1 : w22.cell? ⟨gb674, 1, none⟩ = some (.int .i64 a0_1) := (blk_cell BK674.out 1).trans rfl; have hcz23_2 : w22.cell? ⟨gb674, 2, none⟩ = some (.slice A0_2 l0_2.length c0_2) := (blk_cell BK674.out 2).trans rfl; have hfz23_0 := blk_frozen BK674.out 0; have hfz23_1 := blk_frozen BK674.out 1; have hfz23_2 := blk_frozen BK674.out 2) | ((with_reducible refine gate_callee (f := 42) rfl ?_); refine goesL_ (some 16) rfl rfl Try.func42 (by kernel_rfl) rfl #[.agg #[.slice A0_0 l0_0.length c0_0, .int .i64 a0_1, .slice A0_2 l0_2.length c0_2]] rfl (by (try simp only [List.map_toArray, List.map_cons, List.map_nil]); first | done | rfl | (simp only [List.length_drop, List.length_take]; rfl)) ?_; (with_reducible refine (laws_toFunc.calls k _ _ l0_0 a0_1 _ _ l0_2 t684 t687 t688 _ ?side1 ?side2 ?side3 ?side4 A9.out).mono ?_); (case side1 => repeat (first | exact (Kd.C_below HR0_0.out HB.out) | (with_reducible refine Kd.C_alloc ?_ _) | (with_reducible refine Kd.C_drewN ?_ _) | (with_reducible refine Kd.C_drew ?_))); (case side2 => exact HC0_0.out); (case side3 => repeat (first | exact (Kd.C_below HR0_2.out HB.out) | (with_reducible refine Kd.C_alloc ?_ _) | (with_reducible refine Kd.C_drewN ?_ _) | (with_reducible refine Kd.C_drew ?_))); (case side4 => exact HC0_2.out); rintro e w24 ⟨v685, v689, rfl, ho0, ho1, hb⟩; refine ⟨_, rfl, ?_⟩; have n0_ := Aside0.mk (Kd.R_elder' (by (with_reducible repeat (first | apply Kd.R_alloc | apply Kd.R_drewN | apply Kd.R_drew)); exact HO678.out) (Kd.R_base ho0) hb); have n1_ := Aside0.mk (Kd.R_mono (Kd.R_told (Kd.R_told (Kd.R_old (by (with_reducible repeat (first | apply Kd.R_alloc | apply Kd.R_drewN | apply Kd.R_drew)); exact HO682.out) hb) (Kd.R_base ho0)) (Kd.R_base ho1)) (fun _ h_ => h_.1)); have n2_ := Aside0.mk (Kd.R_lower (Kd.R_new' ho0 (Kd.R_lt (by (with_reducible repeat (first | apply Kd.R_alloc | apply Kd.R_drewN | apply Kd.R_drew)); exact HO678.out))) (below_size (by repeat (first | (with_reducible first | exact HB.out | apply below_alloc | apply pw_below_drewN | apply below_drew1 | refine below_set ?_ GE674.out) | exact HB.out)))); have n3_ := Aside0.mk (Kd.R_lower (Kd.R_new' (Kd.R_new' ho1 (Kd.R_lt (by (with_reducible repeat (first | apply Kd.R_alloc | apply Kd.R_drewN | apply Kd.R_drew)); exact HO678.out))) (Kd.R_lt (by (with_reducible repeat (first | apply Kd.R_alloc | apply Kd.R_drewN | apply Kd.R_drew)); exact HO682.out))) (below_size (by repeat (first | (with_reducible first | exact HB.out | apply below_alloc | apply pw_below_drewN | apply below_drew1 | refine below_set ?_ GE674.out) | exact HB.out)))); have n4_ := Aside0.mk (blk_below (g := gb674) (o := .cells #[.slice A0_0 l0_0.length c0_0, .int .i64 a0_1, .slice A0_2 l0_2.length c0_2] 54 (0, 0)) (by (with_reducible repeat (first | refine blk_drewN ?_ _ | refine blk_drew ?_ | refine blk_alloc ?_ _)); exact BK674.out) hb); have n5_ := Aside0.mk (below_step (by repeat (first | (with_reducible first | exact HB.out | apply below_alloc | apply pw_below_drewN | apply below_drew1 | refine below_set ?_ GE674.out) | exact HB.out)) hb); clear HO678; clear HO682; clear BK674; clear HB; have HO678 := n0_; have HO682 := n1_; have HO686 := n2_; have HO690 := n3_; have BK674 := n4_; have HB := n5_; clear n0_ n1_ n2_ n3_ n4_ n5_; (try clear hb); (try clear hb2); (try clear hk); (try clear hi); (try clear ho0); (try clear ho1)) | ((with_reducible refine gate_dst (N := 5) rfl ?_); refine box_event ?hg (N := 5) ?hd (cs := #[.slice none 0 0, .int .i64 0, .slice none 0 0]) (t := 41) ?hr ?_; (case hd => rfl); (case hg => rfl); (case hr => first | (go_simp; done) | (go_simp; rfl)); intro gb691 hg w25 hbox hb; have n0_ := Aside0.mk (Kd.R_below (by (with_reducible repeat (first | apply Kd.R_alloc | apply Kd.R_drewN | apply Kd.R_drew)); exact HO678.out) hb); have n1_ := Aside0.mk (Kd.R_below (by (with_reducible repeat (first | apply Kd.R_alloc | apply Kd.R_drewN | apply Kd.R_drew)); exact HO682.out) hb); have n2_ := Aside0.mk (Kd.R_below (by (with_reducible repeat (first | apply Kd.R_alloc | apply Kd.R_drewN | apply Kd.R_drew)); exact HO686.out) hb); have n3_ := Aside0.mk (Kd.R_below (by (with_reducible repeat (first | apply Kd.R_alloc | apply Kd.R_drewN | apply Kd.R_drew)); exact HO690.out) hb); have n4_ := Aside0.mk (blk_below (g := gb674) (o := .cells #[.slice A0_0 l0_0.length c0_0, .int .i64 a0_1, .slice A0_2 l0_2.length c0_2] 54 (0, 0)) (by (with_reducible repeat (first | refine blk_drewN ?_ _ | refine blk_drew ?_ | refine blk_alloc ?_ _)); exact BK674.out) hb); have n5_ := Aside0.mk (below_step (by repeat (first | (with_reducible first | exact HB.out | apply below_alloc | apply pw_below_drewN | apply below_drew1 | refine below_set ?_ GE674.out) | exact HB.out)) hb); have n6_ := Aside0.mk (hbox); have n7_ := Aside0.mk ((by rw [hg]; exact (below_size (by repeat (first | (with_reducible first | exact HB.out | apply below_alloc | apply pw_below_drewN | apply below_drew1 | refine below_set ?_ GE674.out) | exact HB.out))) : w.heap.size ≤ gb691)); have n8_ := Aside0.mk ((by rw [hg]; exact (below_size (by repeat (first | (with_reducible first | exact HB.out | apply below_alloc | apply pw_below_drewN | apply below_drew1 | refine below_set ?_ GE674.out) | exact HB.out))) : w.heap.size ≤ gb691)); have n9_ := Aside0.mk ((by rw [hg]; exact Nat.ne_of_lt (blk_lt (g := gb674) (o := .cells #[.slice A0_0 l0_0.length c0_0, .int .i64 a0_1, .slice A0_2 l0_2.length c0_2] 54 (0, 0)) (by (with_reducible repeat (first | refine blk_drewN ?_ _ | refine blk_drew ?_ | refine blk_alloc ?_ _)); exact BK674.out)) : gb674 ≠ gb691)); have n10_ := Aside0.mk ((by rw [hg]; exact Nat.ne_of_gt (blk_lt (g := gb674) (o := .cells #[.slice A0_0 l0_0.length c0_0, .int .i64 a0_1, .slice A0_2 l0_2.length c0_2] 54 (0, 0)) (by (with_reducible repeat (first | refine blk_drewN ?_ _ | refine blk_drew ?_ | refine blk_alloc ?_ _)); exact BK674.out)) : gb691 ≠ gb674)); clear HO678; clear HO682; clear HO686; clear HO690; clear BK674; clear HB; have HO678 := n0_; have HO682 := n1_; have HO686 := n2_; have HO690 := n3_; have BK674 := n4_; have HB := n5_; have BK691 := n6_; have GW691 := n7_; have GE691 := n8_; have NB674_691 := n9_; have NB691_674 := n10_; clear n0_ n1_ n2_ n3_ n4_ n5_ n6_ n7_ n8_ n9_ n10_; clear hb hbox hg; obtain ⟨Ao26, co26, eo26⟩ := Kd.R_slice HO686.out; subst eo26; have hnb27 := NB691_674.out; have hnc27 := NB674_691.out; have hcz28_0 : w25.cell? ⟨gb691, 0, none⟩ = some (.slice none 0 0) := (blk_cell BK691.out 0).trans rfl; have hcz28_1 : w25.cell? ⟨gb691, 1, none⟩ = some (.int .i64 0) := (blk_cell BK691.out 1).trans rfl; have hcz28_2 : w25.cell? ⟨gb691, 2, none⟩ = some (.slice none 0 0) := (blk_cell BK691.out 2).trans rfl; have hfz28_0 := blk_frozen BK691.out 0; have hfz28_1 := blk_frozen BK691.out 1; have hfz28_2 := blk_frozen BK691.out 2; obtain ⟨Ao29, co29, eo29⟩ := Kd.R_slice HO690.out; subst eo29) | ((with_reducible refine gate_callee (f := 43) rfl ?_); refine goesL_ (some 18) rfl rfl Try.func43 (by kernel_rfl) rfl #[.agg #[.slice Ao26 t684.length co26, .int .i64 t687, .slice Ao29 t688.length co29]] rfl (by (try simp only [List.map_toArray, List.map_cons, List.map_nil]); first | done | rfl | (simp only [List.length_drop, List.length_take]; rfl)) ?_; (with_reducible refine (impl_CountOf.calls k _ _ t684 t687 _ _ t688 t692 _ ?side1 ?side2 ?side3 ?side4 A10.out).mono ?_); (case side1 => refine (Kd.R_reads' (e := 2) (base := w.heap.size) (ok := fun k_ => (True ∧ some k_ ≠ (.slice Ao20 t676.length co20 : Value).ownBlock)) (n := t684.length) (c := co26) ?_).2.2; exact (by (with_reducible repeat (first | apply Kd.R_alloc | apply Kd.R_drewN | apply Kd.R_drew)); exact (Kd.R_mono (Kd.R_far (p := ⟨gb691, 2, none⟩) (Kd.R_far (p := ⟨gb691, 1, none⟩) (Kd.R_far (p := ⟨gb691, 0, none⟩) (Kd.R_types HO686.out BK691.out (by decide)) (fun _ hk => hk.2) (.slice Ao26 t684.length co26)) (fun _ hk => hk.2) (.int .i64 t687)) (fun _ hk => hk.2) (.slice Ao29 t688.length co29)) (fun _ h_ => h_.1)))); (case side2 => exact (Kd.R_reads' HO686.out).2.1); (case side3 => refine (Kd.R_reads' (e := 88) (base := w.heap.size) (ok := fun k_ => ((some k_ ≠ (.slice Ao26 t684.length co26 : Value).ownBlock ∧ some k_ ≠ (.slice Ao20 t676.length co20 : Value).ownBlock) ∧ some k_ ≠ (.slice Ao21 t680.length co21 : Value).ownBlock)) (n := t688.length) (c := co29) ?_).2.2; exact (by (with_reducible repeat (first | apply Kd.R_alloc | apply Kd.R_drewN | apply Kd.R_drew)); exact (Kd.R_mono (Kd.R_far (p := ⟨gb691, 2, none⟩) (Kd.R_far (p := ⟨gb691, 1, none⟩) (Kd.R_far (p := ⟨gb691, 0, none⟩) (Kd.R_types HO690.out BK691.out (by decide)) (fun _ hk => hk.2) (.slice Ao26 t684.length co26)) (fun _ hk => hk.2) (.int .i64 t687)) (fun _ hk => hk.2) (.slice Ao29 t688.length co29)) (fun _ h_ => h_.1)))); (case side4 => exact (Kd.R_reads' HO690.out).2.1); rintro e w30 ⟨rfl, hb⟩; refine ⟨_, rfl, ?_⟩; have n0_ := Aside0.mk (Kd.R_below (by (with_reducible repeat (first | apply Kd.R_alloc | apply Kd.R_drewN | apply Kd.R_drew)); exact (Kd.R_mono (Kd.R_far (p := ⟨gb691, 2, none⟩) (Kd.R_far (p := ⟨gb691, 1, none⟩) (Kd.R_far (p := ⟨gb691, 0, none⟩) (Kd.R_types HO678.out BK691.out (by decide)) (fun _ hk => hk.2) (.slice Ao26 t684.length co26)) (fun _ hk => hk.2) (.int .i64 t687)) (fun _ hk => hk.2) (.slice Ao29 t688.length co29)) (fun _ h_ => h_.1))) hb); have n1_ := Aside0.mk (Kd.R_below (by (with_reducible repeat (first | apply Kd.R_alloc | apply Kd.R_drewN | apply Kd.R_drew)); exact (Kd.R_mono (Kd.R_far (p := ⟨gb691, 2, none⟩) (Kd.R_far (p := ⟨gb691, 1, none⟩) (Kd.R_far (p := ⟨gb691, 0, none⟩) (Kd.R_types HO682.out BK691.out (by decide)) (fun _ hk => hk.2) (.slice Ao26 t684.length co26)) (fun _ hk => hk.2) (.int .i64 t687)) (fun _ hk => hk.2) (.slice Ao29 t688.length co29)) (fun _ h_ => h_.1))) hb); have n2_ := Aside0.mk (Kd.R_below (by (with_reducible repeat (first | apply Kd.R_alloc | apply Kd.R_drewN | apply Kd.R_drew)); exact (Kd.R_mono (Kd.R_far (p := ⟨gb691, 2, none⟩) (Kd.R_far (p := ⟨gb691, 1, none⟩) (Kd.R_far (p := ⟨gb691, 0, none⟩) (Kd.R_types HO686.out BK691.out (by decide)) (fun _ hk => hk.2) (.slice Ao26 t684.length co26)) (fun _ hk => hk.2) (.int .i64 t687)) (fun _ hk => hk.2) (.slice Ao29 t688.length co29)) (fun _ h_ => h_.1))) hb); have n3_ := Aside0.mk (Kd.R_below (by (with_reducible repeat (first | apply Kd.R_alloc | apply Kd.R_drewN | apply Kd.R_drew)); exact (Kd.R_mono (Kd.R_far (p := ⟨gb691, 2, none⟩) (Kd.R_far (p := ⟨gb691, 1, none⟩) (Kd.R_far (p := ⟨gb691, 0, none⟩) (Kd.R_types HO690.out BK691.out (by decide)) (fun _ hk => hk.2) (.slice Ao26 t684.length co26)) (fun _ hk => hk.2) (.int .i64 t687)) (fun _ hk => hk.2) (.slice Ao29 t688.length co29)) (fun _ h_ => h_.1))) hb); have n4_ := Aside0.mk (blk_below (g := gb674) (o := .cells #[.slice A0_0 l0_0.length c0_0, .int .i64 a0_1, .slice A0_2 l0_2.length c0_2] 54 (0, 0)) (by (with_reducible repeat (first | refine blk_drewN ?_ _ | refine blk_drew ?_ | refine blk_alloc ?_ _)); refine blk_far ?_ NB674_691.out _; (with_reducible repeat (first | refine blk_drewN ?_ _ | refine blk_drew ?_ | refine blk_alloc ?_ _)); refine blk_far ?_ NB674_691.out _; (with_reducible repeat (first | refine blk_drewN ?_ _ | refine blk_drew ?_ | refine blk_alloc ?_ _)); refine blk_far ?_ NB674_691.out _; (with_reducible repeat (first | refine blk_drewN ?_ _ | refine blk_drew ?_ | refine blk_alloc ?_ _)); exact BK674.out) hb); have n5_ := Aside0.mk (blk_below (g := gb691) (o := .cells #[.slice Ao26 t684.length co26, .int .i64 t687, .slice Ao29 t688.length co29] 41 (0, 0)) (by (with_reducible repeat (first | refine blk_drewN ?_ _ | refine blk_drew ?_ | refine blk_alloc ?_ _)); refine blk_put (cs := #[.slice Ao26 t684.length co26, .int .i64 t687, .slice none 0 0]) ?_ 2 _ rfl; (with_reducible repeat (first | refine blk_drewN ?_ _ | refine blk_drew ?_ | refine blk_alloc ?_ _)); refine blk_put (cs := #[.slice Ao26 t684.length co26, .int .i64 0, .slice none 0 0]) ?_ 1 _ rfl; (with_reducible repeat (first | refine blk_drewN ?_ _ | refine blk_drew ?_ | refine blk_alloc ?_ _)); refine blk_put (cs := #[.slice none 0 0, .int .i64 0, .slice none 0 0]) ?_ 0 _ rfl; (with_reducible repeat (first | refine blk_drewN ?_ _ | refine blk_drew ?_ | refine blk_alloc ?_ _)); exact BK691.out) hb); have n6_ := Aside0.mk (below_step (by repeat (first | (with_reducible first | exact HB.out | apply below_alloc | apply pw_below_drewN | apply below_drew1 | refine below_set ?_ GE674.out | refine below_set ?_ GE691.out) | exact HB.out)) hb); clear HO678; clear HO682; clear HO686; clear HO690; clear BK674; clear BK691; clear HB; have HO678 := n0_; have HO682 := n1_; have HO686 := n2_; have HO690 := n3_; have BK674 := n4_; have BK691 := n5_; have HB := n6_; clear n0_ n1_ n2_ n3_ n4_ n5_ n6_; (try clear hb); (try clear hb2); (try clear hk); (try clear hi)))
        have n0_ := Aside0.mk (Kd.R_drew HO678.out)
        have n1_ := Aside0.mk (Kd.R_drew HO682.out)
        have n2_ := Aside0.mk (Kd.R_drew HO686.out)
        have n3_ := Aside0.mk (Kd.R_drew HO690.out)
        have n4_ := Aside0.mk (blk_drew BK674.out)
        have n5_ := Aside0.mk (blk_drew BK691.out)
        have n6_ := Aside0.mk (below_drew1 HB.out)
        clear HO678
        clear HO682
        clear HO686
        clear HO690
        clear BK674
        clear BK691
        clear HB
        have HO678 := n0_
        have HO682 := n1_
        have HO686 := n2_
        have HO690 := n3_
        have BK674 := n4_
        have BK691 := n5_
        have HB := n6_
        clear n0_ n1_ n2_ n3_ n4_ n5_ n6_
        refine start_ (n := 5) (S := fun w' => w'.cell? ⟨gb691, 0, none⟩ = some (.slice Ao26 t684.length co26) ∧ w'.cell? ⟨gb691, 1, none⟩ = some (.int .i64 t687) ∧ w'.cell? ⟨gb691, 2, none⟩ = some (.slice Ao29 t688.length co29) ∧ w'.cell? ⟨gb674, 0, none⟩ = some (.slice A0_0 l0_0.length c0_0) ∧ w'.cell? ⟨gb674, 1, none⟩ = some (.int .i64 a0_1) ∧ w'.cell? ⟨gb674, 2, none⟩ = some (.slice A0_2 l0_2.length c0_2)) (ds := []) #[false, false, false, false, false] (by kernel_rfl) rfl rfl ⟨(blk_cell BK691.out 0).trans rfl, (blk_cell BK691.out 1).trans rfl, (blk_cell BK691.out 2).trans rfl, (blk_cell BK674.out 0).trans rfl, (blk_cell BK674.out 1).trans rfl, (blk_cell BK674.out 2).trans rfl⟩ (fun hHeld => ?_)
        generalize w30.drew = w31 at HO678 HO682 HO686 HO690 BK674 BK691 HB hHeld ⊢
        refine take_ (i := 0) (N := some 22) (v := ?_) (a' := ?_) #[true, false, false, false, false] rfl rfl (by kernel_rfl) (fun _ _ _ h => h) (Or.inl ⟨by rfl, ?_⟩) hHeld ?_ ?_
        rotate_left
        · rintro w' ⟨s0, s1, s2, s3, s4, s5⟩
          go_simp
          with_reducible rfl
        rotate_left
        · simp only [Act.put, List.setIfInBounds_toArray, List.set_cons_zero, List.set_cons_succ, i64_w, i32_w]
          rfl
        refine take_ (i := 1) (N := some 23) (v := ?_) (a' := ?_) #[true, true, false, false, false] rfl rfl (by kernel_rfl) (fun _ _ _ h => h) (Or.inl ⟨by rfl, ?_⟩) hHeld ?_ ?_
        rotate_left
        · rintro w' ⟨s0, s1, s2, s3, s4, s5⟩
          go_simp
          with_reducible rfl
        rotate_left
        · simp only [Act.put, List.setIfInBounds_toArray, List.set_cons_zero, List.set_cons_succ, i64_w, i32_w]
          rfl
        refine one_ (i := 2) (N := some 24) #[true, true, true, false, false] rfl rfl (by kernel_rfl) (by decide) (fun K hK => ?_)
        refine goes_ Try.func42 (by kernel_rfl) rfl #[.agg #[.slice A0_0 l0_0.length c0_0, .int .i64 a0_1, .slice A0_2 l0_2.length c0_2]] (by rfl) rfl rfl (by (try simp only [List.map_toArray, List.map_cons, List.map_nil]); first | done | rfl | (simp only [List.length_drop, List.length_take]; rfl)) ?_
        with_reducible refine (laws_toFunc.calls k _ _ l0_0 a0_1 _ _ l0_2 t693 t696 t697 _ ?side1 ?side2 ?side3 ?side4 A12.out).mono ?_
        (case side1 => repeat (first | exact (Kd.C_below HR0_0.out HB.out) | (with_reducible refine Kd.C_alloc ?_ _) | (with_reducible refine Kd.C_drewN ?_ _) | (with_reducible refine Kd.C_drew ?_)))
        (case side2 => exact HC0_0.out)
        (case side3 => repeat (first | exact (Kd.C_below HR0_2.out HB.out) | (with_reducible refine Kd.C_alloc ?_ _) | (with_reducible refine Kd.C_drewN ?_ _) | (with_reducible refine Kd.C_drew ?_)))
        (case side4 => exact HC0_2.out)
        rintro e w32 ⟨v694, v698, rfl, ho0, ho1, hb⟩
        refine ⟨_, rfl, ?_⟩
        have n0_ := Aside0.mk (Kd.R_elder' (by (with_reducible repeat (first | apply Kd.R_alloc | apply Kd.R_drewN | apply Kd.R_drew)); exact HO678.out) (Kd.R_base ho0) hb)
        have n1_ := Aside0.mk (Kd.R_mono (Kd.R_told (Kd.R_told (Kd.R_old (by (with_reducible repeat (first | apply Kd.R_alloc | apply Kd.R_drewN | apply Kd.R_drew)); exact HO682.out) hb) (Kd.R_base ho0)) (Kd.R_base ho1)) (fun _ h_ => h_.1))
        have n2_ := Aside0.mk (Kd.R_elder' (by (with_reducible repeat (first | apply Kd.R_alloc | apply Kd.R_drewN | apply Kd.R_drew)); exact HO686.out) (Kd.R_base ho0) hb)
        have n3_ := Aside0.mk (Kd.R_mono (Kd.R_told (Kd.R_told (Kd.R_old (by (with_reducible repeat (first | apply Kd.R_alloc | apply Kd.R_drewN | apply Kd.R_drew)); exact HO690.out) hb) (Kd.R_base ho0)) (Kd.R_base ho1)) (fun _ h_ => h_.1))
        have n4_ := Aside0.mk (Kd.R_lower (Kd.R_new' (Kd.R_new' ho0 (Kd.R_lt (by (with_reducible repeat (first | apply Kd.R_alloc | apply Kd.R_drewN | apply Kd.R_drew)); exact HO678.out))) (Kd.R_lt (by (with_reducible repeat (first | apply Kd.R_alloc | apply Kd.R_drewN | apply Kd.R_drew)); exact HO686.out))) (below_size (by repeat (first | (with_reducible first | exact HB.out | apply below_alloc | apply pw_below_drewN | apply below_drew1 | refine below_set ?_ GE674.out | refine below_set ?_ GE691.out) | exact HB.out))))
        have n5_ := Aside0.mk (Kd.R_lower (Kd.R_new' (Kd.R_new' (Kd.R_new' (Kd.R_new' ho1 (Kd.R_lt (by (with_reducible repeat (first | apply Kd.R_alloc | apply Kd.R_drewN | apply Kd.R_drew)); exact HO678.out))) (Kd.R_lt (by (with_reducible repeat (first | apply Kd.R_alloc | apply Kd.R_drewN | apply Kd.R_drew)); exact HO682.out))) (Kd.R_lt (by (with_reducible repeat (first | apply Kd.R_alloc | apply Kd.R_drewN | apply Kd.R_drew)); exact HO686.out))) (Kd.R_lt (by (with_reducible repeat (first | apply Kd.R_alloc | apply Kd.R_drewN | apply Kd.R_drew)); exact HO690.out))) (below_size (by repeat (first | (with_reducible first | exact HB.out | apply below_alloc | apply pw_below_drewN | apply below_drew1 | refine below_set ?_ GE674.out | refine below_set ?_ GE691.out) | exact HB.out))))
        have n6_ := Aside0.mk (blk_below (g := gb674) (o := .cells #[.slice A0_0 l0_0.length c0_0, .int .i64 a0_1, .slice A0_2 l0_2.length c0_2] 54 (0, 0)) (by (with_reducible repeat (first | refine blk_drewN ?_ _ | refine blk_drew ?_ | refine blk_alloc ?_ _)); exact BK674.out) hb)
        have n7_ := Aside0.mk (blk_below (g := gb691) (o := .cells #[.slice Ao26 t684.length co26, .int .i64 t687, .slice Ao29 t688.length co29] 41 (0, 0)) (by (with_reducible repeat (first | refine blk_drewN ?_ _ | refine blk_drew ?_ | refine blk_alloc ?_ _)); exact BK691.out) hb)
        have n8_ := Aside0.mk (below_step (by repeat (first | (with_reducible first | exact HB.out | apply below_alloc | apply pw_below_drewN | apply below_drew1 | refine below_set ?_ GE674.out | refine below_set ?_ GE691.out) | exact HB.out)) hb)
        clear HO678
        clear HO682
        clear HO686
        clear HO690
        clear BK674
        clear BK691
        clear HB
        have HO678 := n0_
        have HO682 := n1_
        have HO686 := n2_
        have HO690 := n3_
        have HO695 := n4_
        have HO699 := n5_
        have BK674 := n6_
        have BK691 := n7_
        have HB := n8_
        clear n0_ n1_ n2_ n3_ n4_ n5_ n6_ n7_ n8_
        (try clear hb)
        (try clear hb2)
        (try clear hk)
        (try clear hi)
        (try clear ho0)
        (try clear ho1)
        obtain ⟨Ao33, co33, eo33⟩ := Kd.R_slice HO695.out
        (first | subst eo33 | (injection eo33 with f1_ f2_ f3_; have f4_ := f1_.symm; have f5_ := f3_.symm; clear f1_ f2_ f3_; subst f4_; subst f5_))
        obtain ⟨Ao34, co34, eo34⟩ := Kd.R_slice HO699.out
        (first | subst eo34 | (injection eo34 with f1_ f2_ f3_; have f4_ := f1_.symm; have f5_ := f3_.symm; clear f1_ f2_ f3_; subst f4_; subst f5_))
        refine hK.out _ _ ⟨(blk_cell BK691.out 0).trans rfl, (blk_cell BK691.out 1).trans rfl, (blk_cell BK691.out 2).trans rfl, (blk_cell BK674.out 0).trans rfl, (blk_cell BK674.out 1).trans rfl, (blk_cell BK674.out 2).trans rfl⟩ (fun hHeld => ?_)
        clear hK K
        refine norm_ (a' := ?_) ?_ ?_
        rotate_left
        · show Act.put _ (some 24) _ = _
          simp only [Act.put, List.setIfInBounds_toArray, List.set_cons_zero, List.set_cons_succ, i64_w, i32_w]
          rfl
        refine one_ (i := 3) (N := some 25) #[true, true, true, true, false] rfl rfl (by kernel_rfl) (by decide) (fun K hK => ?_)
        refine goes_ Try.func44 (by kernel_rfl) rfl #[.agg #[.slice Ao26 t684.length co26, .int .i64 t687, .slice Ao29 t688.length co29], .agg #[.slice Ao33 t693.length co33, .int .i64 t696, .slice Ao34 t697.length co34]] (by rfl) rfl rfl (by (try simp only [List.map_toArray, List.map_cons, List.map_nil]); first | done | rfl | (simp only [List.length_drop, List.length_take]; rfl)) ?_
        with_reducible refine (laws_eqFunc.calls k _ _ t684 t687 _ _ t688 _ _ t693 t696 _ _ t697 true _ ?side1 ?side2 ?side3 ?side4 ?side5 ?side6 ?side7 ?side8 A13.out).mono ?_
        (case side1 => repeat (first | exact (Kd.R_reads' HO686.out).2.2 | (with_reducible refine Kd.C_alloc ?_ _) | (with_reducible refine Kd.C_drewN ?_ _) | (with_reducible refine Kd.C_drew ?_)))
        (case side2 => exact (Kd.R_reads' HO686.out).2.1)
        (case side3 => repeat (first | exact (Kd.R_reads' HO690.out).2.2 | (with_reducible refine Kd.C_alloc ?_ _) | (with_reducible refine Kd.C_drewN ?_ _) | (with_reducible refine Kd.C_drew ?_)))
        (case side4 => exact (Kd.R_reads' HO690.out).2.1)
        (case side5 => repeat (first | exact (Kd.R_reads' HO695.out).2.2 | (with_reducible refine Kd.C_alloc ?_ _) | (with_reducible refine Kd.C_drewN ?_ _) | (with_reducible refine Kd.C_drew ?_)))
        (case side6 => exact (Kd.R_reads' HO695.out).2.1)
        (case side7 => repeat (first | exact (Kd.R_reads' HO699.out).2.2 | (with_reducible refine Kd.C_alloc ?_ _) | (with_reducible refine Kd.C_drewN ?_ _) | (with_reducible refine Kd.C_drew ?_)))
        (case side8 => exact (Kd.R_reads' HO699.out).2.1)
        rintro e w35 ⟨rfl, hb⟩
        refine ⟨_, rfl, ?_⟩
        have n0_ := Aside0.mk (Kd.R_below (by (with_reducible repeat (first | apply Kd.R_alloc | apply Kd.R_drewN | apply Kd.R_drew)); exact HO678.out) hb)
        have n1_ := Aside0.mk (Kd.R_below (by (with_reducible repeat (first | apply Kd.R_alloc | apply Kd.R_drewN | apply Kd.R_drew)); exact HO682.out) hb)
        have n2_ := Aside0.mk (Kd.R_below (by (with_reducible repeat (first | apply Kd.R_alloc | apply Kd.R_drewN | apply Kd.R_drew)); exact HO686.out) hb)
        have n3_ := Aside0.mk (Kd.R_below (by (with_reducible repeat (first | apply Kd.R_alloc | apply Kd.R_drewN | apply Kd.R_drew)); exact HO690.out) hb)
        have n4_ := Aside0.mk (Kd.R_below (by (with_reducible repeat (first | apply Kd.R_alloc | apply Kd.R_drewN | apply Kd.R_drew)); exact HO695.out) hb)
        have n5_ := Aside0.mk (Kd.R_below (by (with_reducible repeat (first | apply Kd.R_alloc | apply Kd.R_drewN | apply Kd.R_drew)); exact HO699.out) hb)
        have n6_ := Aside0.mk (blk_below (g := gb674) (o := .cells #[.slice A0_0 l0_0.length c0_0, .int .i64 a0_1, .slice A0_2 l0_2.length c0_2] 54 (0, 0)) (by (with_reducible repeat (first | refine blk_drewN ?_ _ | refine blk_drew ?_ | refine blk_alloc ?_ _)); exact BK674.out) hb)
        have n7_ := Aside0.mk (blk_below (g := gb691) (o := .cells #[.slice Ao26 t684.length co26, .int .i64 t687, .slice Ao29 t688.length co29] 41 (0, 0)) (by (with_reducible repeat (first | refine blk_drewN ?_ _ | refine blk_drew ?_ | refine blk_alloc ?_ _)); exact BK691.out) hb)
        have n8_ := Aside0.mk (below_step (by repeat (first | (with_reducible first | exact HB.out | apply below_alloc | apply pw_below_drewN | apply below_drew1 | refine below_set ?_ GE674.out | refine below_set ?_ GE691.out) | exact HB.out)) hb)
        clear HO678
        clear HO682
        clear HO686
        clear HO690
        clear HO695
        clear HO699
        clear BK674
        clear BK691
        clear HB
        have HO678 := n0_
        have HO682 := n1_
        have HO686 := n2_
        have HO690 := n3_
        have HO695 := n4_
        have HO699 := n5_
        have BK674 := n6_
        have BK691 := n7_
        have HB := n8_
        clear n0_ n1_ n2_ n3_ n4_ n5_ n6_ n7_ n8_
        (try clear hb)
        (try clear hb2)
        (try clear hk)
        (try clear hi)
        refine hK.out _ _ ⟨(blk_cell BK691.out 0).trans rfl, (blk_cell BK691.out 1).trans rfl, (blk_cell BK691.out 2).trans rfl, (blk_cell BK674.out 0).trans rfl, (blk_cell BK674.out 1).trans rfl, (blk_cell BK674.out 2).trans rfl⟩ (fun hHeld => ?_)
        clear hK K
        refine norm_ (a' := ?_) ?_ ?_
        rotate_left
        · show Act.put _ (some 25) _ = _
          simp only [Act.put, List.setIfInBounds_toArray, List.set_cons_zero, List.set_cons_succ, i64_w, i32_w]
          rfl
        refine pure_ (i := 4) (N := some 26) (v := ?_) (a' := ?_) #[true, true, true, true, true] rfl rfl (by kernel_rfl) (fun _ _ _ h => h) (Or.inl ⟨by rfl, ?_⟩) ?_ ?_
        rotate_left
        · intro w'
          go_simp
          with_reducible rfl
        rotate_left
        · simp only [Act.put, List.setIfInBounds_toArray, List.set_cons_zero, List.set_cons_succ, i64_w, i32_w]
          rfl
        refine done_ (by kernel_rfl) ?_
        try go_wp2
        go_ret
        exact ⟨by first | rfl | (simp [errW_none, errW_some] <;> rfl) | (simp [*, errW_none, errW_some] <;> rfl), by repeat (first | (with_reducible first | exact HB.out | apply below_alloc | apply pw_below_drewN | apply below_drew1 | refine below_set ?_ GE674.out | refine below_set ?_ GE691.out) | exact HB.out)⟩
      · replace c14 := Bool.eq_false_iff.mpr c14
        subst c14
        have H1 : (some false) = some r := by rw [if_neg (show ¬ (false = true) by decide)] at H; exact H
        clear H
        have H := H1
        clear H1
        obtain rfl := Option.some.inj H
        go_enter Try.func8, Try.ntmps8
        try go_wp2_with (first | ((with_reducible refine gate_dst (N := 1) rfl ?_); refine box_event ?hg (N := 1) ?hd (cs := #[.slice A0_0 l0_0.length c0_0, .int .i64 a0_1, .slice A0_2 l0_2.length c0_2]) (t := 54) ?hr ?_; (case hd => rfl); (case hg => rfl); (case hr => first | (go_simp; done) | (go_simp; rfl)); intro gb674 hg w36 hbox hb; have n0_ := Aside0.mk (below_step (by repeat (first | (with_reducible first | exact HB.out | apply below_alloc | apply pw_below_drewN | apply below_drew1) | exact HB.out)) hb); have n1_ := Aside0.mk (hbox); have n2_ := Aside0.mk ((by rw [hg]; exact (below_size (by repeat (first | (with_reducible first | exact HB.out | apply below_alloc | apply pw_below_drewN | apply below_drew1) | exact HB.out))) : w.heap.size ≤ gb674)); have n3_ := Aside0.mk ((by rw [hg]; exact (below_size (by repeat (first | (with_reducible first | exact HB.out | apply below_alloc | apply pw_below_drewN | apply below_drew1) | exact HB.out))) : w.heap.size ≤ gb674)); clear HB; have HB := n0_; have BK674 := n1_; have GW674 := n2_; have GE674 := n3_; clear n0_ n1_ n2_ n3_; clear hb hbox hg; have hcz37_0 : w36.cell? ⟨gb674, 0, none⟩ = some (.slice A0_0 l0_0.length c0_0) := (blk_cell BK674.out 0).trans rfl; have hcz37_1 : w36.cell? ⟨gb674, 1, none⟩ = some (.int .i64 a0_1) := (blk_cell BK674.out 1).trans rfl; have hcz37_2 : w36.cell? ⟨gb674, 2, none⟩ = some (.slice A0_2 l0_2.length c0_2) := (blk_cell BK674.out 2).trans rfl; have hfz37_0 := blk_frozen BK674.out 0; have hfz37_1 := blk_frozen BK674.out 1; have hfz37_2 := blk_frozen BK674.out 2) | ((with_reducible refine gate_callee (f := 40) rfl ?_); refine goesL_ (some 9) rfl rfl Try.func40 (by kernel_rfl) rfl #[.agg #[.slice A0_0 l0_0.length c0_0, .int .i64 a0_1, .slice A0_2 l0_2.length c0_2], .int .i64 1048576] rfl (by (try simp only [List.map_toArray, List.map_cons, List.map_nil]); first | done | rfl | (simp only [List.length_drop, List.length_take]; rfl)) ?_; (with_reducible refine (laws_szFunc.calls k _ _ l0_0 a0_1 _ _ l0_2 1048576 t675 _ ?side1 ?side2 ?side3 ?side4 A2.out).mono ?_); (case side1 => repeat (first | exact (Kd.C_below HR0_0.out HB.out) | (with_reducible refine Kd.C_alloc ?_ _) | (with_reducible refine Kd.C_drewN ?_ _) | (with_reducible refine Kd.C_drew ?_))); (case side2 => exact HC0_0.out); (case side3 => repeat (first | exact (Kd.C_below HR0_2.out HB.out) | (with_reducible refine Kd.C_alloc ?_ _) | (with_reducible refine Kd.C_drewN ?_ _) | (with_reducible refine Kd.C_drew ?_))); (case side4 => exact HC0_2.out); rintro e w38 ⟨rfl, hb⟩; refine ⟨_, rfl, ?_⟩; have n0_ := Aside0.mk (blk_below (g := gb674) (o := .cells #[.slice A0_0 l0_0.length c0_0, .int .i64 a0_1, .slice A0_2 l0_2.length c0_2] 54 (0, 0)) (by (with_reducible repeat (first | refine blk_drewN ?_ _ | refine blk_drew ?_ | refine blk_alloc ?_ _)); exact BK674.out) hb); have n1_ := Aside0.mk (below_step (by repeat (first | (with_reducible first | exact HB.out | apply below_alloc | apply pw_below_drewN | apply below_drew1 | refine below_set ?_ GE674.out) | exact HB.out)) hb); clear BK674; clear HB; have BK674 := n0_; have HB := n1_; clear n0_ n1_; (try clear hb); (try clear hb2); (try clear hk); (try clear hi); have hcz39_0 : w38.cell? ⟨gb674, 0, none⟩ = some (.slice A0_0 l0_0.length c0_0) := (blk_cell BK674.out 0).trans rfl; have hcz39_1 : w38.cell? ⟨gb674, 1, none⟩ = some (.int .i64 a0_1) := (blk_cell BK674.out 1).trans rfl; have hcz39_2 : w38.cell? ⟨gb674, 2, none⟩ = some (.slice A0_2 l0_2.length c0_2) := (blk_cell BK674.out 2).trans rfl; have hfz39_0 := blk_frozen BK674.out 0; have hfz39_1 := blk_frozen BK674.out 1; have hfz39_2 := blk_frozen BK674.out 2) | ((with_reducible refine gate_callee (f := 42) rfl ?_); refine goesL_ (some 13) rfl rfl Try.func42 (by kernel_rfl) rfl #[.agg #[.slice A0_0 l0_0.length c0_0, .int .i64 a0_1, .slice A0_2 l0_2.length c0_2]] rfl (by (try simp only [List.map_toArray, List.map_cons, List.map_nil]); first | done | rfl | (simp only [List.length_drop, List.length_take]; rfl)) ?_; (with_reducible refine (laws_toFunc.calls k _ _ l0_0 a0_1 _ _ l0_2 t676 t679 t680 _ ?side1 ?side2 ?side3 ?side4 A7.out).mono ?_); (case side1 => repeat (first | exact (Kd.C_below HR0_0.out HB.out) | (with_reducible refine Kd.C_alloc ?_ _) | (with_reducible refine Kd.C_drewN ?_ _) | (with_reducible refine Kd.C_drew ?_))); (case side2 => exact HC0_0.out); (case side3 => repeat (first | exact (Kd.C_below HR0_2.out HB.out) | (with_reducible refine Kd.C_alloc ?_ _) | (with_reducible refine Kd.C_drewN ?_ _) | (with_reducible refine Kd.C_drew ?_))); (case side4 => exact HC0_2.out); rintro e w40 ⟨v677, v681, rfl, ho0, ho1, hb⟩; refine ⟨_, rfl, ?_⟩; have n0_ := Aside0.mk (Kd.R_lower ho0 (below_size (by repeat (first | (with_reducible first | exact HB.out | apply below_alloc | apply pw_below_drewN | apply below_drew1 | refine below_set ?_ GE674.out) | exact HB.out)))); have n1_ := Aside0.mk (Kd.R_lower ho1 (below_size (by repeat (first | (with_reducible first | exact HB.out | apply below_alloc | apply pw_below_drewN | apply below_drew1 | refine below_set ?_ GE674.out) | exact HB.out)))); have n2_ := Aside0.mk (blk_below (g := gb674) (o := .cells #[.slice A0_0 l0_0.length c0_0, .int .i64 a0_1, .slice A0_2 l0_2.length c0_2] 54 (0, 0)) (by (with_reducible repeat (first | refine blk_drewN ?_ _ | refine blk_drew ?_ | refine blk_alloc ?_ _)); exact BK674.out) hb); have n3_ := Aside0.mk (below_step (by repeat (first | (with_reducible first | exact HB.out | apply below_alloc | apply pw_below_drewN | apply below_drew1 | refine below_set ?_ GE674.out) | exact HB.out)) hb); clear BK674; clear HB; have HO678 := n0_; have HO682 := n1_; have BK674 := n2_; have HB := n3_; clear n0_ n1_ n2_ n3_; (try clear hb); (try clear hb2); (try clear hk); (try clear hi); (try clear ho0); (try clear ho1); obtain ⟨Ao41, co41, eo41⟩ := Kd.R_slice HO678.out; subst eo41; obtain ⟨Ao42, co42, eo42⟩ := Kd.R_slice HO682.out; subst eo42) | ((with_reducible refine gate_callee (f := 41) rfl ?_); refine goesL_ (some 14) rfl rfl Try.func41 (by kernel_rfl) rfl #[.agg #[.slice Ao41 t676.length co41, .int .i64 t679, .slice Ao42 t680.length co42]] rfl (by (try simp only [List.map_toArray, List.map_cons, List.map_nil]); first | done | rfl | (simp only [List.length_drop, List.length_take]; rfl)) ?_; (with_reducible refine (spec_CountOf.calls k _ _ t676 t679 _ _ t680 t683 _ ?side1 ?side2 ?side3 ?side4 A8.out).mono ?_); (case side1 => repeat (first | exact (Kd.R_reads' HO678.out).2.2 | (with_reducible refine Kd.C_alloc ?_ _) | (with_reducible refine Kd.C_drewN ?_ _) | (with_reducible refine Kd.C_drew ?_))); (case side2 => exact (Kd.R_reads' HO678.out).2.1); (case side3 => repeat (first | exact (Kd.R_reads' HO682.out).2.2 | (with_reducible refine Kd.C_alloc ?_ _) | (with_reducible refine Kd.C_drewN ?_ _) | (with_reducible refine Kd.C_drew ?_))); (case side4 => exact (Kd.R_reads' HO682.out).2.1); rintro e w43 ⟨rfl, hb⟩; refine ⟨_, rfl, ?_⟩; have n0_ := Aside0.mk (Kd.R_below (by (with_reducible repeat (first | apply Kd.R_alloc | apply Kd.R_drewN | apply Kd.R_drew)); exact HO678.out) hb); have n1_ := Aside0.mk (Kd.R_below (by (with_reducible repeat (first | apply Kd.R_alloc | apply Kd.R_drewN | apply Kd.R_drew)); exact HO682.out) hb); have n2_ := Aside0.mk (blk_below (g := gb674) (o := .cells #[.slice A0_0 l0_0.length c0_0, .int .i64 a0_1, .slice A0_2 l0_2.length c0_2] 54 (0, 0)) (by (with_reducible repeat (first | refine blk_drewN ?_ _ | refine blk_drew ?_ | refine blk_alloc ?_ _)); exact BK674.out) hb); have n3_ := Aside0.mk (below_step (by repeat (first | (with_reducible first | exact HB.out | apply below_alloc | apply pw_below_drewN | apply below_drew1 | refine below_set ?_ GE674.out) | exact HB.out)) hb); clear HO678; clear HO682; clear BK674; clear HB; have HO678 := n0_; have HO682 := n1_; have BK674 := n2_; have HB := n3_; clear n0_ n1_ n2_ n3_; (try clear hb); (try clear hb2); (try clear hk); (try clear hi); have hcz44_0 : w43.cell? ⟨gb674, 0, none⟩ = some (.slice A0_0 l0_0.length c0_0) := (blk_cell BK674.out 0).trans rfl; have hcz44_1 : w43.cell? ⟨gb674, 1, none⟩ = some (.int .i64 a0_1) := (blk_cell BK674.out 1).trans rfl; have hcz44_2 : w43.cell? ⟨gb674, 2, none⟩ = some (.slice A0_2 l0_2.length c0_2) := (blk_cell BK674.out 2).trans rfl; have hfz44_0 := blk_frozen BK674.out 0; have hfz44_1 := blk_frozen BK674.out 1; have hfz44_2 := blk_frozen BK674.out 2) | ((with_reducible refine gate_callee (f := 42) rfl ?_); refine goesL_ (some 16) rfl rfl Try.func42 (by kernel_rfl) rfl #[.agg #[.slice A0_0 l0_0.length c0_0, .int .i64 a0_1, .slice A0_2 l0_2.length c0_2]] rfl (by (try simp only [List.map_toArray, List.map_cons, List.map_nil]); first | done | rfl | (simp only [List.length_drop, List.length_take]; rfl)) ?_; (with_reducible refine (laws_toFunc.calls k _ _ l0_0 a0_1 _ _ l0_2 t684 t687 t688 _ ?side1 ?side2 ?side3 ?side4 A9.out).mono ?_); (case side1 => repeat (first | exact (Kd.C_below HR0_0.out HB.out) | (with_reducible refine Kd.C_alloc ?_ _) | (with_reducible refine Kd.C_drewN ?_ _) | (with_reducible refine Kd.C_drew ?_))); (case side2 => exact HC0_0.out); (case side3 => repeat (first | exact (Kd.C_below HR0_2.out HB.out) | (with_reducible refine Kd.C_alloc ?_ _) | (with_reducible refine Kd.C_drewN ?_ _) | (with_reducible refine Kd.C_drew ?_))); (case side4 => exact HC0_2.out); rintro e w45 ⟨v685, v689, rfl, ho0, ho1, hb⟩; refine ⟨_, rfl, ?_⟩; have n0_ := Aside0.mk (Kd.R_elder' (by (with_reducible repeat (first | apply Kd.R_alloc | apply Kd.R_drewN | apply Kd.R_drew)); exact HO678.out) (Kd.R_base ho0) hb); have n1_ := Aside0.mk (Kd.R_mono (Kd.R_told (Kd.R_told (Kd.R_old (by (with_reducible repeat (first | apply Kd.R_alloc | apply Kd.R_drewN | apply Kd.R_drew)); exact HO682.out) hb) (Kd.R_base ho0)) (Kd.R_base ho1)) (fun _ h_ => h_.1)); have n2_ := Aside0.mk (Kd.R_lower (Kd.R_new' ho0 (Kd.R_lt (by (with_reducible repeat (first | apply Kd.R_alloc | apply Kd.R_drewN | apply Kd.R_drew)); exact HO678.out))) (below_size (by repeat (first | (with_reducible first | exact HB.out | apply below_alloc | apply pw_below_drewN | apply below_drew1 | refine below_set ?_ GE674.out) | exact HB.out)))); have n3_ := Aside0.mk (Kd.R_lower (Kd.R_new' (Kd.R_new' ho1 (Kd.R_lt (by (with_reducible repeat (first | apply Kd.R_alloc | apply Kd.R_drewN | apply Kd.R_drew)); exact HO678.out))) (Kd.R_lt (by (with_reducible repeat (first | apply Kd.R_alloc | apply Kd.R_drewN | apply Kd.R_drew)); exact HO682.out))) (below_size (by repeat (first | (with_reducible first | exact HB.out | apply below_alloc | apply pw_below_drewN | apply below_drew1 | refine below_set ?_ GE674.out) | exact HB.out)))); have n4_ := Aside0.mk (blk_below (g := gb674) (o := .cells #[.slice A0_0 l0_0.length c0_0, .int .i64 a0_1, .slice A0_2 l0_2.length c0_2] 54 (0, 0)) (by (with_reducible repeat (first | refine blk_drewN ?_ _ | refine blk_drew ?_ | refine blk_alloc ?_ _)); exact BK674.out) hb); have n5_ := Aside0.mk (below_step (by repeat (first | (with_reducible first | exact HB.out | apply below_alloc | apply pw_below_drewN | apply below_drew1 | refine below_set ?_ GE674.out) | exact HB.out)) hb); clear HO678; clear HO682; clear BK674; clear HB; have HO678 := n0_; have HO682 := n1_; have HO686 := n2_; have HO690 := n3_; have BK674 := n4_; have HB := n5_; clear n0_ n1_ n2_ n3_ n4_ n5_; (try clear hb); (try clear hb2); (try clear hk); (try clear hi); (try clear ho0); (try clear ho1)) | ((with_reducible refine gate_dst (N := 5) rfl ?_); refine box_event ?hg (N := 5) ?hd (cs := #[.slice none 0 0, .int .i64 0, .slice none 0 0]) (t := 41) ?hr ?_; (case hd => rfl); (case hg => rfl); (case hr => first | (go_simp; done) | (go_simp; rfl)); intro gb691 hg w46 hbox hb; have n0_ := Aside0.mk (Kd.R_below (by (with_reducible repeat (first | apply Kd.R_alloc | apply Kd.R_drewN | apply Kd.R_drew)); exact HO678.out) hb); have n1_ := Aside0.mk (Kd.R_below (by (with_reducible repeat (first | apply Kd.R_alloc | apply Kd.R_drewN | apply Kd.R_drew)); exact HO682.out) hb); have n2_ := Aside0.mk (Kd.R_below (by (with_reducible repeat (first | apply Kd.R_alloc | apply Kd.R_drewN | apply Kd.R_drew)); exact HO686.out) hb); have n3_ := Aside0.mk (Kd.R_below (by (with_reducible repeat (first | apply Kd.R_alloc | apply Kd.R_drewN | apply Kd.R_drew)); exact HO690.out) hb); have n4_ := Aside0.mk (blk_below (g := gb674) (o := .cells #[.slice A0_0 l0_0.length c0_0, .int .i64 a0_1, .slice A0_2 l0_2.length c0_2] 54 (0, 0)) (by (with_reducible repeat (first | refine blk_drewN ?_ _ | refine blk_drew ?_ | refine blk_alloc ?_ _)); exact BK674.out) hb); have n5_ := Aside0.mk (below_step (by repeat (first | (with_reducible first | exact HB.out | apply below_alloc | apply pw_below_drewN | apply below_drew1 | refine below_set ?_ GE674.out) | exact HB.out)) hb); have n6_ := Aside0.mk (hbox); have n7_ := Aside0.mk ((by rw [hg]; exact (below_size (by repeat (first | (with_reducible first | exact HB.out | apply below_alloc | apply pw_below_drewN | apply below_drew1 | refine below_set ?_ GE674.out) | exact HB.out))) : w.heap.size ≤ gb691)); have n8_ := Aside0.mk ((by rw [hg]; exact (below_size (by repeat (first | (with_reducible first | exact HB.out | apply below_alloc | apply pw_below_drewN | apply below_drew1 | refine below_set ?_ GE674.out) | exact HB.out))) : w.heap.size ≤ gb691)); have n9_ := Aside0.mk ((by rw [hg]; exact Nat.ne_of_lt (blk_lt (g := gb674) (o := .cells #[.slice A0_0 l0_0.length c0_0, .int .i64 a0_1, .slice A0_2 l0_2.length c0_2] 54 (0, 0)) (by (with_reducible repeat (first | refine blk_drewN ?_ _ | refine blk_drew ?_ | refine blk_alloc ?_ _)); exact BK674.out)) : gb674 ≠ gb691)); have n10_ := Aside0.mk ((by rw [hg]; exact Nat.ne_of_gt (blk_lt (g := gb674) (o := .cells #[.slice A0_0 l0_0.length c0_0, .int .i64 a0_1, .slice A0_2 l0_2.length c0_2] 54 (0, 0)) (by (with_reducible repeat (first | refine blk_drewN ?_ _ | refine blk_drew ?_ | refine blk_alloc ?_ _)); exact BK674.out)) : gb691 ≠ gb674)); clear HO678; clear HO682; clear HO686; clear HO690; clear BK674; clear HB; have HO678 := n0_; have HO682 := n1_; have HO686 := n2_; have HO690 := n3_; have BK674 := n4_; have HB := n5_; have BK691 := n6_; have GW691 := n7_; have GE691 := n8_; have NB674_691 := n9_; have NB691_674 := n10_; clear n0_ n1_ n2_ n3_ n4_ n5_ n6_ n7_ n8_ n9_ n10_; clear hb hbox hg; obtain ⟨Ao47, co47, eo47⟩ := Kd.R_slice HO686.out; subst eo47; have hnb48 := NB691_674.out; have hnc48 := NB674_691.out; have hcz49_0 : w46.cell? ⟨gb691, 0, none⟩ = some (.slice none 0 0) := (blk_cell BK691.out 0).trans rfl; have hcz49_1 : w46.cell? ⟨gb691, 1, none⟩ = some (.int .i64 0) := (blk_cell BK691.out 1).trans rfl; have hcz49_2 : w46.cell? ⟨gb691, 2, none⟩ = some (.slice none 0 0) := (blk_cell BK691.out 2).trans rfl; have hfz49_0 := blk_frozen BK691.out 0; have hfz49_1 := blk_frozen BK691.out 1; have hfz49_2 := blk_frozen BK691.out 2; obtain ⟨Ao50, co50, eo50⟩ := Kd.R_slice HO690.out; subst eo50) | ((with_reducible refine gate_callee (f := 43) rfl ?_); refine goesL_ (some 18) rfl rfl Try.func43 (by kernel_rfl) rfl #[.agg #[.slice Ao47 t684.length co47, .int .i64 t687, .slice Ao50 t688.length co50]] rfl (by (try simp only [List.map_toArray, List.map_cons, List.map_nil]); first | done | rfl | (simp only [List.length_drop, List.length_take]; rfl)) ?_; (with_reducible refine (impl_CountOf.calls k _ _ t684 t687 _ _ t688 t692 _ ?side1 ?side2 ?side3 ?side4 A10.out).mono ?_); (case side1 => refine (Kd.R_reads' (e := 2) (base := w.heap.size) (ok := fun k_ => (True ∧ some k_ ≠ (.slice Ao41 t676.length co41 : Value).ownBlock)) (n := t684.length) (c := co47) ?_).2.2; exact (by (with_reducible repeat (first | apply Kd.R_alloc | apply Kd.R_drewN | apply Kd.R_drew)); exact (Kd.R_mono (Kd.R_far (p := ⟨gb691, 2, none⟩) (Kd.R_far (p := ⟨gb691, 1, none⟩) (Kd.R_far (p := ⟨gb691, 0, none⟩) (Kd.R_types HO686.out BK691.out (by decide)) (fun _ hk => hk.2) (.slice Ao47 t684.length co47)) (fun _ hk => hk.2) (.int .i64 t687)) (fun _ hk => hk.2) (.slice Ao50 t688.length co50)) (fun _ h_ => h_.1)))); (case side2 => exact (Kd.R_reads' HO686.out).2.1); (case side3 => refine (Kd.R_reads' (e := 88) (base := w.heap.size) (ok := fun k_ => ((some k_ ≠ (.slice Ao47 t684.length co47 : Value).ownBlock ∧ some k_ ≠ (.slice Ao41 t676.length co41 : Value).ownBlock) ∧ some k_ ≠ (.slice Ao42 t680.length co42 : Value).ownBlock)) (n := t688.length) (c := co50) ?_).2.2; exact (by (with_reducible repeat (first | apply Kd.R_alloc | apply Kd.R_drewN | apply Kd.R_drew)); exact (Kd.R_mono (Kd.R_far (p := ⟨gb691, 2, none⟩) (Kd.R_far (p := ⟨gb691, 1, none⟩) (Kd.R_far (p := ⟨gb691, 0, none⟩) (Kd.R_types HO690.out BK691.out (by decide)) (fun _ hk => hk.2) (.slice Ao47 t684.length co47)) (fun _ hk => hk.2) (.int .i64 t687)) (fun _ hk => hk.2) (.slice Ao50 t688.length co50)) (fun _ h_ => h_.1)))); (case side4 => exact (Kd.R_reads' HO690.out).2.1); rintro e w51 ⟨rfl, hb⟩; refine ⟨_, rfl, ?_⟩; have n0_ := Aside0.mk (Kd.R_below (by (with_reducible repeat (first | apply Kd.R_alloc | apply Kd.R_drewN | apply Kd.R_drew)); exact (Kd.R_mono (Kd.R_far (p := ⟨gb691, 2, none⟩) (Kd.R_far (p := ⟨gb691, 1, none⟩) (Kd.R_far (p := ⟨gb691, 0, none⟩) (Kd.R_types HO678.out BK691.out (by decide)) (fun _ hk => hk.2) (.slice Ao47 t684.length co47)) (fun _ hk => hk.2) (.int .i64 t687)) (fun _ hk => hk.2) (.slice Ao50 t688.length co50)) (fun _ h_ => h_.1))) hb); have n1_ := Aside0.mk (Kd.R_below (by (with_reducible repeat (first | apply Kd.R_alloc | apply Kd.R_drewN | apply Kd.R_drew)); exact (Kd.R_mono (Kd.R_far (p := ⟨gb691, 2, none⟩) (Kd.R_far (p := ⟨gb691, 1, none⟩) (Kd.R_far (p := ⟨gb691, 0, none⟩) (Kd.R_types HO682.out BK691.out (by decide)) (fun _ hk => hk.2) (.slice Ao47 t684.length co47)) (fun _ hk => hk.2) (.int .i64 t687)) (fun _ hk => hk.2) (.slice Ao50 t688.length co50)) (fun _ h_ => h_.1))) hb); have n2_ := Aside0.mk (Kd.R_below (by (with_reducible repeat (first | apply Kd.R_alloc | apply Kd.R_drewN | apply Kd.R_drew)); exact (Kd.R_mono (Kd.R_far (p := ⟨gb691, 2, none⟩) (Kd.R_far (p := ⟨gb691, 1, none⟩) (Kd.R_far (p := ⟨gb691, 0, none⟩) (Kd.R_types HO686.out BK691.out (by decide)) (fun _ hk => hk.2) (.slice Ao47 t684.length co47)) (fun _ hk => hk.2) (.int .i64 t687)) (fun _ hk => hk.2) (.slice Ao50 t688.length co50)) (fun _ h_ => h_.1))) hb); have n3_ := Aside0.mk (Kd.R_below (by (with_reducible repeat (first | apply Kd.R_alloc | apply Kd.R_drewN | apply Kd.R_drew)); exact (Kd.R_mono (Kd.R_far (p := ⟨gb691, 2, none⟩) (Kd.R_far (p := ⟨gb691, 1, none⟩) (Kd.R_far (p := ⟨gb691, 0, none⟩) (Kd.R_types HO690.out BK691.out (by decide)) (fun _ hk => hk.2) (.slice Ao47 t684.length co47)) (fun _ hk => hk.2) (.int .i64 t687)) (fun _ hk => hk.2) (.slice Ao50 t688.length co50)) (fun _ h_ => h_.1))) hb); have n4_ := Aside0.mk (blk_below (g := gb674) (o := .cells #[.slice A0_0 l0_0.length c0_0, .int .i64 a0_1, .slice A0_2 l0_2.length c0_2] 54 (0, 0)) (by (with_reducible repeat (first | refine blk_drewN ?_ _ | refine blk_drew ?_ | refine blk_alloc ?_ _)); refine blk_far ?_ NB674_691.out _; (with_reducible repeat (first | refine blk_drewN ?_ _ | refine blk_drew ?_ | refine blk_alloc ?_ _)); refine blk_far ?_ NB674_691.out _; (with_reducible repeat (first | refine blk_drewN ?_ _ | refine blk_drew ?_ | refine blk_alloc ?_ _)); refine blk_far ?_ NB674_691.out _; (with_reducible repeat (first | refine blk_drewN ?_ _ | refine blk_drew ?_ | refine blk_alloc ?_ _)); exact BK674.out) hb); have n5_ := Aside0.mk (blk_below (g := gb691) (o := .cells #[.slice Ao47 t684.length co47, .int .i64 t687, .slice Ao50 t688.length co50] 41 (0, 0)) (by (with_reducible repeat (first | refine blk_drewN ?_ _ | refine blk_drew ?_ | refine blk_alloc ?_ _)); refine blk_put (cs := #[.slice Ao47 t684.length co47, .int .i64 t687, .slice none 0 0]) ?_ 2 _ rfl; (with_reducible repeat (first | refine blk_drewN ?_ _ | refine blk_drew ?_ | refine blk_alloc ?_ _)); refine blk_put (cs := #[.slice Ao47 t684.length co47, .int .i64 0, .slice none 0 0]) ?_ 1 _ rfl; (with_reducible repeat (first | refine blk_drewN ?_ _ | refine blk_drew ?_ | refine blk_alloc ?_ _)); refine blk_put (cs := #[.slice none 0 0, .int .i64 0, .slice none 0 0]) ?_ 0 _ rfl; (with_reducible repeat (first | refine blk_drewN ?_ _ | refine blk_drew ?_ | refine blk_alloc ?_ _)); exact BK691.out) hb); have n6_ := Aside0.mk (below_step (by repeat (first | (with_reducible first | exact HB.out | apply below_alloc | apply pw_below_drewN | apply below_drew1 | refine below_set ?_ GE674.out | refine below_set ?_ GE691.out) | exact HB.out)) hb); clear HO678; clear HO682; clear HO686; clear HO690; clear BK674; clear BK691; clear HB; have HO678 := n0_; have HO682 := n1_; have HO686 := n2_; have HO690 := n3_; have BK674 := n4_; have BK691 := n5_; have HB := n6_; clear n0_ n1_ n2_ n3_ n4_ n5_ n6_; (try clear hb); (try clear hb2); (try clear hk); (try clear hi)))
        have n0_ := Aside0.mk (Kd.R_drew HO678.out)
        have n1_ := Aside0.mk (Kd.R_drew HO682.out)
        have n2_ := Aside0.mk (Kd.R_drew HO686.out)
        have n3_ := Aside0.mk (Kd.R_drew HO690.out)
        have n4_ := Aside0.mk (blk_drew BK674.out)
        have n5_ := Aside0.mk (blk_drew BK691.out)
        have n6_ := Aside0.mk (below_drew1 HB.out)
        clear HO678
        clear HO682
        clear HO686
        clear HO690
        clear BK674
        clear BK691
        clear HB
        have HO678 := n0_
        have HO682 := n1_
        have HO686 := n2_
        have HO690 := n3_
        have BK674 := n4_
        have BK691 := n5_
        have HB := n6_
        clear n0_ n1_ n2_ n3_ n4_ n5_ n6_
        refine start_ (n := 5) (S := fun w' => w'.cell? ⟨gb691, 0, none⟩ = some (.slice Ao47 t684.length co47) ∧ w'.cell? ⟨gb691, 1, none⟩ = some (.int .i64 t687) ∧ w'.cell? ⟨gb691, 2, none⟩ = some (.slice Ao50 t688.length co50) ∧ w'.cell? ⟨gb674, 0, none⟩ = some (.slice A0_0 l0_0.length c0_0) ∧ w'.cell? ⟨gb674, 1, none⟩ = some (.int .i64 a0_1) ∧ w'.cell? ⟨gb674, 2, none⟩ = some (.slice A0_2 l0_2.length c0_2)) (ds := []) #[false, false, false, false, false] (by kernel_rfl) rfl rfl ⟨(blk_cell BK691.out 0).trans rfl, (blk_cell BK691.out 1).trans rfl, (blk_cell BK691.out 2).trans rfl, (blk_cell BK674.out 0).trans rfl, (blk_cell BK674.out 1).trans rfl, (blk_cell BK674.out 2).trans rfl⟩ (fun hHeld => ?_)
        generalize w51.drew = w52 at HO678 HO682 HO686 HO690 BK674 BK691 HB hHeld ⊢
        refine take_ (i := 0) (N := some 22) (v := ?_) (a' := ?_) #[true, false, false, false, false] rfl rfl (by kernel_rfl) (fun _ _ _ h => h) (Or.inl ⟨by rfl, ?_⟩) hHeld ?_ ?_
        rotate_left
        · rintro w' ⟨s0, s1, s2, s3, s4, s5⟩
          go_simp
          with_reducible rfl
        rotate_left
        · simp only [Act.put, List.setIfInBounds_toArray, List.set_cons_zero, List.set_cons_succ, i64_w, i32_w]
          rfl
        refine take_ (i := 1) (N := some 23) (v := ?_) (a' := ?_) #[true, true, false, false, false] rfl rfl (by kernel_rfl) (fun _ _ _ h => h) (Or.inl ⟨by rfl, ?_⟩) hHeld ?_ ?_
        rotate_left
        · rintro w' ⟨s0, s1, s2, s3, s4, s5⟩
          go_simp
          with_reducible rfl
        rotate_left
        · simp only [Act.put, List.setIfInBounds_toArray, List.set_cons_zero, List.set_cons_succ, i64_w, i32_w]
          rfl
        refine one_ (i := 2) (N := some 24) #[true, true, true, false, false] rfl rfl (by kernel_rfl) (by decide) (fun K hK => ?_)
        refine goes_ Try.func42 (by kernel_rfl) rfl #[.agg #[.slice A0_0 l0_0.length c0_0, .int .i64 a0_1, .slice A0_2 l0_2.length c0_2]] (by rfl) rfl rfl (by (try simp only [List.map_toArray, List.map_cons, List.map_nil]); first | done | rfl | (simp only [List.length_drop, List.length_take]; rfl)) ?_
        with_reducible refine (laws_toFunc.calls k _ _ l0_0 a0_1 _ _ l0_2 t693 t696 t697 _ ?side1 ?side2 ?side3 ?side4 A12.out).mono ?_
        (case side1 => repeat (first | exact (Kd.C_below HR0_0.out HB.out) | (with_reducible refine Kd.C_alloc ?_ _) | (with_reducible refine Kd.C_drewN ?_ _) | (with_reducible refine Kd.C_drew ?_)))
        (case side2 => exact HC0_0.out)
        (case side3 => repeat (first | exact (Kd.C_below HR0_2.out HB.out) | (with_reducible refine Kd.C_alloc ?_ _) | (with_reducible refine Kd.C_drewN ?_ _) | (with_reducible refine Kd.C_drew ?_)))
        (case side4 => exact HC0_2.out)
        rintro e w53 ⟨v694, v698, rfl, ho0, ho1, hb⟩
        refine ⟨_, rfl, ?_⟩
        have n0_ := Aside0.mk (Kd.R_elder' (by (with_reducible repeat (first | apply Kd.R_alloc | apply Kd.R_drewN | apply Kd.R_drew)); exact HO678.out) (Kd.R_base ho0) hb)
        have n1_ := Aside0.mk (Kd.R_mono (Kd.R_told (Kd.R_told (Kd.R_old (by (with_reducible repeat (first | apply Kd.R_alloc | apply Kd.R_drewN | apply Kd.R_drew)); exact HO682.out) hb) (Kd.R_base ho0)) (Kd.R_base ho1)) (fun _ h_ => h_.1))
        have n2_ := Aside0.mk (Kd.R_elder' (by (with_reducible repeat (first | apply Kd.R_alloc | apply Kd.R_drewN | apply Kd.R_drew)); exact HO686.out) (Kd.R_base ho0) hb)
        have n3_ := Aside0.mk (Kd.R_mono (Kd.R_told (Kd.R_told (Kd.R_old (by (with_reducible repeat (first | apply Kd.R_alloc | apply Kd.R_drewN | apply Kd.R_drew)); exact HO690.out) hb) (Kd.R_base ho0)) (Kd.R_base ho1)) (fun _ h_ => h_.1))
        have n4_ := Aside0.mk (Kd.R_lower (Kd.R_new' (Kd.R_new' ho0 (Kd.R_lt (by (with_reducible repeat (first | apply Kd.R_alloc | apply Kd.R_drewN | apply Kd.R_drew)); exact HO678.out))) (Kd.R_lt (by (with_reducible repeat (first | apply Kd.R_alloc | apply Kd.R_drewN | apply Kd.R_drew)); exact HO686.out))) (below_size (by repeat (first | (with_reducible first | exact HB.out | apply below_alloc | apply pw_below_drewN | apply below_drew1 | refine below_set ?_ GE674.out | refine below_set ?_ GE691.out) | exact HB.out))))
        have n5_ := Aside0.mk (Kd.R_lower (Kd.R_new' (Kd.R_new' (Kd.R_new' (Kd.R_new' ho1 (Kd.R_lt (by (with_reducible repeat (first | apply Kd.R_alloc | apply Kd.R_drewN | apply Kd.R_drew)); exact HO678.out))) (Kd.R_lt (by (with_reducible repeat (first | apply Kd.R_alloc | apply Kd.R_drewN | apply Kd.R_drew)); exact HO682.out))) (Kd.R_lt (by (with_reducible repeat (first | apply Kd.R_alloc | apply Kd.R_drewN | apply Kd.R_drew)); exact HO686.out))) (Kd.R_lt (by (with_reducible repeat (first | apply Kd.R_alloc | apply Kd.R_drewN | apply Kd.R_drew)); exact HO690.out))) (below_size (by repeat (first | (with_reducible first | exact HB.out | apply below_alloc | apply pw_below_drewN | apply below_drew1 | refine below_set ?_ GE674.out | refine below_set ?_ GE691.out) | exact HB.out))))
        have n6_ := Aside0.mk (blk_below (g := gb674) (o := .cells #[.slice A0_0 l0_0.length c0_0, .int .i64 a0_1, .slice A0_2 l0_2.length c0_2] 54 (0, 0)) (by (with_reducible repeat (first | refine blk_drewN ?_ _ | refine blk_drew ?_ | refine blk_alloc ?_ _)); exact BK674.out) hb)
        have n7_ := Aside0.mk (blk_below (g := gb691) (o := .cells #[.slice Ao47 t684.length co47, .int .i64 t687, .slice Ao50 t688.length co50] 41 (0, 0)) (by (with_reducible repeat (first | refine blk_drewN ?_ _ | refine blk_drew ?_ | refine blk_alloc ?_ _)); exact BK691.out) hb)
        have n8_ := Aside0.mk (below_step (by repeat (first | (with_reducible first | exact HB.out | apply below_alloc | apply pw_below_drewN | apply below_drew1 | refine below_set ?_ GE674.out | refine below_set ?_ GE691.out) | exact HB.out)) hb)
        clear HO678
        clear HO682
        clear HO686
        clear HO690
        clear BK674
        clear BK691
        clear HB
        have HO678 := n0_
        have HO682 := n1_
        have HO686 := n2_
        have HO690 := n3_
        have HO695 := n4_
        have HO699 := n5_
        have BK674 := n6_
        have BK691 := n7_
        have HB := n8_
        clear n0_ n1_ n2_ n3_ n4_ n5_ n6_ n7_ n8_
        (try clear hb)
        (try clear hb2)
        (try clear hk)
        (try clear hi)
        (try clear ho0)
        (try clear ho1)
        obtain ⟨Ao54, co54, eo54⟩ := Kd.R_slice HO695.out
        (first | subst eo54 | (injection eo54 with f1_ f2_ f3_; have f4_ := f1_.symm; have f5_ := f3_.symm; clear f1_ f2_ f3_; subst f4_; subst f5_))
        obtain ⟨Ao55, co55, eo55⟩ := Kd.R_slice HO699.out
        (first | subst eo55 | (injection eo55 with f1_ f2_ f3_; have f4_ := f1_.symm; have f5_ := f3_.symm; clear f1_ f2_ f3_; subst f4_; subst f5_))
        refine hK.out _ _ ⟨(blk_cell BK691.out 0).trans rfl, (blk_cell BK691.out 1).trans rfl, (blk_cell BK691.out 2).trans rfl, (blk_cell BK674.out 0).trans rfl, (blk_cell BK674.out 1).trans rfl, (blk_cell BK674.out 2).trans rfl⟩ (fun hHeld => ?_)
        clear hK K
        refine norm_ (a' := ?_) ?_ ?_
        rotate_left
        · show Act.put _ (some 24) _ = _
          simp only [Act.put, List.setIfInBounds_toArray, List.set_cons_zero, List.set_cons_succ, i64_w, i32_w]
          rfl
        refine one_ (i := 3) (N := some 25) #[true, true, true, true, false] rfl rfl (by kernel_rfl) (by decide) (fun K hK => ?_)
        refine goes_ Try.func44 (by kernel_rfl) rfl #[.agg #[.slice Ao47 t684.length co47, .int .i64 t687, .slice Ao50 t688.length co50], .agg #[.slice Ao54 t693.length co54, .int .i64 t696, .slice Ao55 t697.length co55]] (by rfl) rfl rfl (by (try simp only [List.map_toArray, List.map_cons, List.map_nil]); first | done | rfl | (simp only [List.length_drop, List.length_take]; rfl)) ?_
        with_reducible refine (laws_eqFunc.calls k _ _ t684 t687 _ _ t688 _ _ t693 t696 _ _ t697 false _ ?side1 ?side2 ?side3 ?side4 ?side5 ?side6 ?side7 ?side8 A13.out).mono ?_
        (case side1 => repeat (first | exact (Kd.R_reads' HO686.out).2.2 | (with_reducible refine Kd.C_alloc ?_ _) | (with_reducible refine Kd.C_drewN ?_ _) | (with_reducible refine Kd.C_drew ?_)))
        (case side2 => exact (Kd.R_reads' HO686.out).2.1)
        (case side3 => repeat (first | exact (Kd.R_reads' HO690.out).2.2 | (with_reducible refine Kd.C_alloc ?_ _) | (with_reducible refine Kd.C_drewN ?_ _) | (with_reducible refine Kd.C_drew ?_)))
        (case side4 => exact (Kd.R_reads' HO690.out).2.1)
        (case side5 => repeat (first | exact (Kd.R_reads' HO695.out).2.2 | (with_reducible refine Kd.C_alloc ?_ _) | (with_reducible refine Kd.C_drewN ?_ _) | (with_reducible refine Kd.C_drew ?_)))
        (case side6 => exact (Kd.R_reads' HO695.out).2.1)
        (case side7 => repeat (first | exact (Kd.R_reads' HO699.out).2.2 | (with_reducible refine Kd.C_alloc ?_ _) | (with_reducible refine Kd.C_drewN ?_ _) | (with_reducible refine Kd.C_drew ?_)))
        (case side8 => exact (Kd.R_reads' HO699.out).2.1)
        rintro e w56 ⟨rfl, hb⟩
        refine ⟨_, rfl, ?_⟩
        have n0_ := Aside0.mk (Kd.R_below (by (with_reducible repeat (first | apply Kd.R_alloc | apply Kd.R_drewN | apply Kd.R_drew)); exact HO678.out) hb)
        have n1_ := Aside0.mk (Kd.R_below (by (with_reducible repeat (first | apply Kd.R_alloc | apply Kd.R_drewN | apply Kd.R_drew)); exact HO682.out) hb)
        have n2_ := Aside0.mk (Kd.R_below (by (with_reducible repeat (first | apply Kd.R_alloc | apply Kd.R_drewN | apply Kd.R_drew)); exact HO686.out) hb)
        have n3_ := Aside0.mk (Kd.R_below (by (with_reducible repeat (first | apply Kd.R_alloc | apply Kd.R_drewN | apply Kd.R_drew)); exact HO690.out) hb)
        have n4_ := Aside0.mk (Kd.R_below (by (with_reducible repeat (first | apply Kd.R_alloc | apply Kd.R_drewN | apply Kd.R_drew)); exact HO695.out) hb)
        have n5_ := Aside0.mk (Kd.R_below (by (with_reducible repeat (first | apply Kd.R_alloc | apply Kd.R_drewN | apply Kd.R_drew)); exact HO699.out) hb)
        have n6_ := Aside0.mk (blk_below (g := gb674) (o := .cells #[.slice A0_0 l0_0.length c0_0, .int .i64 a0_1, .slice A0_2 l0_2.length c0_2] 54 (0, 0)) (by (with_reducible repeat (first | refine blk_drewN ?_ _ | refine blk_drew ?_ | refine blk_alloc ?_ _)); exact BK674.out) hb)
        have n7_ := Aside0.mk (blk_below (g := gb691) (o := .cells #[.slice Ao47 t684.length co47, .int .i64 t687, .slice Ao50 t688.length co50] 41 (0, 0)) (by (with_reducible repeat (first | refine blk_drewN ?_ _ | refine blk_drew ?_ | refine blk_alloc ?_ _)); exact BK691.out) hb)
        have n8_ := Aside0.mk (below_step (by repeat (first | (with_reducible first | exact HB.out | apply below_alloc | apply pw_below_drewN | apply below_drew1 | refine below_set ?_ GE674.out | refine below_set ?_ GE691.out) | exact HB.out)) hb)
        clear HO678
        clear HO682
        clear HO686
        clear HO690
        clear HO695
        clear HO699
        clear BK674
        clear BK691
        clear HB
        have HO678 := n0_
        have HO682 := n1_
        have HO686 := n2_
        have HO690 := n3_
        have HO695 := n4_
        have HO699 := n5_
        have BK674 := n6_
        have BK691 := n7_
        have HB := n8_
        clear n0_ n1_ n2_ n3_ n4_ n5_ n6_ n7_ n8_
        (try clear hb)
        (try clear hb2)
        (try clear hk)
        (try clear hi)
        refine hK.out _ _ ⟨(blk_cell BK691.out 0).trans rfl, (blk_cell BK691.out 1).trans rfl, (blk_cell BK691.out 2).trans rfl, (blk_cell BK674.out 0).trans rfl, (blk_cell BK674.out 1).trans rfl, (blk_cell BK674.out 2).trans rfl⟩ (fun hHeld => ?_)
        clear hK K
        refine norm_ (a' := ?_) ?_ ?_
        rotate_left
        · show Act.put _ (some 25) _ = _
          simp only [Act.put, List.setIfInBounds_toArray, List.set_cons_zero, List.set_cons_succ, i64_w, i32_w]
          rfl
        refine pure_ (i := 4) (N := some 26) (v := ?_) (a' := ?_) #[true, true, true, true, true] rfl rfl (by kernel_rfl) (fun _ _ _ h => h) (Or.inl ⟨by rfl, ?_⟩) ?_ ?_
        rotate_left
        · intro w'
          go_simp
          with_reducible rfl
        rotate_left
        · simp only [Act.put, List.setIfInBounds_toArray, List.set_cons_zero, List.set_cons_succ, i64_w, i32_w]
          rfl
        refine done_ (by kernel_rfl) ?_
        try go_wp2
        go_ret
        exact ⟨by first | rfl | (simp [errW_none, errW_some] <;> rfl) | (simp [*, errW_none, errW_some] <;> rfl), by repeat (first | (with_reducible first | exact HB.out | apply below_alloc | apply pw_below_drewN | apply below_drew1 | refine below_set ?_ GE674.out | refine below_set ?_ GE691.out) | exact HB.out)⟩
    · rw [if_neg c11] at H
      have c11b0 : (t692 == t683) = false := beq_eq_false_iff_ne.mpr c11
      have c11b1 : (t692 != t683) = true := bne_iff_ne.mpr c11
      obtain rfl := Option.some.inj H
      go_enter Try.func8, Try.ntmps8
      go_wp2_with (first | ((with_reducible refine gate_dst (N := 1) rfl ?_); refine box_event ?hg (N := 1) ?hd (cs := #[.slice A0_0 l0_0.length c0_0, .int .i64 a0_1, .slice A0_2 l0_2.length c0_2]) (t := 54) ?hr ?_; (case hd => rfl); (case hg => rfl); (case hr => first | (go_simp; done) | (go_simp; rfl)); intro gb674 hg w57 hbox hb; have n0_ := Aside0.mk (below_step (by repeat (first | (with_reducible first | exact HB.out | apply below_alloc | apply pw_below_drewN | apply below_drew1) | exact HB.out)) hb); have n1_ := Aside0.mk (hbox); have n2_ := Aside0.mk ((by rw [hg]; exact (below_size (by repeat (first | (with_reducible first | exact HB.out | apply below_alloc | apply pw_below_drewN | apply below_drew1) | exact HB.out))) : w.heap.size ≤ gb674)); have n3_ := Aside0.mk ((by rw [hg]; exact (below_size (by repeat (first | (with_reducible first | exact HB.out | apply below_alloc | apply pw_below_drewN | apply below_drew1) | exact HB.out))) : w.heap.size ≤ gb674)); clear HB; have HB := n0_; have BK674 := n1_; have GW674 := n2_; have GE674 := n3_; clear n0_ n1_ n2_ n3_; clear hb hbox hg; have hcz58_0 : w57.cell? ⟨gb674, 0, none⟩ = some (.slice A0_0 l0_0.length c0_0) := (blk_cell BK674.out 0).trans rfl; have hcz58_1 : w57.cell? ⟨gb674, 1, none⟩ = some (.int .i64 a0_1) := (blk_cell BK674.out 1).trans rfl; have hcz58_2 : w57.cell? ⟨gb674, 2, none⟩ = some (.slice A0_2 l0_2.length c0_2) := (blk_cell BK674.out 2).trans rfl; have hfz58_0 := blk_frozen BK674.out 0; have hfz58_1 := blk_frozen BK674.out 1; have hfz58_2 := blk_frozen BK674.out 2) | ((with_reducible refine gate_callee (f := 40) rfl ?_); refine goesL_ (some 9) rfl rfl Try.func40 (by kernel_rfl) rfl #[.agg #[.slice A0_0 l0_0.length c0_0, .int .i64 a0_1, .slice A0_2 l0_2.length c0_2], .int .i64 1048576] rfl (by (try simp only [List.map_toArray, List.map_cons, List.map_nil]); first | done | rfl | (simp only [List.length_drop, List.length_take]; rfl)) ?_; (with_reducible refine (laws_szFunc.calls k _ _ l0_0 a0_1 _ _ l0_2 1048576 t675 _ ?side1 ?side2 ?side3 ?side4 A2.out).mono ?_); (case side1 => repeat (first | exact (Kd.C_below HR0_0.out HB.out) | (with_reducible refine Kd.C_alloc ?_ _) | (with_reducible refine Kd.C_drewN ?_ _) | (with_reducible refine Kd.C_drew ?_))); (case side2 => exact HC0_0.out); (case side3 => repeat (first | exact (Kd.C_below HR0_2.out HB.out) | (with_reducible refine Kd.C_alloc ?_ _) | (with_reducible refine Kd.C_drewN ?_ _) | (with_reducible refine Kd.C_drew ?_))); (case side4 => exact HC0_2.out); rintro e w59 ⟨rfl, hb⟩; refine ⟨_, rfl, ?_⟩; have n0_ := Aside0.mk (blk_below (g := gb674) (o := .cells #[.slice A0_0 l0_0.length c0_0, .int .i64 a0_1, .slice A0_2 l0_2.length c0_2] 54 (0, 0)) (by (with_reducible repeat (first | refine blk_drewN ?_ _ | refine blk_drew ?_ | refine blk_alloc ?_ _)); exact BK674.out) hb); have n1_ := Aside0.mk (below_step (by repeat (first | (with_reducible first | exact HB.out | apply below_alloc | apply pw_below_drewN | apply below_drew1 | refine below_set ?_ GE674.out) | exact HB.out)) hb); clear BK674; clear HB; have BK674 := n0_; have HB := n1_; clear n0_ n1_; (try clear hb); (try clear hb2); (try clear hk); (try clear hi); have hcz60_0 : w59.cell? ⟨gb674, 0, none⟩ = some (.slice A0_0 l0_0.length c0_0) := (blk_cell BK674.out 0).trans rfl; have hcz60_1 : w59.cell? ⟨gb674, 1, none⟩ = some (.int .i64 a0_1) := (blk_cell BK674.out 1).trans rfl; have hcz60_2 : w59.cell? ⟨gb674, 2, none⟩ = some (.slice A0_2 l0_2.length c0_2) := (blk_cell BK674.out 2).trans rfl; have hfz60_0 := blk_frozen BK674.out 0; have hfz60_1 := blk_frozen BK674.out 1; have hfz60_2 := blk_frozen BK674.out 2) | ((with_reducible refine gate_callee (f := 42) rfl ?_); refine goesL_ (some 13) rfl rfl Try.func42 (by kernel_rfl) rfl #[.agg #[.slice A0_0 l0_0.length c0_0, .int .i64 a0_1, .slice A0_2 l0_2.length c0_2]] rfl (by (try simp only [List.map_toArray, List.map_cons, List.map_nil]); first | done | rfl | (simp only [List.length_drop, List.length_take]; rfl)) ?_; (with_reducible refine (laws_toFunc.calls k _ _ l0_0 a0_1 _ _ l0_2 t676 t679 t680 _ ?side1 ?side2 ?side3 ?side4 A7.out).mono ?_); (case side1 => repeat (first | exact (Kd.C_below HR0_0.out HB.out) | (with_reducible refine Kd.C_alloc ?_ _) | (with_reducible refine Kd.C_drewN ?_ _) | (with_reducible refine Kd.C_drew ?_))); (case side2 => exact HC0_0.out); (case side3 => repeat (first | exact (Kd.C_below HR0_2.out HB.out) | (with_reducible refine Kd.C_alloc ?_ _) | (with_reducible refine Kd.C_drewN ?_ _) | (with_reducible refine Kd.C_drew ?_))); (case side4 => exact HC0_2.out); rintro e w61 ⟨v677, v681, rfl, ho0, ho1, hb⟩; refine ⟨_, rfl, ?_⟩; have n0_ := Aside0.mk (Kd.R_lower ho0 (below_size (by repeat (first | (with_reducible first | exact HB.out | apply below_alloc | apply pw_below_drewN | apply below_drew1 | refine below_set ?_ GE674.out) | exact HB.out)))); have n1_ := Aside0.mk (Kd.R_lower ho1 (below_size (by repeat (first | (with_reducible first | exact HB.out | apply below_alloc | apply pw_below_drewN | apply below_drew1 | refine below_set ?_ GE674.out) | exact HB.out)))); have n2_ := Aside0.mk (blk_below (g := gb674) (o := .cells #[.slice A0_0 l0_0.length c0_0, .int .i64 a0_1, .slice A0_2 l0_2.length c0_2] 54 (0, 0)) (by (with_reducible repeat (first | refine blk_drewN ?_ _ | refine blk_drew ?_ | refine blk_alloc ?_ _)); exact BK674.out) hb); have n3_ := Aside0.mk (below_step (by repeat (first | (with_reducible first | exact HB.out | apply below_alloc | apply pw_below_drewN | apply below_drew1 | refine below_set ?_ GE674.out) | exact HB.out)) hb); clear BK674; clear HB; have HO678 := n0_; have HO682 := n1_; have BK674 := n2_; have HB := n3_; clear n0_ n1_ n2_ n3_; (try clear hb); (try clear hb2); (try clear hk); (try clear hi); (try clear ho0); (try clear ho1); obtain ⟨Ao62, co62, eo62⟩ := Kd.R_slice HO678.out; subst eo62; obtain ⟨Ao63, co63, eo63⟩ := Kd.R_slice HO682.out; subst eo63) | ((with_reducible refine gate_callee (f := 41) rfl ?_); refine goesL_ (some 14) rfl rfl Try.func41 (by kernel_rfl) rfl #[.agg #[.slice Ao62 t676.length co62, .int .i64 t679, .slice Ao63 t680.length co63]] rfl (by (try simp only [List.map_toArray, List.map_cons, List.map_nil]); first | done | rfl | (simp only [List.length_drop, List.length_take]; rfl)) ?_; (with_reducible refine (spec_CountOf.calls k _ _ t676 t679 _ _ t680 t683 _ ?side1 ?side2 ?side3 ?side4 A8.out).mono ?_); (case side1 => repeat (first | exact (Kd.R_reads' HO678.out).2.2 | (with_reducible refine Kd.C_alloc ?_ _) | (with_reducible refine Kd.C_drewN ?_ _) | (with_reducible refine Kd.C_drew ?_))); (case side2 => exact (Kd.R_reads' HO678.out).2.1); (case side3 => repeat (first | exact (Kd.R_reads' HO682.out).2.2 | (with_reducible refine Kd.C_alloc ?_ _) | (with_reducible refine Kd.C_drewN ?_ _) | (with_reducible refine Kd.C_drew ?_))); (case side4 => exact (Kd.R_reads' HO682.out).2.1); rintro e w64 ⟨rfl, hb⟩; refine ⟨_, rfl, ?_⟩; have n0_ := Aside0.mk (Kd.R_below (by (with_reducible repeat (first | apply Kd.R_alloc | apply Kd.R_drewN | apply Kd.R_drew)); exact HO678.out) hb); have n1_ := Aside0.mk (Kd.R_below (by (with_reducible repeat (first | apply Kd.R_alloc | apply Kd.R_drewN | apply Kd.R_drew)); exact HO682.out) hb); have n2_ := Aside0.mk (blk_below (g := gb674) (o := .cells #[.slice A0_0 l0_0.length c0_0, .int .i64 a0_1, .slice A0_2 l0_2.length c0_2] 54 (0, 0)) (by (with_reducible repeat (first | refine blk_drewN ?_ _ | refine blk_drew ?_ | refine blk_alloc ?_ _)); exact BK674.out) hb); have n3_ := Aside0.mk (below_step (by repeat (first | (with_reducible first | exact HB.out | apply below_alloc | apply pw_below_drewN | apply below_drew1 | refine below_set ?_ GE674.out) | exact HB.out)) hb); clear HO678; clear HO682; clear BK674; clear HB; have HO678 := n0_; have HO682 := n1_; have BK674 := n2_; have HB := n3_; clear n0_ n1_ n2_ n3_; (try clear hb); (try clear hb2); (try clear hk); (try clear hi); have hcz65_0 : w64.cell? ⟨gb674, 0, none⟩ = some (.slice A0_0 l0_0.length c0_0) := (blk_cell BK674.out 0).trans rfl; have hcz65_1 : w64.cell? ⟨gb674, 1, none⟩ = some (.int .i64 a0_1) := (blk_cell BK674.out 1).trans rfl; have hcz65_2 : w64.cell? ⟨gb674, 2, none⟩ = some (.slice A0_2 l0_2.length c0_2) := (blk_cell BK674.out 2).trans rfl; have hfz65_0 := blk_frozen BK674.out 0; have hfz65_1 := blk_frozen BK674.out 1; have hfz65_2 := blk_frozen BK674.out 2) | ((with_reducible refine gate_callee (f := 42) rfl ?_); refine goesL_ (some 16) rfl rfl Try.func42 (by kernel_rfl) rfl #[.agg #[.slice A0_0 l0_0.length c0_0, .int .i64 a0_1, .slice A0_2 l0_2.length c0_2]] rfl (by (try simp only [List.map_toArray, List.map_cons, List.map_nil]); first | done | rfl | (simp only [List.length_drop, List.length_take]; rfl)) ?_; (with_reducible refine (laws_toFunc.calls k _ _ l0_0 a0_1 _ _ l0_2 t684 t687 t688 _ ?side1 ?side2 ?side3 ?side4 A9.out).mono ?_); (case side1 => repeat (first | exact (Kd.C_below HR0_0.out HB.out) | (with_reducible refine Kd.C_alloc ?_ _) | (with_reducible refine Kd.C_drewN ?_ _) | (with_reducible refine Kd.C_drew ?_))); (case side2 => exact HC0_0.out); (case side3 => repeat (first | exact (Kd.C_below HR0_2.out HB.out) | (with_reducible refine Kd.C_alloc ?_ _) | (with_reducible refine Kd.C_drewN ?_ _) | (with_reducible refine Kd.C_drew ?_))); (case side4 => exact HC0_2.out); rintro e w66 ⟨v685, v689, rfl, ho0, ho1, hb⟩; refine ⟨_, rfl, ?_⟩; have n0_ := Aside0.mk (Kd.R_elder' (by (with_reducible repeat (first | apply Kd.R_alloc | apply Kd.R_drewN | apply Kd.R_drew)); exact HO678.out) (Kd.R_base ho0) hb); have n1_ := Aside0.mk (Kd.R_mono (Kd.R_told (Kd.R_told (Kd.R_old (by (with_reducible repeat (first | apply Kd.R_alloc | apply Kd.R_drewN | apply Kd.R_drew)); exact HO682.out) hb) (Kd.R_base ho0)) (Kd.R_base ho1)) (fun _ h_ => h_.1)); have n2_ := Aside0.mk (Kd.R_lower (Kd.R_new' ho0 (Kd.R_lt (by (with_reducible repeat (first | apply Kd.R_alloc | apply Kd.R_drewN | apply Kd.R_drew)); exact HO678.out))) (below_size (by repeat (first | (with_reducible first | exact HB.out | apply below_alloc | apply pw_below_drewN | apply below_drew1 | refine below_set ?_ GE674.out) | exact HB.out)))); have n3_ := Aside0.mk (Kd.R_lower (Kd.R_new' (Kd.R_new' ho1 (Kd.R_lt (by (with_reducible repeat (first | apply Kd.R_alloc | apply Kd.R_drewN | apply Kd.R_drew)); exact HO678.out))) (Kd.R_lt (by (with_reducible repeat (first | apply Kd.R_alloc | apply Kd.R_drewN | apply Kd.R_drew)); exact HO682.out))) (below_size (by repeat (first | (with_reducible first | exact HB.out | apply below_alloc | apply pw_below_drewN | apply below_drew1 | refine below_set ?_ GE674.out) | exact HB.out)))); have n4_ := Aside0.mk (blk_below (g := gb674) (o := .cells #[.slice A0_0 l0_0.length c0_0, .int .i64 a0_1, .slice A0_2 l0_2.length c0_2] 54 (0, 0)) (by (with_reducible repeat (first | refine blk_drewN ?_ _ | refine blk_drew ?_ | refine blk_alloc ?_ _)); exact BK674.out) hb); have n5_ := Aside0.mk (below_step (by repeat (first | (with_reducible first | exact HB.out | apply below_alloc | apply pw_below_drewN | apply below_drew1 | refine below_set ?_ GE674.out) | exact HB.out)) hb); clear HO678; clear HO682; clear BK674; clear HB; have HO678 := n0_; have HO682 := n1_; have HO686 := n2_; have HO690 := n3_; have BK674 := n4_; have HB := n5_; clear n0_ n1_ n2_ n3_ n4_ n5_; (try clear hb); (try clear hb2); (try clear hk); (try clear hi); (try clear ho0); (try clear ho1)) | ((with_reducible refine gate_dst (N := 5) rfl ?_); refine box_event ?hg (N := 5) ?hd (cs := #[.slice none 0 0, .int .i64 0, .slice none 0 0]) (t := 41) ?hr ?_; (case hd => rfl); (case hg => rfl); (case hr => first | (go_simp; done) | (go_simp; rfl)); intro gb691 hg w67 hbox hb; have n0_ := Aside0.mk (Kd.R_below (by (with_reducible repeat (first | apply Kd.R_alloc | apply Kd.R_drewN | apply Kd.R_drew)); exact HO678.out) hb); have n1_ := Aside0.mk (Kd.R_below (by (with_reducible repeat (first | apply Kd.R_alloc | apply Kd.R_drewN | apply Kd.R_drew)); exact HO682.out) hb); have n2_ := Aside0.mk (Kd.R_below (by (with_reducible repeat (first | apply Kd.R_alloc | apply Kd.R_drewN | apply Kd.R_drew)); exact HO686.out) hb); have n3_ := Aside0.mk (Kd.R_below (by (with_reducible repeat (first | apply Kd.R_alloc | apply Kd.R_drewN | apply Kd.R_drew)); exact HO690.out) hb); have n4_ := Aside0.mk (blk_below (g := gb674) (o := .cells #[.slice A0_0 l0_0.length c0_0, .int .i64 a0_1, .slice A0_2 l0_2.length c0_2] 54 (0, 0)) (by (with_reducible repeat (first | refine blk_drewN ?_ _ | refine blk_drew ?_ | refine blk_alloc ?_ _)); exact BK674.out) hb); have n5_ := Aside0.mk (below_step (by repeat (first | (with_reducible first | exact HB.out | apply below_alloc | apply pw_below_drewN | apply below_drew1 | refine below_set ?_ GE674.out) | exact HB.out)) hb); have n6_ := Aside0.mk (hbox); have n7_ := Aside0.mk ((by rw [hg]; exact (below_size (by repeat (first | (with_reducible first | exact HB.out | apply below_alloc | apply pw_below_drewN | apply below_drew1 | refine below_set ?_ GE674.out) | exact HB.out))) : w.heap.size ≤ gb691)); have n8_ := Aside0.mk ((by rw [hg]; exact (below_size (by repeat (first | (with_reducible first | exact HB.out | apply below_alloc | apply pw_below_drewN | apply below_drew1 | refine below_set ?_ GE674.out) | exact HB.out))) : w.heap.size ≤ gb691)); have n9_ := Aside0.mk ((by rw [hg]; exact Nat.ne_of_lt (blk_lt (g := gb674) (o := .cells #[.slice A0_0 l0_0.length c0_0, .int .i64 a0_1, .slice A0_2 l0_2.length c0_2] 54 (0, 0)) (by (with_reducible repeat (first | refine blk_drewN ?_ _ | refine blk_drew ?_ | refine blk_alloc ?_ _)); exact BK674.out)) : gb674 ≠ gb691)); have n10_ := Aside0.mk ((by rw [hg]; exact Nat.ne_of_gt (blk_lt (g := gb674) (o := .cells #[.slice A0_0 l0_0.length c0_0, .int .i64 a0_1, .slice A0_2 l0_2.length c0_2] 54 (0, 0)) (by (with_reducible repeat (first | refine blk_drewN ?_ _ | refine blk_drew ?_ | refine blk_alloc ?_ _)); exact BK674.out)) : gb691 ≠ gb674)); clear HO678; clear HO682; clear HO686; clear HO690; clear BK674; clear HB; have HO678 := n0_; have HO682 := n1_; have HO686 := n2_; have HO690 := n3_; have BK674 := n4_; have HB := n5_; have BK691 := n6_; have GW691 := n7_; have GE691 := n8_; have NB674_691 := n9_; have NB691_674 := n10_; clear n0_ n1_ n2_ n3_ n4_ n5_ n6_ n7_ n8_ n9_ n10_; clear hb hbox hg; obtain ⟨Ao68, co68, eo68⟩ := Kd.R_slice HO686.out; subst eo68; have hnb69 := NB691_674.out; have hnc69 := NB674_691.out; have hcz70_0 : w67.cell? ⟨gb691, 0, none⟩ = some (.slice none 0 0) := (blk_cell BK691.out 0).trans rfl; have hcz70_1 : w67.cell? ⟨gb691, 1, none⟩ = some (.int .i64 0) := (blk_cell BK691.out 1).trans rfl; have hcz70_2 : w67.cell? ⟨gb691, 2, none⟩ = some (.slice none 0 0) := (blk_cell BK691.out 2).trans rfl; have hfz70_0 := blk_frozen BK691.out 0; have hfz70_1 := blk_frozen BK691.out 1; have hfz70_2 := blk_frozen BK691.out 2; obtain ⟨Ao71, co71, eo71⟩ := Kd.R_slice HO690.out; subst eo71) | ((with_reducible refine gate_callee (f := 43) rfl ?_); refine goesL_ (some 18) rfl rfl Try.func43 (by kernel_rfl) rfl #[.agg #[.slice Ao68 t684.length co68, .int .i64 t687, .slice Ao71 t688.length co71]] rfl (by (try simp only [List.map_toArray, List.map_cons, List.map_nil]); first | done | rfl | (simp only [List.length_drop, List.length_take]; rfl)) ?_; (with_reducible refine (impl_CountOf.calls k _ _ t684 t687 _ _ t688 t692 _ ?side1 ?side2 ?side3 ?side4 A10.out).mono ?_); (case side1 => refine (Kd.R_reads' (e := 2) (base := w.heap.size) (ok := fun k_ => (True ∧ some k_ ≠ (.slice Ao62 t676.length co62 : Value).ownBlock)) (n := t684.length) (c := co68) ?_).2.2; exact (by (with_reducible repeat (first | apply Kd.R_alloc | apply Kd.R_drewN | apply Kd.R_drew)); exact (Kd.R_mono (Kd.R_far (p := ⟨gb691, 2, none⟩) (Kd.R_far (p := ⟨gb691, 1, none⟩) (Kd.R_far (p := ⟨gb691, 0, none⟩) (Kd.R_types HO686.out BK691.out (by decide)) (fun _ hk => hk.2) (.slice Ao68 t684.length co68)) (fun _ hk => hk.2) (.int .i64 t687)) (fun _ hk => hk.2) (.slice Ao71 t688.length co71)) (fun _ h_ => h_.1)))); (case side2 => exact (Kd.R_reads' HO686.out).2.1); (case side3 => refine (Kd.R_reads' (e := 88) (base := w.heap.size) (ok := fun k_ => ((some k_ ≠ (.slice Ao68 t684.length co68 : Value).ownBlock ∧ some k_ ≠ (.slice Ao62 t676.length co62 : Value).ownBlock) ∧ some k_ ≠ (.slice Ao63 t680.length co63 : Value).ownBlock)) (n := t688.length) (c := co71) ?_).2.2; exact (by (with_reducible repeat (first | apply Kd.R_alloc | apply Kd.R_drewN | apply Kd.R_drew)); exact (Kd.R_mono (Kd.R_far (p := ⟨gb691, 2, none⟩) (Kd.R_far (p := ⟨gb691, 1, none⟩) (Kd.R_far (p := ⟨gb691, 0, none⟩) (Kd.R_types HO690.out BK691.out (by decide)) (fun _ hk => hk.2) (.slice Ao68 t684.length co68)) (fun _ hk => hk.2) (.int .i64 t687)) (fun _ hk => hk.2) (.slice Ao71 t688.length co71)) (fun _ h_ => h_.1)))); (case side4 => exact (Kd.R_reads' HO690.out).2.1); rintro e w72 ⟨rfl, hb⟩; refine ⟨_, rfl, ?_⟩; have n0_ := Aside0.mk (Kd.R_below (by (with_reducible repeat (first | apply Kd.R_alloc | apply Kd.R_drewN | apply Kd.R_drew)); exact (Kd.R_mono (Kd.R_far (p := ⟨gb691, 2, none⟩) (Kd.R_far (p := ⟨gb691, 1, none⟩) (Kd.R_far (p := ⟨gb691, 0, none⟩) (Kd.R_types HO678.out BK691.out (by decide)) (fun _ hk => hk.2) (.slice Ao68 t684.length co68)) (fun _ hk => hk.2) (.int .i64 t687)) (fun _ hk => hk.2) (.slice Ao71 t688.length co71)) (fun _ h_ => h_.1))) hb); have n1_ := Aside0.mk (Kd.R_below (by (with_reducible repeat (first | apply Kd.R_alloc | apply Kd.R_drewN | apply Kd.R_drew)); exact (Kd.R_mono (Kd.R_far (p := ⟨gb691, 2, none⟩) (Kd.R_far (p := ⟨gb691, 1, none⟩) (Kd.R_far (p := ⟨gb691, 0, none⟩) (Kd.R_types HO682.out BK691.out (by decide)) (fun _ hk => hk.2) (.slice Ao68 t684.length co68)) (fun _ hk => hk.2) (.int .i64 t687)) (fun _ hk => hk.2) (.slice Ao71 t688.length co71)) (fun _ h_ => h_.1))) hb); have n2_ := Aside0.mk (Kd.R_below (by (with_reducible repeat (first | apply Kd.R_alloc | apply Kd.R_drewN | apply Kd.R_drew)); exact (Kd.R_mono (Kd.R_far (p := ⟨gb691, 2, none⟩) (Kd.R_far (p := ⟨gb691, 1, none⟩) (Kd.R_far (p := ⟨gb691, 0, none⟩) (Kd.R_types HO686.out BK691.out (by decide)) (fun _ hk => hk.2) (.slice Ao68 t684.length co68)) (fun _ hk => hk.2) (.int .i64 t687)) (fun _ hk => hk.2) (.slice Ao71 t688.length co71)) (fun _ h_ => h_.1))) hb); have n3_ := Aside0.mk (Kd.R_below (by (with_reducible repeat (first | apply Kd.R_alloc | apply Kd.R_drewN | apply Kd.R_drew)); exact (Kd.R_mono (Kd.R_far (p := ⟨gb691, 2, none⟩) (Kd.R_far (p := ⟨gb691, 1, none⟩) (Kd.R_far (p := ⟨gb691, 0, none⟩) (Kd.R_types HO690.out BK691.out (by decide)) (fun _ hk => hk.2) (.slice Ao68 t684.length co68)) (fun _ hk => hk.2) (.int .i64 t687)) (fun _ hk => hk.2) (.slice Ao71 t688.length co71)) (fun _ h_ => h_.1))) hb); have n4_ := Aside0.mk (blk_below (g := gb674) (o := .cells #[.slice A0_0 l0_0.length c0_0, .int .i64 a0_1, .slice A0_2 l0_2.length c0_2] 54 (0, 0)) (by (with_reducible repeat (first | refine blk_drewN ?_ _ | refine blk_drew ?_ | refine blk_alloc ?_ _)); refine blk_far ?_ NB674_691.out _; (with_reducible repeat (first | refine blk_drewN ?_ _ | refine blk_drew ?_ | refine blk_alloc ?_ _)); refine blk_far ?_ NB674_691.out _; (with_reducible repeat (first | refine blk_drewN ?_ _ | refine blk_drew ?_ | refine blk_alloc ?_ _)); refine blk_far ?_ NB674_691.out _; (with_reducible repeat (first | refine blk_drewN ?_ _ | refine blk_drew ?_ | refine blk_alloc ?_ _)); exact BK674.out) hb); have n5_ := Aside0.mk (blk_below (g := gb691) (o := .cells #[.slice Ao68 t684.length co68, .int .i64 t687, .slice Ao71 t688.length co71] 41 (0, 0)) (by (with_reducible repeat (first | refine blk_drewN ?_ _ | refine blk_drew ?_ | refine blk_alloc ?_ _)); refine blk_put (cs := #[.slice Ao68 t684.length co68, .int .i64 t687, .slice none 0 0]) ?_ 2 _ rfl; (with_reducible repeat (first | refine blk_drewN ?_ _ | refine blk_drew ?_ | refine blk_alloc ?_ _)); refine blk_put (cs := #[.slice Ao68 t684.length co68, .int .i64 0, .slice none 0 0]) ?_ 1 _ rfl; (with_reducible repeat (first | refine blk_drewN ?_ _ | refine blk_drew ?_ | refine blk_alloc ?_ _)); refine blk_put (cs := #[.slice none 0 0, .int .i64 0, .slice none 0 0]) ?_ 0 _ rfl; (with_reducible repeat (first | refine blk_drewN ?_ _ | refine blk_drew ?_ | refine blk_alloc ?_ _)); exact BK691.out) hb); have n6_ := Aside0.mk (below_step (by repeat (first | (with_reducible first | exact HB.out | apply below_alloc | apply pw_below_drewN | apply below_drew1 | refine below_set ?_ GE674.out | refine below_set ?_ GE691.out) | exact HB.out)) hb); clear HO678; clear HO682; clear HO686; clear HO690; clear BK674; clear BK691; clear HB; have HO678 := n0_; have HO682 := n1_; have HO686 := n2_; have HO690 := n3_; have BK674 := n4_; have BK691 := n5_; have HB := n6_; clear n0_ n1_ n2_ n3_ n4_ n5_ n6_; (try clear hb); (try clear hb2); (try clear hk); (try clear hi)))
      go_ret
      exact ⟨by first | rfl | (simp [errW_none, errW_some] <;> rfl) | (simp [*, errW_none, errW_some] <;> rfl), by repeat (first | (with_reducible first | exact HB.out | apply below_alloc | apply pw_below_drewN | apply below_drew1 | refine below_set ?_ GE674.out | refine below_set ?_ GE691.out) | exact HB.out)⟩

end Go.Proofs.Ytjkbafcepblacaa.X
namespace Go.Proofs.Ytjkbafcepblacaa.X
open Go.RowKit Go.Proofs.YtjkbafcepblacaaW.PrintWords Go.Proofs.YtjkbafcepblacaaW.PrintLast Go.Proofs.YtjkbafcepblacaaW.PrintMore
/-- What is known of a number that was read: it is of its kind. -/
def wfInt (k : IntKind) (n : Int) : Prop := (Lit.int k n).wf = true
def wfStr (s : ByteArray) : Prop := s.size ≤ 9223372036854775807
/-- .. of a list: its length fits, and so of each element. -/
def wfList {α : Type} (Wf : α → Prop) (l : List α) : Prop := l.length ≤ 9223372036854775807 ∧ ∀ x ∈ l, Wf x
def wf24 (x : S24) : Prop := (wfInt .i64) x.f0 ∧ (wfInt .i64) x.f1 ∧ (wfInt .i64) x.f2 ∧ (wfInt .i64) x.f3 ∧ (wfInt .i64) x.f4 ∧ (wfInt .i64) x.f5 ∧ (wfList (wfInt .i64)) x.f6
def wf132 (x : S132) : Prop := (wfInt .i64) x.f0 ∧ (wfList (wfInt .i64)) x.f1
def wf111 (x : S111) : Prop := (wfInt .i64) x.f0 ∧ (wfInt .i64) x.f1 ∧ (wfInt .i64) x.f2 ∧ (wfInt .i64) x.f3
def wf113 (x : S113) : Prop := (wfList wf132) x.f0 ∧ (wfList wf24) x.f1 ∧ wf111 x.f2
def wf54 (x : S54) : Prop := (wfList (wfInt .i64)) x.f0 ∧ (wfInt .i64) x.f1 ∧ (wfList wf113) x.f2
end Go.Proofs.Ytjkbafcepblacaa.X
namespace Go.Proofs.Ytjkbafcepblacaa.X
open Go.RowKit Go.Proofs.YtjkbafcepblacaaW.PrintWords Go.Proofs.YtjkbafcepblacaaW.PrintLast Go.Proofs.YtjkbafcepblacaaW.PrintMore
set_option linter.unusedVariables false
open Go.Deep
/-- What can be read as data of type t stands as d tells it. -/
def Opens {α : Type} (P : Program) (d : Kd α) (t : TypeId) (Wf : α → Prop) : Prop :=
  ∀ {H : Type} (enc : TypeId × Value → H) (w : World) (base : Nat) (spare : Nat → Bool) (held : Bool) (fuel : Nat) (cs : List Value) (x : DataW H × List MemPlace), DataW.trod enc P w base spare held fuel t cs = some x → ∃ a, d.K w a cs ∧ Wf a
theorem opens_int {P : Program} {t : TypeId} {k : IntKind} (hu : P.underlying t = some (.int k)) : Opens P (Kd.int k) t (wfInt k) := by
  intro H enc w base spare held fuel cs x h
  obtain ⟨n, rfl, -, hw⟩ := DataW.trod_int hu h
  exact ⟨n, rfl, hw⟩
theorem opens_bool {P : Program} {t : TypeId} (hu : P.underlying t = some .bool) : Opens P Kd.bool t (fun _ => True) := by
  intro H enc w base spare held fuel cs x h
  obtain ⟨n, rfl, -⟩ := DataW.trod_bool hu h
  exact ⟨n, rfl, trivial⟩
theorem opens_string {P : Program} {t : TypeId} (hu : P.underlying t = some .string) : Opens P Kd.string t wfStr := by
  intro H enc w base spare held fuel cs x h
  obtain ⟨n, rfl, -, hs⟩ := DataW.trod_string hu h
  unfold maxLen at hs
  exact ⟨n, rfl, by unfold wfStr; omega⟩
theorem opens_slice {α : Type} {P : Program} {d : Kd α} {Wf : α → Prop} {t e : TypeId} (hu : P.underlying t = some (.slice e)) (hc : P.cellsOf e = d.sz) (hd : Opens P d e Wf) : Opens P (Kd.slice e d) t (wfList Wf) := by
  intro H enc w base spare held fuel cs x h
  rcases open_slice hu h with ⟨rfl, -⟩ | ⟨a, len, cap, m, n, D, Pl, rfl, hb, hl, hm, hmm, -, hel⟩
  · exact ⟨[], ⟨none, 0, rfl, Nat.le_refl _, rfl, Nat.zero_le _, fun h => absurd h (Nat.lt_irrefl 0)⟩, Nat.zero_le _, fun _ h => by cases h⟩
  · have hlm : len ≤ m := by rw [hmm]; split <;> omega
    have hx : ∀ i, i < len → ∃ y, ∃ cs', w.cells? base (a.add (i * P.cellsOf e)) (P.cellsOf e) = some cs' ∧ d.K w y cs' ∧ Wf y := by
      intro i hi
      obtain ⟨cs', h1, h2⟩ := hel i (by omega)
      obtain ⟨y, hy⟩ := hd enc w base spare held n cs' _ h2
      exact ⟨y, cs', h1, hy⟩
    have hcell : ∀ i cs', w.cells? base (a.add (i * P.cellsOf e)) (P.cellsOf e) = some cs' → ∀ j u, cs'[j]? = some u → w.cell? (a.add (i * d.sz + j)) = some u := by
      intro i cs' h1 j u hj
      obtain ⟨-, hl', hc'⟩ := World.cells?_some h1
      have hjl : j < cs'.length := (List.getElem?_eq_some_iff.1 hj).1
      have := hc' j (by omega)
      rw [Deep.add_add, hc] at this
      rw [this]; exact hj
    by_cases h0 : len = 0
    · subst h0
      exact ⟨[], ⟨some a, cap, rfl, Nat.zero_le _, rfl, Nat.zero_le _, fun h => absurd h (Nat.lt_irrefl 0)⟩, Nat.zero_le _, fun _ h => by cases h⟩
    · obtain ⟨y0, -⟩ := hx 0 (by omega)
      haveI : Inhabited α := ⟨y0⟩
      obtain ⟨f, hf⟩ := choose_lt hx
      have hlen : ((List.range len).map f).length ≤ 9223372036854775807 := by
        have : cap ≤ maxLen := hm
        unfold maxLen at this
        simp; omega
      refine ⟨(List.range len).map f, ⟨some a, cap, by simp, by simpa using hl, ?_⟩, hlen, fun y hy => ?_⟩
      rotate_left
      · obtain ⟨i, hi, rfl⟩ := List.mem_map.1 hy
        obtain ⟨-, -, -, h3⟩ := hf i (by simpa using hi)
        exact h3
      refine ⟨by simp, hlen, fun _ => ⟨a, rfl, fun j p hp => ?_⟩⟩
      · have hj : j < len := by
          have := (List.getElem?_eq_some_iff.1 hp).1
          simpa using this
        have hp' : p = f j := by
          rw [List.getElem?_map, List.getElem?_range hj] at hp
          simpa using hp.symm
        subst hp'
        obtain ⟨cs', h1, h2, -⟩ := hf j hj
        exact ⟨cs', d.K_len h2, h2, fun i u hi => hcell j cs' h1 i u hi⟩
/-- Fields from place o on, the i-th of which was read as the i-th of xs. -/
def OpensFs {α : Type} (P : Program) (o : Nat) (fs : List Field) (d : Kd α) (Wf : α → Prop) : Prop :=
  ∀ {H : Type} (enc : TypeId × Value → H) (w : World) (base : Nat) (spare : Nat → Bool) (held : Bool) (fuel : Nat) (cs : List Value),
    (∀ f ∈ fs, ∃ x, DataW.trod enc P w base spare held fuel f.type ((cs.drop f.offset).take (P.cellsOf f.type)) = some x) → cs.length = o + d.sz → ∃ a, d.K w a (cs.drop o) ∧ Wf a
theorem opensFs_one {α : Type} {P : Program} {o : Nat} {f : Field} {d : Kd α} {Wf : α → Prop} (ho : f.offset = o) (hc : P.cellsOf f.type = d.sz) (hd : Opens P d f.type Wf) : OpensFs P o [f] d Wf := by
  intro H enc w base spare held fuel cs h hl
  obtain ⟨x, hx⟩ := h f (by simp)
  obtain ⟨a, ha, hw⟩ := hd enc w base spare held fuel _ _ hx
  refine ⟨a, ?_, hw⟩
  rw [ho, hc, List.take_of_length_le (by rw [List.length_drop]; omega)] at ha
  exact ha
theorem opensFs_cons {α β : Type} {P : Program} {o : Nat} {f : Field} {fs : List Field} {d : Kd α} {d2 : Kd β} {Wf : α → Prop} {Wf2 : β → Prop} (ho : f.offset = o) (hc : P.cellsOf f.type = d.sz) (hd : Opens P d f.type Wf) (hs : OpensFs P (o + d.sz) fs d2 Wf2) : OpensFs P o (f :: fs) (Kd.pair d d2) (fun x => Wf x.1 ∧ Wf2 x.2) := by
  intro H enc w base spare held fuel cs h hl
  obtain ⟨x, hx⟩ := h f (by simp)
  obtain ⟨a, ha, hw⟩ := hd enc w base spare held fuel _ _ hx
  have hl' : cs.length = o + d.sz + d2.sz := by rw [hl]; show o + (d.sz + d2.sz) = _; omega
  obtain ⟨b, hb, hw2⟩ := hs enc w base spare held fuel cs (fun f hf => h f (by simp [hf])) hl'
  rw [ho, hc] at ha
  refine ⟨(a, b), ⟨_, _, ?_, ha, hb⟩, hw, hw2⟩
  rw [← List.drop_drop, List.take_append_drop]
theorem opens_struct {α β : Type} {P : Program} {t : TypeId} {fs : Array Field} {d : Kd α} {f : β → α} (g : α → β) (hg : ∀ a, f (g a) = a) (hu : P.underlying t = some (.struct fs)) (hc : P.cellsOf t = d.sz) {Wf : α → Prop} (hd : OpensFs P 0 fs.toList d Wf) : Opens P (Kd.iso d f) t (fun x => Wf (f x)) := by
  intro H enc w base spare held fuel cs x h
  obtain ⟨xs, n, -, -, hl, hxs, hf⟩ := DataW.trod_struct hu h
  obtain ⟨a, ha, hw⟩ := hd enc w base spare held n cs (fun f hm => by
    obtain ⟨i, hi, rfl⟩ := List.getElem_of_mem hm
    have hi' : i < fs.size := by simpa using hi
    have := hf i fs[i] (by simp [hi'])
    rw [List.getElem?_eq_getElem (by omega)] at this
    exact ⟨_, by simpa using this⟩) (by rw [hl, hc, Nat.zero_add])
  exact ⟨g a, by show d.K w (f (g a)) cs; rw [hg]; simpa using ha, by show Wf (f (g a)); rw [hg]; exact hw⟩
/-- A value whose cells are not one is an aggregate of these. -/
theorem agg_of_cells {v : Value} (hn : v.cells.toList.length ≠ 1) : v = .agg v.cells.toList.toArray := by
  cases v <;> first | (exact absurd rfl hn) | (simp [Value.cells])

theorem opens24 : Opens Try.prog k24 24 wf24 :=
  opens_struct (fun (x : _) => (⟨x.1, x.2.1, x.2.2.1, x.2.2.2.1, x.2.2.2.2.1, x.2.2.2.2.2.1, x.2.2.2.2.2.2⟩ : S24)) (fun _ => rfl) Try.underlying24 (by kernel_rfl) (opensFs_cons rfl (by kernel_rfl) (opens_int Try.underlying2) (opensFs_cons rfl (by kernel_rfl) (opens_int Try.underlying2) (opensFs_cons rfl (by kernel_rfl) (opens_int Try.underlying2) (opensFs_cons rfl (by kernel_rfl) (opens_int Try.underlying2) (opensFs_cons rfl (by kernel_rfl) (opens_int Try.underlying2) (opensFs_cons rfl (by kernel_rfl) (opens_int Try.underlying2) (opensFs_one rfl (by kernel_rfl) (opens_slice Try.underlying22 (by kernel_rfl) (opens_int Try.underlying2)))))))))
theorem opens132 : Opens Try.prog k132 132 wf132 :=
  opens_struct (fun (x : _) => (⟨x.1, x.2⟩ : S132)) (fun _ => rfl) Try.underlying132 (by kernel_rfl) (opensFs_cons rfl (by kernel_rfl) (opens_int Try.underlying2) (opensFs_one rfl (by kernel_rfl) (opens_slice Try.underlying22 (by kernel_rfl) (opens_int Try.underlying2))))
theorem opens111 : Opens Try.prog k111 111 wf111 :=
  opens_struct (fun (x : _) => (⟨x.1, x.2.1, x.2.2.1, x.2.2.2⟩ : S111)) (fun _ => rfl) Try.underlying111 (by kernel_rfl) (opensFs_cons rfl (by kernel_rfl) (opens_int Try.underlying2) (opensFs_cons rfl (by kernel_rfl) (opens_int Try.underlying2) (opensFs_cons rfl (by kernel_rfl) (opens_int Try.underlying2) (opensFs_one rfl (by kernel_rfl) (opens_int Try.underlying2)))))
theorem opens113 : Opens Try.prog k113 113 wf113 :=
  opens_struct (fun (x : _) => (⟨x.1, x.2.1, x.2.2⟩ : S113)) (fun _ => rfl) Try.underlying113 (by kernel_rfl) (opensFs_cons rfl (by kernel_rfl) (opens_slice Try.underlying109 (by kernel_rfl) (opens132)) (opensFs_cons rfl (by kernel_rfl) (opens_slice Try.underlying110 (by kernel_rfl) (opens24)) (opensFs_one rfl (by kernel_rfl) (opens111))))
theorem opens54 : Opens Try.prog k54 54 wf54 :=
  opens_struct (fun (x : _) => (⟨x.1, x.2.1, x.2.2⟩ : S54)) (fun _ => rfl) Try.underlying54 (by kernel_rfl) (opensFs_cons rfl (by kernel_rfl) (opens_slice Try.underlying22 (by kernel_rfl) (opens_int Try.underlying2)) (opensFs_cons rfl (by kernel_rfl) (opens_int Try.underlying2) (opensFs_one rfl (by kernel_rfl) (opens_slice Try.underlying52 (by kernel_rfl) (opens113)))))
end Go.Proofs.Ytjkbafcepblacaa.X
namespace Go.Proofs.Ytjkbafcepblacaa.X
set_option linter.unusedVariables false
set_option linter.unusedSimpArgs false
open Go.RowKit Go.Proofs.YtjkbafcepblacaaW.PrintWords Go.Proofs.YtjkbafcepblacaaW.PrintLast Go.Proofs.YtjkbafcepblacaaW.PrintMore
theorem Ev.succ {α : Type} {g : Nat → Option α} {r : α} (h : Ev (fun k => g (k + 1)) r) : Ev g r := Ev.step (f := fun k => g (k + 1)) (fun _ => rfl) h
theorem Ev.bindE {α β : Type} {g : Nat → Option α} {f : Nat → α → Option β} {a : α} {r : β} (h : Ev g a) (k : Ev (fun n => f n a) r) : Ev (fun n => (g n).bind (f n)) r := Ev.bind h k
theorem Ev.cst {α : Type} {o : Option α} {r : α} (h : o = some r) : Ev (fun _ => o) r := ⟨0, fun _ _ => h⟩
theorem Ev.uniq {α : Type} {g : Nat → Option α} {r s : α} (h : Ev g r) (k : Ev g s) : r = s := by
  obtain ⟨K, h⟩ := h
  obtain ⟨K', k⟩ := k
  have a := h (max K K') (by omega)
  have b := k (max K K') (by omega)
  rw [a] at b; exact Option.some.inj b
theorem Ev.ipos {α : Type} {c : Prop} [Decidable c] {f g : Nat → Option α} {r : α} (hc : c) (h : Ev f r) : Ev (fun k => if c then f k else g k) r := Ev.congr (fun _ => if_pos hc) h
theorem Ev.ineg {α : Type} {c : Prop} [Decidable c] {f g : Nat → Option α} {r : α} (hc : ¬ c) (h : Ev g r) : Ev (fun k => if c then f k else g k) r := Ev.congr (fun _ => if_neg hc) h
theorem Ev.rw {α : Type} {g : Nat → Option α} {r s : α} (h : Ev g r) (e : r = s) : Ev g s := e ▸ h
theorem w64 {x : Int} (h0 : -9223372036854775808 ≤ x) (h1 : x ≤ 9223372036854775807) : wrap64 x = x := by unfold wrap64; omega
theorem getD_at {α : Type} (l : List α) (z : α) (j : Nat) (h : j < l.length) : l.getD j z = l[j] := by simp [List.getD, List.getElem?_eq_getElem h]
/-- What is left of a, when s is taken away. -/
def rem (a s : Int) : Int := if s ≤ a then a - s else -1
def sumOf {α : Type} (f : α → Int) : List α → Int
  | [] => 0
  | x :: l => f x + sumOf f l
theorem sumOf_nonneg {α : Type} {f : α → Int} : ∀ {l : List α}, (∀ x ∈ l, 0 ≤ f x) → 0 ≤ sumOf f l
  | [], _ => Int.le_refl _
  | x :: l, h => by
    have := h x (by simp)
    have := sumOf_nonneg (l := l) (fun y hy => h y (by simp [hy]))
    simp only [sumOf]; omega
theorem sumOf_append {α : Type} (f : α → Int) : ∀ (l m : List α), sumOf f (l ++ m) = sumOf f l + sumOf f m
  | [], m => by simp [sumOf]
  | x :: l, m => by simp only [List.cons_append, sumOf, sumOf_append f l m]; omega
theorem sumOf_drop {α : Type} (f : α → Int) (l : List α) (i : Nat) (h : i < l.length) : sumOf f (l.drop i) = f l[i] + sumOf f (l.drop (i + 1)) := by
  rw [List.drop_eq_getElem_cons h]; rfl
theorem le_sumOf {α : Type} {f : α → Int} {l : List α} (h : ∀ x ∈ l, 0 ≤ f x) {x : α} (hx : x ∈ l) : f x ≤ sumOf f l := by
  induction l with
  | nil => cases hx
  | cons y l ih =>
    have hn := sumOf_nonneg (l := l) (fun z hz => h z (by simp [hz]))
    simp only [sumOf]
    rcases List.mem_cons.1 hx with rfl | hx
    · omega
    · have := ih (fun z hz => h z (by simp [hz])) hx
      have := h y (by simp)
      omega
theorem sz_loop {α : Type} (L : Nat → List α → Int → Int → Option Int) (body : Nat → α → Int → Option Int) (z : α)
    (hL : ∀ k x left i, L (k + 1) x left i = if i < (x.length : Int) then (if 0 ≤ i then ((body k (x.getD i.toNat z) left).bind fun t => (if t < 0 then (some (-1)) else (L k x t (wrap64 (i + 1))))) else none) else some left)
    (size : α → Int) (x : List α) (hlen : x.length ≤ 9223372036854775807) (h0 : ∀ e ∈ x, 0 ≤ size e) (hb : ∀ e ∈ x, ∀ left, 0 ≤ left → left ≤ 1048576 → Ev (fun k => body k e left) (rem left (size e))) :
    ∀ left, 0 ≤ left → left ≤ 1048576 → Ev (fun k => L k x left 0) (rem left (sumOf size x)) := by
  suffices h : ∀ (d i : Nat) (left : Int), i + d = x.length → 0 ≤ left → left ≤ 1048576 → Ev (fun k => L k x left i) (rem left (sumOf size (x.drop i))) by
    intro left a b
    have := h x.length 0 left (by omega) a b
    simpa using this
  intro d
  induction d with
  | zero =>
    intro i left hi a b
    refine Ev.step (fun k => hL k x left i) (Ev.ineg (by omega) (Ev.rw (Ev.now left) ?_))
    rw [List.drop_of_length_le (by omega)]
    simp [sumOf, rem, a]
  | succ d ih =>
    intro i left hi a b
    have hlt : i < x.length := by omega
    have he : x[i] ∈ x := List.getElem_mem hlt
    have hs := h0 _ he
    have hr := sumOf_nonneg (f := size) (l := x.drop (i + 1)) (fun y hy => h0 y (List.mem_of_mem_drop hy))
    refine Ev.step (fun k => hL k x left i) (Ev.ipos (by omega) (Ev.ipos (by omega) ?_))
    rw [show (i : Int).toNat = i from rfl, getD_at x z i hlt]
    refine Ev.bind (hb _ he left a b) ?_
    rw [sumOf_drop size x i hlt]
    by_cases hc : size x[i] ≤ left
    · rw [show rem left (size x[i]) = left - size x[i] from if_pos hc]
      refine Ev.ineg (by omega) ?_
      rw [show wrap64 ((i : Int) + 1) = ((i + 1 : Nat) : Int) by rw [w64 (by omega) (by omega)]; rfl]
      refine Ev.rw (ih (i + 1) (left - size x[i]) (by omega) (by omega) (by omega)) ?_
      unfold rem
      split <;> split <;> omega
    · rw [show rem left (size x[i]) = -1 from if_neg hc]
      refine Ev.ipos (by decide) (Ev.rw (Ev.now (-1)) ?_)
      unfold rem
      rw [if_neg (by omega)]
theorem to_loop {α β τ : Type} (L : Nat → List α → List β → Int → Option (List β)) (body : Nat → α → Option τ) (mk : τ → β) (z : α)
    (hL : ∀ k x out i, L (k + 1) x out i = if i < (x.length : Int) then (if 0 ≤ i then ((body k (x.getD i.toNat z)).bind fun t => (if i < (out.length : Int) then (L k x (out.set i.toNat (mk t)) (wrap64 (i + 1))) else none)) else none) else some out)
    (conv : α → β) (x : List α) (hlen : x.length ≤ 1048576) (hb : ∀ e ∈ x, ∃ t, Ev (fun k => body k e) t ∧ mk t = conv e) (out : List β) (ho : out.length = x.length) :
    Ev (fun k => L k x out 0) (x.map conv) := by
  suffices h : ∀ (d i : Nat) (out : List β), i + d = x.length → out.length = x.length → Ev (fun k => L k x out i) (out.take i ++ (x.drop i).map conv) by
    have := h x.length 0 out (by omega) ho
    simpa using this
  intro d
  induction d with
  | zero =>
    intro i out hi ho
    refine Ev.step (fun k => hL k x out i) (Ev.ineg (by omega) (Ev.rw (Ev.now out) ?_))
    rw [List.drop_of_length_le (by omega), List.take_of_length_le (by omega)]
    simp
  | succ d ih =>
    intro i out hi ho
    have hlt : i < x.length := by omega
    obtain ⟨t, ht, hm⟩ := hb _ (List.getElem_mem hlt)
    refine Ev.step (fun k => hL k x out i) (Ev.ipos (by omega) (Ev.ipos (by omega) ?_))
    rw [show (i : Int).toNat = i from rfl, getD_at x z i hlt]
    refine Ev.bind ht (Ev.ipos (by omega) ?_)
    rw [show wrap64 ((i : Int) + 1) = ((i + 1 : Nat) : Int) by rw [w64 (by omega) (by omega)]; rfl]
    refine Ev.rw (ih (i + 1) (out.set i (mk t)) (by omega) (by simp [ho])) ?_
    rw [hm, List.drop_eq_getElem_cons hlt, List.map_cons]
    have hio : i < out.length := by omega
    rw [List.take_set, List.take_succ_eq_append_getElem hio, List.set_append]
    simp [Nat.min_eq_left (Nat.le_of_lt hio)]
theorem eq_loop {α : Type} (L : Nat → List α → List α → Int → Option Bool) (body : Nat → α → α → Option Bool) (z : α)
    (hL : ∀ k x y i, L (k + 1) x y i = if i < (x.length : Int) then (if 0 ≤ i then (if i < (y.length : Int) then ((body k (x.getD i.toNat z) (y.getD i.toNat z)).bind fun t => (if t = true then (L k x y (wrap64 (i + 1))) else (some false))) else none) else none) else some true)
    (x : List α) (hlen : x.length ≤ 1048576) (hb : ∀ e ∈ x, Ev (fun k => body k e e) true) : Ev (fun k => L k x x 0) true := by
  suffices h : ∀ (d i : Nat), i + d = x.length → Ev (fun k => L k x x i) true by
    have := h x.length 0 (by omega)
    simpa using this
  intro d
  induction d with
  | zero =>
    intro i hi
    exact Ev.step (fun k => hL k x x i) (Ev.ineg (by omega) (Ev.now true))
  | succ d ih =>
    intro i hi
    have hlt : i < x.length := by omega
    refine Ev.step (fun k => hL k x x i) (Ev.ipos (by omega) (Ev.ipos (by omega) (Ev.ipos (by omega) ?_)))
    rw [show (i : Int).toNat = i from rfl, getD_at x z i hlt]
    refine Ev.bind (hb _ (List.getElem_mem hlt)) (Ev.ipos rfl ?_)
    rw [show wrap64 ((i : Int) + 1) = ((i + 1 : Nat) : Int) by rw [w64 (by omega) (by omega)]; rfl]
    exact ih (i + 1) (by omega)
end Go.Proofs.Ytjkbafcepblacaa.X
namespace Go.Proofs.Ytjkbafcepblacaa.X
set_option linter.unusedVariables false
set_option linter.unusedSimpArgs false
open Go.RowKit Go.Proofs.YtjkbafcepblacaaW.PrintWords Go.Proofs.YtjkbafcepblacaaW.PrintLast Go.Proofs.YtjkbafcepblacaaW.PrintMore
abbrev LPhi := S132
abbrev LInst := S24
abbrev LTerm := S111
abbrev LBlock := S113
abbrev Phi := S95
abbrev Inst := S27
abbrev Term := S86
abbrev Block := S88
def len {α : Type} (l : List α) : Int := (l.length : Int)
def szP (p : LPhi) : Int := len p.f1
def szI (p : LInst) : Int := len p.f6
def szPs (l : List LPhi) : Int := len l + sumOf szP l
def szIs (l : List LInst) : Int := len l + sumOf szI l
def szB (b : LBlock) : Int := szPs b.f0 + szIs b.f1
def szBs (l : List LBlock) : Int := len l + sumOf szB l
theorem len_nonneg {α : Type} (l : List α) : 0 ≤ len l := by unfold len; omega
theorem szP_nonneg (p : LPhi) : 0 ≤ szP p := len_nonneg _
theorem szI_nonneg (p : LInst) : 0 ≤ szI p := len_nonneg _
theorem szPs_nonneg (l : List LPhi) : 0 ≤ szPs l := by have := len_nonneg l; have := sumOf_nonneg (l := l) (fun x _ => szP_nonneg x); unfold szPs; omega
theorem szIs_nonneg (l : List LInst) : 0 ≤ szIs l := by have := len_nonneg l; have := sumOf_nonneg (l := l) (fun x _ => szI_nonneg x); unfold szIs; omega
theorem szB_nonneg (b : LBlock) : 0 ≤ szB b := by have := szPs_nonneg b.f0; have := szIs_nonneg b.f1; unfold szB; omega
theorem szBs_nonneg (l : List LBlock) : 0 ≤ szBs l := by have := len_nonneg l; have := sumOf_nonneg (l := l) (fun x _ => szB_nonneg x); unfold szBs; omega
theorem rem_rem {a s t : Int} (hs : 0 ≤ s) (ht : 0 ≤ t) : (if rem a s < 0 then -1 else rem (rem a s) t) = rem a (s + t) := by
  unfold rem
  repeat' split <;> omega
theorem szInt64S_eq (l : List Int) (hl : l.length ≤ 9223372036854775807) (a : Int) (h0 : 0 ≤ a) (h1 : a ≤ 1048576) : laws_szInt64S.f l a = some (rem a (len l)) := by
  unfold laws_szInt64S.f rem len
  rw [w64 (by omega) (by omega)]
  by_cases h : a - (l.length : Int) < 0
  · rw [if_pos h, if_neg (by omega)]
  · rw [if_neg h, if_pos (by omega)]
theorem if_some_neg {t : Int} (h : -1 ≤ t) : (if t < 0 then some (-1) else some t) = some t := by
  split
  · congr 1; omega
  · rfl
theorem rem_ge {a s : Int} (h : 0 ≤ a) (hs : 0 ≤ s) : -1 ≤ rem a s := by unfold rem; split <;> omega
theorem rem_le {a s : Int} (hs : 0 ≤ s) (h : -1 ≤ a) : rem a s ≤ a := by unfold rem; split <;> omega
theorem szPhi_eq (p : LPhi) (hl : p.f1.length ≤ 9223372036854775807) (a : Int) (h0 : 0 ≤ a) (h1 : a ≤ 1048576) : laws_szPhi.f p.f0 p.f1 a = some (rem a (szP p)) := by
  unfold laws_szPhi.f
  rw [szInt64S_eq _ hl a h0 h1]; simp only [Option.bind_some]
  exact if_some_neg (rem_ge h0 (szP_nonneg p))
theorem szInst_eq (p : LInst) (hl : p.f6.length ≤ 9223372036854775807) (a : Int) (h0 : 0 ≤ a) (h1 : a ≤ 1048576) : laws_szInst.f p.f0 p.f1 p.f2 p.f3 p.f4 p.f5 p.f6 a = some (rem a (szI p)) := by
  unfold laws_szInst.f
  rw [szInt64S_eq _ hl a h0 h1]; simp only [Option.bind_some]
  exact if_some_neg (rem_ge h0 (szI_nonneg p))
/-- The head of a list's measure. -/
theorem sz_head {α : Type} {l : List α} {f : α → Int} (hl : l.length ≤ 9223372036854775807) (hf : ∀ x ∈ l, 0 ≤ f x) (L : Nat → Int → Option Int) (a : Int) (h0 : 0 ≤ a) (h1 : a ≤ 1048576)
    (h : ∀ a, 0 ≤ a → a ≤ 1048576 → Ev (fun k => L k a) (rem a (sumOf f l))) : Ev (fun k => if wrap64 (a - (l.length : Int)) < 0 then some (-1) else L k (wrap64 (a - (l.length : Int)))) (rem a (len l + sumOf f l)) := by
  have hs := sumOf_nonneg hf
  rw [w64 (by omega) (by omega)]
  by_cases c : a - (l.length : Int) < 0
  · refine Ev.ipos c (Ev.rw (Ev.now (-1)) ?_)
    unfold rem len
    rw [if_neg (by omega)]
  · refine Ev.ineg c (Ev.rw (h _ (by omega) (by omega)) ?_)
    unfold rem len
    split <;> split <;> omega
theorem szPhiS_ev (l : List LPhi) (hl : wfList wf132 l) (a : Int) (h0 : 0 ≤ a) (h1 : a ≤ 1048576) : Ev (fun k => laws_szPhiS.f k l a) (rem a (szPs l)) :=
  sz_head hl.1 (fun x _ => szP_nonneg x) (fun k a => laws_szPhiS.l0 k l a 0) a h0 h1
    (sz_loop laws_szPhiS.l0 (fun _ e a => laws_szPhi.f e.f0 e.f1 a) z132 (fun _ _ _ _ => rfl) szP l hl.1 (fun x _ => szP_nonneg x) (fun e he a h0 h1 => Ev.cst (szPhi_eq e (hl.2 e he).2.1 a h0 h1)))
theorem szInstS_ev (l : List LInst) (hl : wfList wf24 l) (a : Int) (h0 : 0 ≤ a) (h1 : a ≤ 1048576) : Ev (fun k => laws_szInstS.f k l a) (rem a (szIs l)) :=
  sz_head hl.1 (fun x _ => szI_nonneg x) (fun k a => laws_szInstS.l0 k l a 0) a h0 h1
    (sz_loop laws_szInstS.l0 (fun _ e a => laws_szInst.f e.f0 e.f1 e.f2 e.f3 e.f4 e.f5 e.f6 a) z24 (fun _ _ _ _ => rfl) szI l hl.1 (fun x _ => szI_nonneg x) (fun e he a h0 h1 => Ev.cst (szInst_eq e (hl.2 e he).2.2.2.2.2.2.1 a h0 h1)))
/-- One measure behind another one. -/
theorem sz_two {g : Nat → Option Int} {f : Nat → Int → Option Int} {a s t : Int} (h0 : 0 ≤ a) (h1 : a ≤ 1048576) (hs : 0 ≤ s) (ht : 0 ≤ t) (hg : Ev g (rem a s)) (hf : ∀ a, 0 ≤ a → a ≤ 1048576 → Ev (fun k => f k a) (rem a t)) :
    Ev (fun k => (g k).bind fun u => if u < 0 then some (-1) else ((f k u).bind fun v => if v < 0 then some (-1) else some v)) (rem a (s + t)) := by
  refine Ev.bind hg ?_
  by_cases c : s ≤ a
  · rw [show rem a s = a - s from if_pos c]
    refine Ev.ineg (by omega) (Ev.bind (hf _ (by omega) (by omega)) (Ev.cst ?_))
    rw [if_some_neg (rem_ge (by omega) ht)]
    congr 1
    unfold rem
    split <;> split <;> omega
  · rw [show rem a s = -1 from if_neg c]
    refine Ev.ipos (by decide) (Ev.rw (Ev.now (-1)) ?_)
    unfold rem
    rw [if_neg (by omega)]
theorem szBlock_ev (b : LBlock) (hb : wf113 b) (a : Int) (h0 : 0 ≤ a) (h1 : a ≤ 1048576) : Ev (fun k => laws_szBlock.f k b.f0 b.f1 b.f2.f0 b.f2.f1 b.f2.f2 b.f2.f3 a) (rem a (szB b)) :=
  sz_two h0 h1 (szPs_nonneg _) (szIs_nonneg _) (szPhiS_ev _ hb.1 a h0 h1) (fun a h0 h1 => szInstS_ev _ hb.2.1 a h0 h1)
theorem szBlockS_ev (l : List LBlock) (hl : wfList wf113 l) (a : Int) (h0 : 0 ≤ a) (h1 : a ≤ 1048576) : Ev (fun k => laws_szBlockS.f k l a) (rem a (szBs l)) :=
  sz_head hl.1 (fun x _ => szB_nonneg x) (fun k a => laws_szBlockS.l0 k l a 0) a h0 h1
    (sz_loop laws_szBlockS.l0 (fun k e a => laws_szBlock.f k e.f0 e.f1 e.f2.f0 e.f2.f1 e.f2.f2 e.f2.f3 a) z113 (fun _ _ _ _ => rfl) szB l hl.1 (fun x _ => szB_nonneg x) (fun e he a h0 h1 => szBlock_ev e (hl.2 e he) a h0 h1))
theorem szFunc_ev (p : List Int) (r : Int) (l : List LBlock) (h : wf54 ⟨p, r, l⟩) (a : Int) (h0 : 0 ≤ a) (h1 : a ≤ 1048576) : Ev (fun k => laws_szFunc.f k p r l a) (rem a (len p + szBs l)) :=
  sz_two h0 h1 (len_nonneg _) (szBs_nonneg _) (Ev.cst (szInt64S_eq p h.1.1 a h0 h1)) (fun a h0 h1 => szBlockS_ev l h.2.2 a h0 h1)
/-! ### copies -/
def cPhi (p : LPhi) : Phi := ⟨p.f0, p.f1⟩
def cInst (p : LInst) : Inst := ⟨p.f0, p.f1, p.f2, p.f3, p.f4, p.f5, p.f6⟩
def cTerm (p : LTerm) : Term := ⟨p.f0, p.f1, p.f2, p.f3⟩
def cBlock (b : LBlock) : Block := ⟨b.f0.map cPhi, b.f1.map cInst, cTerm b.f2⟩
/-- Its lists have at most 2^20 elements, and so on inwards. -/
def smI (l : List Int) : Prop := l.length ≤ 1048576
def smP (p : LPhi) : Prop := smI p.f1
def smN (p : LInst) : Prop := smI p.f6
def smB (b : LBlock) : Prop := b.f0.length ≤ 1048576 ∧ (∀ p ∈ b.f0, smP p) ∧ b.f1.length ≤ 1048576 ∧ ∀ p ∈ b.f1, smN p
def smBs (l : List LBlock) : Prop := l.length ≤ 1048576 ∧ ∀ b ∈ l, smB b
theorem sm_of_sz {p : List Int} {l : List LBlock} (h : len p + szBs l ≤ 1048576) : smI p ∧ smBs l ∧ len p + sumOf szB l + len l ≤ 1048576 := by
  have h1 := len_nonneg p
  have h2 := len_nonneg l
  have h3 := sumOf_nonneg (l := l) (fun x _ => szB_nonneg x)
  unfold szBs at h
  refine ⟨?_, ⟨?_, fun b hb => ?_⟩, by omega⟩
  · unfold smI len at *; omega
  · unfold len at *; omega
  · have hle := le_sumOf (f := szB) (fun x _ => szB_nonneg x) hb
    have a1 := szPs_nonneg b.f0
    have a2 := szIs_nonneg b.f1
    have a3 : szB b = szPs b.f0 + szIs b.f1 := rfl
    have b1 : szPs b.f0 = len b.f0 + sumOf szP b.f0 := rfl
    have b2 : szIs b.f1 = len b.f1 + sumOf szI b.f1 := rfl
    have c1 := sumOf_nonneg (l := b.f0) (fun x _ => szP_nonneg x)
    have c2 := sumOf_nonneg (l := b.f1) (fun x _ => szI_nonneg x)
    have d1 := len_nonneg b.f0
    have d2 := len_nonneg b.f1
    refine ⟨?_, fun q hq => ?_, ?_, fun q hq => ?_⟩
    · unfold len at *; omega
    · have := le_sumOf (f := szP) (fun x _ => szP_nonneg x) hq
      have e : szP q = len q.f1 := rfl
      unfold smP smI; unfold len at *; omega
    · unfold len at *; omega
    · have := le_sumOf (f := szI) (fun x _ => szI_nonneg x) hq
      have e : szI q = len q.f6 := rfl
      unfold smN smI; unfold len at *; omega
theorem to_head {α β : Type} {l : List α} {n : Nat} {z : β} {g : Nat → List β → Option (List β)} {r : List β} (hn : l.length ≤ n) (h : ∀ out : List β, out.length = l.length → Ev (fun k => g k out) r) :
    Ev (fun k => if 0 ≤ (l.length : Int) then (if ((l.length : Int) : Int).toNat ≤ n then g k (List.replicate ((l.length : Int) : Int).toNat z) else none) else none) r :=
  Ev.ipos (by omega) (Ev.ipos (by simpa using hn) (h _ (by simp)))
theorem toInt64S_ev (l : List Int) (h : smI l) : Ev (fun k => laws_toInt64S.f k l) l :=
  to_head (Nat.le_trans h (by decide)) (fun out ho => Ev.rw (to_loop laws_toInt64S.l0 (fun _ e => some e) id 0 (fun _ _ _ _ => rfl) id l h (fun e _ => ⟨e, Ev.now e, rfl⟩) out ho) (by simp))
theorem toPhi_ev (p : LPhi) (h : smP p) : Ev (fun k => laws_toPhi.f k p.f0 p.f1) (p.f0, p.f1) := Ev.bind (toInt64S_ev _ h) (Ev.now _)
theorem toInst_ev (p : LInst) (h : smN p) : Ev (fun k => laws_toInst.f k p.f0 p.f1 p.f2 p.f3 p.f4 p.f5 p.f6) (p.f0, p.f1, p.f2, p.f3, p.f4, p.f5, p.f6) := Ev.bind (toInt64S_ev _ h) (Ev.now _)
theorem toPhiS_ev (l : List LPhi) (hl : l.length ≤ 1048576) (h : ∀ p ∈ l, smP p) : Ev (fun k => laws_toPhiS.f k l) (l.map cPhi) :=
  to_head (Nat.le_trans hl (by decide)) (fun out ho => to_loop laws_toPhiS.l0 (fun k e => laws_toPhi.f k e.f0 e.f1) (fun t => ⟨t.1, t.2⟩) z132 (fun _ _ _ _ => rfl) cPhi l hl (fun e he => ⟨_, toPhi_ev e (h e he), rfl⟩) out ho)
theorem toInstS_ev (l : List LInst) (hl : l.length ≤ 1048576) (h : ∀ p ∈ l, smN p) : Ev (fun k => laws_toInstS.f k l) (l.map cInst) :=
  to_head (Nat.le_trans hl (by decide)) (fun out ho => to_loop laws_toInstS.l0 (fun k e => laws_toInst.f k e.f0 e.f1 e.f2 e.f3 e.f4 e.f5 e.f6) (fun t => ⟨t.1, t.2.1, t.2.2.1, t.2.2.2.1, t.2.2.2.2.1, t.2.2.2.2.2.1, t.2.2.2.2.2.2⟩) z24 (fun _ _ _ _ => rfl) cInst l hl (fun e he => ⟨_, toInst_ev e (h e he), rfl⟩) out ho)
theorem toBlock_ev (b : LBlock) (h : smB b) : Ev (fun k => laws_toBlock.f k b.f0 b.f1 b.f2.f0 b.f2.f1 b.f2.f2 b.f2.f3) (b.f0.map cPhi, b.f1.map cInst, b.f2.f0, b.f2.f1, b.f2.f2, b.f2.f3) :=
  Ev.bind (toPhiS_ev _ h.1 h.2.1) (Ev.bind (toInstS_ev _ h.2.2.1 h.2.2.2) (Ev.now _))
theorem toBlockS_ev (l : List LBlock) (h : smBs l) : Ev (fun k => laws_toBlockS.f k l) (l.map cBlock) :=
  to_head (Nat.le_trans h.1 (by decide)) (fun out ho => to_loop laws_toBlockS.l0 (fun k e => laws_toBlock.f k e.f0 e.f1 e.f2.f0 e.f2.f1 e.f2.f2 e.f2.f3) (fun t => ⟨t.1, t.2.1, ⟨t.2.2.1, t.2.2.2.1, t.2.2.2.2.1, t.2.2.2.2.2⟩⟩) z113 (fun _ _ _ _ => rfl) cBlock l h.1 (fun e he => ⟨_, toBlock_ev e (h.2 e he), rfl⟩) out ho)
theorem toFunc_ev (p : List Int) (r : Int) (l : List LBlock) (hp : smI p) (hl : smBs l) : Ev (fun k => laws_toFunc.f k p r l) (p, r, l.map cBlock) := Ev.bind (toInt64S_ev _ hp) (Ev.bind (toBlockS_ev l hl) (Ev.now _))
/-! ### a comparison with itself -/
theorem eqInt64S_ev (l : List Int) (h : smI l) : Ev (fun k => laws_eqInt64S.f k l l) true :=
  Ev.ipos rfl (eq_loop laws_eqInt64S.l0 (fun _ a b => some (decide (a = b))) 0 (fun k x y i => by
    simp only [laws_eqInt64S.l0, Option.bind_some, decide_eq_true_eq]; rfl) l h (fun e _ => Ev.cst (by simp)))
theorem eqPhi_ev (p : Phi) (h : smI p.f1) : Ev (fun k => laws_eqPhi.f k p.f0 p.f1 p.f0 p.f1) true := Ev.ipos rfl (Ev.bind (eqInt64S_ev _ h) (Ev.ipos rfl (Ev.now _)))
theorem eqInst_ev (p : Inst) (h : smI p.f6) : Ev (fun k => laws_eqInst.f k p.f0 p.f1 p.f2 p.f3 p.f4 p.f5 p.f6 p.f0 p.f1 p.f2 p.f3 p.f4 p.f5 p.f6) true :=
  Ev.ipos rfl (Ev.ipos rfl (Ev.ipos rfl (Ev.ipos rfl (Ev.ipos rfl (Ev.ipos rfl (Ev.bind (eqInt64S_ev _ h) (Ev.ipos rfl (Ev.now _))))))))
theorem eqTerm_eq (t : Term) : laws_eqTerm.f t.f0 t.f1 t.f2 t.f3 t.f0 t.f1 t.f2 t.f3 = some true := by simp [laws_eqTerm.f]
theorem eqPhiS_ev (l : List Phi) (hl : l.length ≤ 1048576) (h : ∀ p ∈ l, smI p.f1) : Ev (fun k => laws_eqPhiS.f k l l) true :=
  Ev.ipos rfl (eq_loop laws_eqPhiS.l0 (fun k a b => laws_eqPhi.f k a.f0 a.f1 b.f0 b.f1) z95 (fun _ _ _ _ => rfl) l hl (fun e he => eqPhi_ev e (h e he)))
theorem eqInstS_ev (l : List Inst) (hl : l.length ≤ 1048576) (h : ∀ p ∈ l, smI p.f6) : Ev (fun k => laws_eqInstS.f k l l) true :=
  Ev.ipos rfl (eq_loop laws_eqInstS.l0 (fun k a b => laws_eqInst.f k a.f0 a.f1 a.f2 a.f3 a.f4 a.f5 a.f6 b.f0 b.f1 b.f2 b.f3 b.f4 b.f5 b.f6) z27 (fun _ _ _ _ => rfl) l hl (fun e he => eqInst_ev e (h e he)))
/-- A block that is small. -/
def smb (b : Block) : Prop := b.f0.length ≤ 1048576 ∧ (∀ p ∈ b.f0, smI p.f1) ∧ b.f1.length ≤ 1048576 ∧ ∀ p ∈ b.f1, smI p.f6
def smbs (l : List Block) : Prop := l.length ≤ 1048576 ∧ ∀ b ∈ l, smb b
theorem eqBlock_ev (b : Block) (h : smb b) : Ev (fun k => laws_eqBlock.f k b.f0 b.f1 b.f2.f0 b.f2.f1 b.f2.f2 b.f2.f3 b.f0 b.f1 b.f2.f0 b.f2.f1 b.f2.f2 b.f2.f3) true :=
  Ev.bind (eqPhiS_ev _ h.1 h.2.1) (Ev.ipos rfl (Ev.bind (eqInstS_ev _ h.2.2.1 h.2.2.2) (Ev.ipos rfl (Ev.bind (Ev.cst (eqTerm_eq b.f2)) (Ev.ipos rfl (Ev.now _))))))
theorem eqBlockS_ev (l : List Block) (h : smbs l) : Ev (fun k => laws_eqBlockS.f k l l) true :=
  Ev.ipos rfl (eq_loop laws_eqBlockS.l0 (fun k a b => laws_eqBlock.f k a.f0 a.f1 a.f2.f0 a.f2.f1 a.f2.f2 a.f2.f3 b.f0 b.f1 b.f2.f0 b.f2.f1 b.f2.f2 b.f2.f3) z88 (fun _ _ _ _ => rfl) l h.1 (fun e he => eqBlock_ev e (h.2 e he)))
theorem eqFunc_ev (p : List Int) (r : Int) (l : List Block) (hp : smI p) (h : smbs l) : Ev (fun k => laws_eqFunc.f k p r l p r l) true :=
  Ev.bind (eqInt64S_ev _ hp) (Ev.ipos rfl (Ev.ipos rfl (Ev.bind (eqBlockS_ev l h) (Ev.ipos rfl (Ev.now _)))))
theorem smbs_of {l : List LBlock} (h : smBs l) : smbs (l.map cBlock) := by
  refine ⟨by simpa using h.1, fun b hb => ?_⟩
  obtain ⟨x, hx, rfl⟩ := List.mem_map.1 hb
  have hx := h.2 x hx
  refine ⟨by simpa [cBlock] using hx.1, fun q hq => ?_, by simpa [cBlock] using hx.2.2.1, fun q hq => ?_⟩
  · obtain ⟨y, hy, rfl⟩ := List.mem_map.1 hq
    exact hx.2.1 y hy
  · obtain ⟨y, hy, rfl⟩ := List.mem_map.1 hq
    exact hx.2.2.2 y hy
/-- How many ids there are, and what else a list of blocks weighs, is at most 2^20. -/
def cntB (b : Block) : Int := len b.f0 + len b.f1
theorem cnt_le {p : List Int} {l : List LBlock} (h : len p + szBs l ≤ 1048576) : len p + sumOf cntB (l.map cBlock) ≤ 1048576 := by
  have : ∀ l : List LBlock, sumOf cntB (l.map cBlock) ≤ sumOf szB l := by
    intro l
    induction l with
    | nil => exact Int.le_refl _
    | cons b l ih =>
      simp only [List.map_cons, sumOf]
      have a3 : szB b = szPs b.f0 + szIs b.f1 := rfl
      have b1 : szPs b.f0 = len b.f0 + sumOf szP b.f0 := rfl
      have b2 : szIs b.f1 = len b.f1 + sumOf szI b.f1 := rfl
      have c1 := sumOf_nonneg (l := b.f0) (fun x _ => szP_nonneg x)
      have c2 := sumOf_nonneg (l := b.f1) (fun x _ => szI_nonneg x)
      have e : cntB (cBlock b) = len b.f0 + len b.f1 := by simp [cntB, cBlock, len]
      omega
  have := this l
  have h2 := len_nonneg l
  unfold szBs at h
  omega
end Go.Proofs.Ytjkbafcepblacaa.X
namespace Go.Proofs.Ytjkbafcepblacaa.X
set_option linter.unusedVariables false
set_option linter.unusedSimpArgs false
open Go.RowKit Go.Proofs.YtjkbafcepblacaaW.PrintWords Go.Proofs.YtjkbafcepblacaaW.PrintLast Go.Proofs.YtjkbafcepblacaaW.PrintMore
/-- A loop that adds up over a list. -/
theorem add_loop {α : Type} (L : Nat → Int → Int → Option Int) (l : List α) (z : α) (f : α → Int)
    (hL : ∀ k n i, L (k + 1) n i = if i < (l.length : Int) then (if 0 ≤ i then (L k (wrap64 (n + f (l.getD i.toNat z))) (wrap64 (i + 1))) else none) else some n)
    (hlen : l.length ≤ 1048576) (hf : ∀ x ∈ l, 0 ≤ f x) (n : Int) (h0 : 0 ≤ n) (hs : n + sumOf f l ≤ 2097152) : Ev (fun k => L k n 0) (n + sumOf f l) := by
  suffices h : ∀ (d i : Nat) (n : Int), i + d = l.length → 0 ≤ n → n + sumOf f (l.drop i) ≤ 2097152 → Ev (fun k => L k n i) (n + sumOf f (l.drop i)) by
    have := h l.length 0 n (by omega) h0 (by simpa using hs)
    simpa using this
  intro d
  induction d with
  | zero =>
    intro i n hi h0 hs
    refine Ev.step (fun k => hL k n i) (Ev.ineg (by omega) (Ev.rw (Ev.now n) ?_))
    rw [List.drop_of_length_le (by omega)]
    simp [sumOf]
  | succ d ih =>
    intro i n hi h0 hs
    have hlt : i < l.length := by omega
    have hx := hf _ (List.getElem_mem hlt)
    have hr := sumOf_nonneg (f := f) (l := l.drop (i + 1)) (fun y hy => hf y (List.mem_of_mem_drop hy))
    rw [sumOf_drop f l i hlt] at hs ⊢
    refine Ev.step (fun k => hL k n i) (Ev.ipos (by omega) (Ev.ipos (by omega) ?_))
    rw [show (i : Int).toNat = i from rfl, getD_at l z i hlt, w64 (x := n + f l[i]) (by omega) (by omega)]
    rw [show wrap64 ((i : Int) + 1) = ((i + 1 : Nat) : Int) by rw [w64 (by omega) (by omega)]; rfl]
    exact Ev.rw (ih (i + 1) (n + f l[i]) (by omega) (by omega) (by omega)) (by omega)
theorem cntB_nonneg (b : Block) : 0 ≤ cntB b := by have := len_nonneg b.f0; have := len_nonneg b.f1; unfold cntB; omega
/-- How many ids there are. -/
def countOf (p : List Int) (l : List Block) : Int := len p + sumOf cntB l
/-- It is a function whose lists are small. -/
def Small (p : List Int) (l : List Block) : Prop := smI p ∧ smbs l ∧ countOf p l ≤ 1048576
theorem cnt_wrap (b : Block) (h : smb b) : wrap64 ((b.f0.length : Int) + (b.f1.length : Int)) = cntB b := by
  have := h.1; have := h.2.2.1
  rw [w64 (by omega) (by omega)]; rfl
theorem countOf_nonneg (p : List Int) (l : List Block) : 0 ≤ countOf p l := by
  have := len_nonneg p
  have := sumOf_nonneg (l := l) (fun x _ => cntB_nonneg x)
  unfold countOf; omega
theorem sumOf_congr {α : Type} {f g : α → Int} : ∀ {l : List α}, (∀ x ∈ l, f x = g x) → sumOf f l = sumOf g l
  | [], _ => rfl
  | x :: l, h => by simp only [sumOf]; rw [h x (by simp), sumOf_congr (fun y hy => h y (by simp [hy]))]
theorem specCountOf_ev (p : List Int) (r : Int) (l : List Block) (h : Small p l) : Ev (fun k => spec_CountOf.f k p r l) (countOf p l) := by
  obtain ⟨hp, hl, hc⟩ := h
  have e : sumOf (fun b : Block => wrap64 ((b.f0.length : Int) + (b.f1.length : Int))) l = sumOf cntB l := sumOf_congr (fun b hb => cnt_wrap b (hl.2 b hb))
  have := add_loop (fun k n i => spec_CountOf.l0 k n i p r l) l z88 (fun b => wrap64 ((b.f0.length : Int) + (b.f1.length : Int))) (fun _ _ _ => rfl) hl.1 (fun b hb => by rw [cnt_wrap b (hl.2 b hb)]; exact cntB_nonneg b) (len p) (len_nonneg p) (by rw [e]; unfold countOf at hc; omega)
  rw [e] at this
  exact this
theorem implCountOf_ev (p : List Int) (r : Int) (l : List Block) (h : Small p l) : Ev (fun k => impl_CountOf.f k p r l) (countOf p l) := by
  obtain ⟨hp, hl, hc⟩ := h
  have e : sumOf (fun b : Block => wrap64 ((b.f0.length : Int) + (b.f1.length : Int))) l = sumOf cntB l := sumOf_congr (fun b hb => cnt_wrap b (hl.2 b hb))
  have := add_loop (fun k n i => impl_CountOf.l0 k n l (l.length : Int) i) l z88 (fun b => wrap64 ((b.f0.length : Int) + (b.f1.length : Int))) (fun k n i => by
    simp only [impl_CountOf.l0]
    by_cases c : i < (l.length : Int)
    · rw [if_pos c, if_pos c, if_pos c]; rfl
    · rw [if_neg c, if_neg c]) hl.1 (fun b hb => by rw [cnt_wrap b (hl.2 b hb)]; exact cntB_nonneg b) (len p) (len_nonneg p) (by rw [e]; unfold countOf at hc; omega)
  rw [e] at this
  exact this
/-- The frame of a law over a function: what is left to be shown is asked of small functions alone. -/
theorem small_of {p : List Int} {l : List LBlock} (h : len p + szBs l ≤ 1048576) : Small p (l.map cBlock) :=
  ⟨(sm_of_sz h).1, smbs_of (sm_of_sz h).2.1, cnt_le h⟩
theorem law_func {p : List Int} {r : Int} {l : List LBlock} (hw : wf54 ⟨p, r, l⟩) {g : Nat → Option Bool} (h : smI p → smBs l → Small p (l.map cBlock) → Ev g true) :
    Ev (fun k => (laws_szFunc.f k p r l 1048576).bind fun t => if t < 0 then some true else g k) true := by
  refine Ev.bind (szFunc_ev p r l hw 1048576 (by decide) (by decide)) ?_
  by_cases c : len p + szBs l ≤ 1048576
  · rw [show rem 1048576 (len p + szBs l) = 1048576 - (len p + szBs l) from if_pos c]
    exact Ev.ineg (by omega) (h (sm_of_sz c).1 (sm_of_sz c).2.1 (small_of c))
  · rw [show rem 1048576 (len p + szBs l) = -1 from if_neg c]
    exact Ev.ipos (by decide) (Ev.now true)
end Go.Proofs.Ytjkbafcepblacaa.X
namespace Go.Proofs.Ytjkbafcepblacaa.Pure
open Go.RowKit Go.Proofs.Ytjkbafcepblacaa.X Go.Proofs.YtjkbafcepblacaaW.PrintWords Go.Proofs.YtjkbafcepblacaaW.PrintLast

theorem FnExactCountOf : ∀ (l0_0 : List Int) (a0_1 : Int) (l0_2 : List (S113)), wf54 (⟨l0_0, a0_1, l0_2⟩ : S54) → ∃ k, laws_FnExactCountOf.f k l0_0 a0_1 l0_2 = some true := by
  intro p r l hw
  refine (law_func hw (fun hp hl hs => ?_)).rounds
  refine Ev.bind (toFunc_ev p r l hp hl) (Ev.bind (specCountOf_ev _ _ _ hs) (Ev.bind (toFunc_ev p r l hp hl) (Ev.bind (implCountOf_ev _ _ _ hs) (Ev.ipos rfl (Ev.bind (toFunc_ev p r l hp hl) (Ev.bind (eqFunc_ev _ _ _ hs.1 hs.2.1) (Ev.ipos rfl (Ev.now true))))))))

end Go.Proofs.Ytjkbafcepblacaa.Pure
