/- PROVED HERE: what the functions that the law FnExactConstOf reaches do in memory, each as a plain Lean function, and what these tell: part 2 of 4 of the proof of that law; no condition beyond those written out at each theorem. -/
import Derived.Test.YtjkbafcepblacaaZFnExactConstOf0
namespace Go.Proofs.Ytjkbafcepblacaa.X
open Go.RowKit Go.Proofs.YtjkbafcepblacaaW.PrintWords Go.Proofs.YtjkbafcepblacaaW.PrintLast Go.Proofs.YtjkbafcepblacaaW.PrintMore
attribute [local go_sem] max2_int min2_int max_two min_two max_three min_three max_four min_four   -- for this text's walks alone
set_option linter.unusedVariables false
set_option linter.unusedSimpArgs false
/-! ### laws_eqInst: function 19 -/
def laws_eqInst.f (k : Nat) (a0_0 : Int) (a0_1 : Int) (a0_2 : Int) (a0_3 : Int) (a0_4 : Int) (a0_5 : Int) (l0_6 : List Int) (a1_0 : Int) (a1_1 : Int) (a1_2 : Int) (a1_3 : Int) (a1_4 : Int) (a1_5 : Int) (l1_6 : List Int) : Option (Bool) := if a0_0 = a1_0 then (if a0_1 = a1_1 then (if a0_2 = a1_2 then (if a0_3 = a1_3 then (if a0_4 = a1_4 then (if a0_5 = a1_5 then ((laws_eqInt64S.f k l0_6 l1_6).bind fun t163 => (if t163 = true then (some true) else (some false))) else (some false)) else (some false)) else (some false)) else (some false)) else (some false)) else (some false)
theorem laws_eqInst.mono : ∀ a0 a1 a2 a3 a4 a5 a6 a7 a8 a9 a10 a11 a12 a13 k, LeO (laws_eqInst.f k a0 a1 a2 a3 a4 a5 a6 a7 a8 a9 a10 a11 a12 a13) (laws_eqInst.f (k + 1) a0 a1 a2 a3 a4 a5 a6 a7 a8 a9 a10 a11 a12 a13) := by
 intro a0 a1 a2 a3 a4 a5 a6 a7 a8 a9 a10 a11 a12 a13 k
 unfold laws_eqInst.f
 repeat' first
   | (with_reducible exact laws_eqInt64S.mono _ _ _)
   | (with_reducible exact LeO.refl _)
   | (with_reducible exact LeO.none _)
   | (with_reducible refine LeO.ite ?_ ?_)
   | (with_reducible refine LeO.bind ?_ (fun _ => ?_))
   | exact laws_eqInt64S.mono _ _ _
   | exact LeO.none _
   | refine LeO.ite ?_ ?_
   | refine LeO.bind ?_ (fun _ => ?_)
set_option maxHeartbeats 8000000 in
set_option maxRecDepth 100000 in
theorem laws_eqInst.calls (k : Nat) (a0_0 : Int) (a0_1 : Int) (a0_2 : Int) (a0_3 : Int) (a0_4 : Int) (a0_5 : Int) (A0_6 : Option Addr) (c0_6 : Nat) (l0_6 : List Int) (a1_0 : Int) (a1_1 : Int) (a1_2 : Int) (a1_3 : Int) (a1_4 : Int) (a1_5 : Int) (A1_6 : Option Addr) (c1_6 : Nat) (l1_6 : List Int) (r : Bool) (w : World) (hr0_6 : Kd.C (Kd.int .i64) w A0_6 l0_6.length l0_6) (hc0_6 : l0_6.length ≤ c0_6) (hr1_6 : Kd.C (Kd.int .i64) w A1_6 l1_6.length l1_6) (hc1_6 : l1_6.length ≤ c1_6) (h : laws_eqInst.f k a0_0 a0_1 a0_2 a0_3 a0_4 a0_5 l0_6 a1_0 a1_1 a1_2 a1_3 a1_4 a1_5 l1_6 = some r) :
  Calls Try.prog 19 #[.agg #[.int .i64 a0_0, .int .i64 a0_1, .int .i64 a0_2, .int .i64 a0_3, .int .i64 a0_4, .int .i64 a0_5, .slice A0_6 l0_6.length c0_6], .agg #[.int .i64 a1_0, .int .i64 a1_1, .int .i64 a1_2, .int .i64 a1_3, .int .i64 a1_4, .int .i64 a1_5, .slice A1_6 l1_6.length c1_6]] w fun e w' => e = .returned (.bool r) ∧ Below w.heap.size w w' := by
 have hu27 := Try.underlying27
 have HR0_6 := Aside0.mk hr0_6
 have HC0_6 := Aside0.mk hc0_6
 clear hr0_6 hc0_6
 have HR1_6 := Aside0.mk hr1_6
 have HC1_6 := Aside0.mk hc1_6
 clear hr1_6 hc1_6
 have HB := Aside0.mk (Below.refl w.heap.size w)
 have H : (if a0_0 = a1_0 then (if a0_1 = a1_1 then (if a0_2 = a1_2 then (if a0_3 = a1_3 then (if a0_4 = a1_4 then (if a0_5 = a1_5 then ((laws_eqInt64S.f k l0_6 l1_6).bind fun t163 => (if t163 = true then (some true) else (some false))) else (some false)) else (some false)) else (some false)) else (some false)) else (some false)) else (some false)) = some r := h
 clear h
 by_cases c3 : a0_0 = a1_0
 ·rw [if_pos c3] at H
  have c3b0 : (a0_0 == a1_0) = true := beq_iff_eq.mpr c3
  have c3b1 : (a0_0 != a1_0) = false := bne_eq_false_iff_eq.mpr c3
  clear c3
  by_cases c4 : a0_1 = a1_1
  ·rw [if_pos c4] at H
   have c4b0 : (a0_1 == a1_1) = true := beq_iff_eq.mpr c4
   have c4b1 : (a0_1 != a1_1) = false := bne_eq_false_iff_eq.mpr c4
   clear c4
   by_cases c5 : a0_2 = a1_2
   ·rw [if_pos c5] at H
    have c5b0 : (a0_2 == a1_2) = true := beq_iff_eq.mpr c5
    have c5b1 : (a0_2 != a1_2) = false := bne_eq_false_iff_eq.mpr c5
    clear c5
    by_cases c6 : a0_3 = a1_3
    ·rw [if_pos c6] at H
     have c6b0 : (a0_3 == a1_3) = true := beq_iff_eq.mpr c6
     have c6b1 : (a0_3 != a1_3) = false := bne_eq_false_iff_eq.mpr c6
     clear c6
     by_cases c7 : a0_4 = a1_4
     ·rw [if_pos c7] at H
      have c7b0 : (a0_4 == a1_4) = true := beq_iff_eq.mpr c7
      have c7b1 : (a0_4 != a1_4) = false := bne_eq_false_iff_eq.mpr c7
      clear c7
      by_cases c8 : a0_5 = a1_5
      ·rw [if_pos c8] at H
       have c8b0 : (a0_5 == a1_5) = true := beq_iff_eq.mpr c8
       have c8b1 : (a0_5 != a1_5) = false := bne_eq_false_iff_eq.mpr c8
       clear c8
       replace H := Option.bind_eq_some_iff.mp H
       obtain ⟨t163, A90, H⟩ := H
       replace H : (if t163 = true then (some true) else (some false)) = some r := H
       have A9 := Aside0.mk A90
       clear A90
       by_cases c10 : t163 = true
       ·subst c10
        have H1 := (if_pos rfl).symm.trans H
        clear H
        have H := H1
        clear H1
        obtain rfl := Option.some.inj H
        go_enter Try.func19, Try.ntmps19
        go_wp2_with (first | ((with_reducible refine gate_dst (N := 2) rfl ?_); refine box_event ?hg (N := 2) ?hd (cs := #[.int .i64 a0_0, .int .i64 a0_1, .int .i64 a0_2, .int .i64 a0_3, .int .i64 a0_4, .int .i64 a0_5, .slice A0_6 l0_6.length c0_6]) (t := 27) ?hr ?_; (case hd => rfl); (case hg => rfl); (case hr => first | (go_simp; done) | (go_simp; rfl)); intro gb161 hg w11 hbox hb; have n0_ := Aside0.mk (below_step hB_ hb); have n1_ := Aside0.mk (hbox); have n2_ := Aside0.mk ((sz_ hg (below_size hB_) : w.heap.size ≤ gb161)); have n3_ := Aside0.mk ((sz_ hg (below_size hB_) : w.heap.size ≤ gb161)); clear HB; have HB := n0_; have BK161 := n1_; have GW161 := n2_; have GE161 := n3_; clear n0_ n1_ n2_ n3_; clear hb hbox hg) | ((with_reducible refine gate_dst (N := 3) rfl ?_); refine box_event ?hg (N := 3) ?hd (cs := #[.int .i64 a1_0, .int .i64 a1_1, .int .i64 a1_2, .int .i64 a1_3, .int .i64 a1_4, .int .i64 a1_5, .slice A1_6 l1_6.length c1_6]) (t := 27) ?hr ?_; (case hd => rfl); (case hg => rfl); (case hr => first | (go_simp; done) | (go_simp; rfl)); intro gb162 hg w12 hbox hb; have n0_ := Aside0.mk (blk_below (g := gb161) (o := .cells #[.int .i64 a0_0, .int .i64 a0_1, .int .i64 a0_2, .int .i64 a0_3, .int .i64 a0_4, .int .i64 a0_5, .slice A0_6 l0_6.length c0_6] 27 (0, 0)) bK161_ hb); have n1_ := Aside0.mk (below_step hS_ hb); have n2_ := Aside0.mk (hbox); have n3_ := Aside0.mk ((sz_ hg (below_size hS_) : w.heap.size ≤ gb162)); have n4_ := Aside0.mk ((sz_ hg (below_size hS_) : w.heap.size ≤ gb162)); have n5_ := Aside0.mk ((by rw [hg]; exact Nat.ne_of_lt (blk_lt (g := gb161) (o := .cells #[.int .i64 a0_0, .int .i64 a0_1, .int .i64 a0_2, .int .i64 a0_3, .int .i64 a0_4, .int .i64 a0_5, .slice A0_6 l0_6.length c0_6] 27 (0, 0)) bK161_) : gb161 ≠ gb162)); have n6_ := Aside0.mk ((by rw [hg]; exact Nat.ne_of_gt (blk_lt (g := gb161) (o := .cells #[.int .i64 a0_0, .int .i64 a0_1, .int .i64 a0_2, .int .i64 a0_3, .int .i64 a0_4, .int .i64 a0_5, .slice A0_6 l0_6.length c0_6] 27 (0, 0)) bK161_) : gb162 ≠ gb161)); clear BK161; clear HB; have BK161 := n0_; have HB := n1_; have BK162 := n2_; have GW162 := n3_; have GE162 := n4_; have NB161_162 := n5_; have NB162_161 := n6_; clear n0_ n1_ n2_ n3_ n4_ n5_ n6_; clear hb hbox hg; have hnb13 := NB161_162.out; have hnc13 := NB162_161.out; obtain ⟨hcz14_0, hcz14_1, hcz14_2, hcz14_3, hcz14_4, hcz14_5, hcz14_6, hfz14_0, hfz14_1, hfz14_2, hfz14_3, hfz14_4, hfz14_5, hfz14_6⟩ := blkc7_ BK161.out; obtain ⟨hcz15_0, hcz15_1, hcz15_2, hcz15_3, hcz15_4, hcz15_5, hcz15_6, hfz15_0, hfz15_1, hfz15_2, hfz15_3, hfz15_4, hfz15_5, hfz15_6⟩ := blkc7_ BK162.out) | ((with_reducible refine gate_callee (f := 18) rfl ?_); refine gL_ (some 39) Try.func18 #[.slice A0_6 l0_6.length c0_6, .slice A1_6 l1_6.length c1_6] ?_; (with_reducible refine (laws_eqInt64S.calls k _ _ l0_6 _ _ l1_6 true _ ?side1 ?side2 ?side3 ?side4 A9.out).mono ?_); (case side1 => exact cHR0_6_); (case side2 => exact HC0_6.out); (case side3 => exact cHR1_6_); (case side4 => exact HC1_6.out); rintro e w' ⟨rfl, ⟨nd, rfl⟩⟩; refine ⟨_, rfl, ?_⟩))
        go_ret
        exact ⟨rG_, hS_⟩
       ·replace c10 := Bool.eq_false_iff.mpr c10
        subst c10
        have H1 := (if_neg (show ¬ (false = true) by decide)).symm.trans H
        clear H
        have H := H1
        clear H1
        obtain rfl := Option.some.inj H
        go_enter Try.func19, Try.ntmps19
        go_wp2_with (first | ((with_reducible refine gate_dst (N := 2) rfl ?_); refine box_event ?hg (N := 2) ?hd (cs := #[.int .i64 a0_0, .int .i64 a0_1, .int .i64 a0_2, .int .i64 a0_3, .int .i64 a0_4, .int .i64 a0_5, .slice A0_6 l0_6.length c0_6]) (t := 27) ?hr ?_; (case hd => rfl); (case hg => rfl); (case hr => first | (go_simp; done) | (go_simp; rfl)); intro gb161 hg w16 hbox hb; have n0_ := Aside0.mk (below_step hB_ hb); have n1_ := Aside0.mk (hbox); have n2_ := Aside0.mk ((sz_ hg (below_size hB_) : w.heap.size ≤ gb161)); have n3_ := Aside0.mk ((sz_ hg (below_size hB_) : w.heap.size ≤ gb161)); clear HB; have HB := n0_; have BK161 := n1_; have GW161 := n2_; have GE161 := n3_; clear n0_ n1_ n2_ n3_; clear hb hbox hg) | ((with_reducible refine gate_dst (N := 3) rfl ?_); refine box_event ?hg (N := 3) ?hd (cs := #[.int .i64 a1_0, .int .i64 a1_1, .int .i64 a1_2, .int .i64 a1_3, .int .i64 a1_4, .int .i64 a1_5, .slice A1_6 l1_6.length c1_6]) (t := 27) ?hr ?_; (case hd => rfl); (case hg => rfl); (case hr => first | (go_simp; done) | (go_simp; rfl)); intro gb162 hg w17 hbox hb; have n0_ := Aside0.mk (blk_below (g := gb161) (o := .cells #[.int .i64 a0_0, .int .i64 a0_1, .int .i64 a0_2, .int .i64 a0_3, .int .i64 a0_4, .int .i64 a0_5, .slice A0_6 l0_6.length c0_6] 27 (0, 0)) bK161_ hb); have n1_ := Aside0.mk (below_step hS_ hb); have n2_ := Aside0.mk (hbox); have n3_ := Aside0.mk ((sz_ hg (below_size hS_) : w.heap.size ≤ gb162)); have n4_ := Aside0.mk ((sz_ hg (below_size hS_) : w.heap.size ≤ gb162)); have n5_ := Aside0.mk ((by rw [hg]; exact Nat.ne_of_lt (blk_lt (g := gb161) (o := .cells #[.int .i64 a0_0, .int .i64 a0_1, .int .i64 a0_2, .int .i64 a0_3, .int .i64 a0_4, .int .i64 a0_5, .slice A0_6 l0_6.length c0_6] 27 (0, 0)) bK161_) : gb161 ≠ gb162)); have n6_ := Aside0.mk ((by rw [hg]; exact Nat.ne_of_gt (blk_lt (g := gb161) (o := .cells #[.int .i64 a0_0, .int .i64 a0_1, .int .i64 a0_2, .int .i64 a0_3, .int .i64 a0_4, .int .i64 a0_5, .slice A0_6 l0_6.length c0_6] 27 (0, 0)) bK161_) : gb162 ≠ gb161)); clear BK161; clear HB; have BK161 := n0_; have HB := n1_; have BK162 := n2_; have GW162 := n3_; have GE162 := n4_; have NB161_162 := n5_; have NB162_161 := n6_; clear n0_ n1_ n2_ n3_ n4_ n5_ n6_; clear hb hbox hg; have hnb18 := NB161_162.out; have hnc18 := NB162_161.out; obtain ⟨hcz19_0, hcz19_1, hcz19_2, hcz19_3, hcz19_4, hcz19_5, hcz19_6, hfz19_0, hfz19_1, hfz19_2, hfz19_3, hfz19_4, hfz19_5, hfz19_6⟩ := blkc7_ BK161.out; obtain ⟨hcz20_0, hcz20_1, hcz20_2, hcz20_3, hcz20_4, hcz20_5, hcz20_6, hfz20_0, hfz20_1, hfz20_2, hfz20_3, hfz20_4, hfz20_5, hfz20_6⟩ := blkc7_ BK162.out) | ((with_reducible refine gate_callee (f := 18) rfl ?_); refine gL_ (some 39) Try.func18 #[.slice A0_6 l0_6.length c0_6, .slice A1_6 l1_6.length c1_6] ?_; (with_reducible refine (laws_eqInt64S.calls k _ _ l0_6 _ _ l1_6 false _ ?side1 ?side2 ?side3 ?side4 A9.out).mono ?_); (case side1 => exact cHR0_6_); (case side2 => exact HC0_6.out); (case side3 => exact cHR1_6_); (case side4 => exact HC1_6.out); rintro e w' ⟨rfl, ⟨nd, rfl⟩⟩; refine ⟨_, rfl, ?_⟩))
        go_ret
        exact ⟨rG_, hS_⟩
      ·rw [if_neg c8] at H
       have c8b0 : (a0_5 == a1_5) = false := beq_eq_false_iff_ne.mpr c8
       have c8b1 : (a0_5 != a1_5) = true := bne_iff_ne.mpr c8
       obtain rfl := Option.some.inj H
       go_enter Try.func19, Try.ntmps19
       go_wp2_with (first | ((with_reducible refine gate_dst (N := 2) rfl ?_); refine box_event ?hg (N := 2) ?hd (cs := #[.int .i64 a0_0, .int .i64 a0_1, .int .i64 a0_2, .int .i64 a0_3, .int .i64 a0_4, .int .i64 a0_5, .slice A0_6 l0_6.length c0_6]) (t := 27) ?hr ?_; (case hd => rfl); (case hg => rfl); (case hr => first | (go_simp; done) | (go_simp; rfl)); intro gb161 hg w21 hbox hb; have n0_ := Aside0.mk (below_step hB_ hb); have n1_ := Aside0.mk (hbox); have n2_ := Aside0.mk ((sz_ hg (below_size hB_) : w.heap.size ≤ gb161)); have n3_ := Aside0.mk ((sz_ hg (below_size hB_) : w.heap.size ≤ gb161)); clear HB; have HB := n0_; have BK161 := n1_; have GW161 := n2_; have GE161 := n3_; clear n0_ n1_ n2_ n3_; clear hb hbox hg) | ((with_reducible refine gate_dst (N := 3) rfl ?_); refine box_event ?hg (N := 3) ?hd (cs := #[.int .i64 a1_0, .int .i64 a1_1, .int .i64 a1_2, .int .i64 a1_3, .int .i64 a1_4, .int .i64 a1_5, .slice A1_6 l1_6.length c1_6]) (t := 27) ?hr ?_; (case hd => rfl); (case hg => rfl); (case hr => first | (go_simp; done) | (go_simp; rfl)); intro gb162 hg w22 hbox hb; have n0_ := Aside0.mk (blk_below (g := gb161) (o := .cells #[.int .i64 a0_0, .int .i64 a0_1, .int .i64 a0_2, .int .i64 a0_3, .int .i64 a0_4, .int .i64 a0_5, .slice A0_6 l0_6.length c0_6] 27 (0, 0)) bK161_ hb); have n1_ := Aside0.mk (below_step hS_ hb); have n2_ := Aside0.mk (hbox); have n3_ := Aside0.mk ((sz_ hg (below_size hS_) : w.heap.size ≤ gb162)); have n4_ := Aside0.mk ((sz_ hg (below_size hS_) : w.heap.size ≤ gb162)); have n5_ := Aside0.mk ((by rw [hg]; exact Nat.ne_of_lt (blk_lt (g := gb161) (o := .cells #[.int .i64 a0_0, .int .i64 a0_1, .int .i64 a0_2, .int .i64 a0_3, .int .i64 a0_4, .int .i64 a0_5, .slice A0_6 l0_6.length c0_6] 27 (0, 0)) bK161_) : gb161 ≠ gb162)); have n6_ := Aside0.mk ((by rw [hg]; exact Nat.ne_of_gt (blk_lt (g := gb161) (o := .cells #[.int .i64 a0_0, .int .i64 a0_1, .int .i64 a0_2, .int .i64 a0_3, .int .i64 a0_4, .int .i64 a0_5, .slice A0_6 l0_6.length c0_6] 27 (0, 0)) bK161_) : gb162 ≠ gb161)); clear BK161; clear HB; have BK161 := n0_; have HB := n1_; have BK162 := n2_; have GW162 := n3_; have GE162 := n4_; have NB161_162 := n5_; have NB162_161 := n6_; clear n0_ n1_ n2_ n3_ n4_ n5_ n6_; clear hb hbox hg; have hnb23 := NB161_162.out; have hnc23 := NB162_161.out; obtain ⟨hcz24_0, hcz24_1, hcz24_2, hcz24_3, hcz24_4, hcz24_5, hcz24_6, hfz24_0, hfz24_1, hfz24_2, hfz24_3, hfz24_4, hfz24_5, hfz24_6⟩ := blkc7_ BK161.out; obtain ⟨hcz25_0, hcz25_1, hcz25_2, hcz25_3, hcz25_4, hcz25_5, hcz25_6, hfz25_0, hfz25_1, hfz25_2, hfz25_3, hfz25_4, hfz25_5, hfz25_6⟩ := blkc7_ BK162.out))
       go_ret
       exact ⟨rG_, hS_⟩
     ·rw [if_neg c7] at H
      have c7b0 : (a0_4 == a1_4) = false := beq_eq_false_iff_ne.mpr c7
      have c7b1 : (a0_4 != a1_4) = true := bne_iff_ne.mpr c7
      obtain rfl := Option.some.inj H
      go_enter Try.func19, Try.ntmps19
      go_wp2_with (first | ((with_reducible refine gate_dst (N := 2) rfl ?_); refine box_event ?hg (N := 2) ?hd (cs := #[.int .i64 a0_0, .int .i64 a0_1, .int .i64 a0_2, .int .i64 a0_3, .int .i64 a0_4, .int .i64 a0_5, .slice A0_6 l0_6.length c0_6]) (t := 27) ?hr ?_; (case hd => rfl); (case hg => rfl); (case hr => first | (go_simp; done) | (go_simp; rfl)); intro gb161 hg w26 hbox hb; have n0_ := Aside0.mk (below_step hB_ hb); have n1_ := Aside0.mk (hbox); have n2_ := Aside0.mk ((sz_ hg (below_size hB_) : w.heap.size ≤ gb161)); have n3_ := Aside0.mk ((sz_ hg (below_size hB_) : w.heap.size ≤ gb161)); clear HB; have HB := n0_; have BK161 := n1_; have GW161 := n2_; have GE161 := n3_; clear n0_ n1_ n2_ n3_; clear hb hbox hg) | ((with_reducible refine gate_dst (N := 3) rfl ?_); refine box_event ?hg (N := 3) ?hd (cs := #[.int .i64 a1_0, .int .i64 a1_1, .int .i64 a1_2, .int .i64 a1_3, .int .i64 a1_4, .int .i64 a1_5, .slice A1_6 l1_6.length c1_6]) (t := 27) ?hr ?_; (case hd => rfl); (case hg => rfl); (case hr => first | (go_simp; done) | (go_simp; rfl)); intro gb162 hg w27 hbox hb; have n0_ := Aside0.mk (blk_below (g := gb161) (o := .cells #[.int .i64 a0_0, .int .i64 a0_1, .int .i64 a0_2, .int .i64 a0_3, .int .i64 a0_4, .int .i64 a0_5, .slice A0_6 l0_6.length c0_6] 27 (0, 0)) bK161_ hb); have n1_ := Aside0.mk (below_step hS_ hb); have n2_ := Aside0.mk (hbox); have n3_ := Aside0.mk ((sz_ hg (below_size hS_) : w.heap.size ≤ gb162)); have n4_ := Aside0.mk ((sz_ hg (below_size hS_) : w.heap.size ≤ gb162)); have n5_ := Aside0.mk ((by rw [hg]; exact Nat.ne_of_lt (blk_lt (g := gb161) (o := .cells #[.int .i64 a0_0, .int .i64 a0_1, .int .i64 a0_2, .int .i64 a0_3, .int .i64 a0_4, .int .i64 a0_5, .slice A0_6 l0_6.length c0_6] 27 (0, 0)) bK161_) : gb161 ≠ gb162)); have n6_ := Aside0.mk ((by rw [hg]; exact Nat.ne_of_gt (blk_lt (g := gb161) (o := .cells #[.int .i64 a0_0, .int .i64 a0_1, .int .i64 a0_2, .int .i64 a0_3, .int .i64 a0_4, .int .i64 a0_5, .slice A0_6 l0_6.length c0_6] 27 (0, 0)) bK161_) : gb162 ≠ gb161)); clear BK161; clear HB; have BK161 := n0_; have HB := n1_; have BK162 := n2_; have GW162 := n3_; have GE162 := n4_; have NB161_162 := n5_; have NB162_161 := n6_; clear n0_ n1_ n2_ n3_ n4_ n5_ n6_; clear hb hbox hg; have hnb28 := NB161_162.out; have hnc28 := NB162_161.out; obtain ⟨hcz29_0, hcz29_1, hcz29_2, hcz29_3, hcz29_4, hcz29_5, hcz29_6, hfz29_0, hfz29_1, hfz29_2, hfz29_3, hfz29_4, hfz29_5, hfz29_6⟩ := blkc7_ BK161.out; obtain ⟨hcz30_0, hcz30_1, hcz30_2, hcz30_3, hcz30_4, hcz30_5, hcz30_6, hfz30_0, hfz30_1, hfz30_2, hfz30_3, hfz30_4, hfz30_5, hfz30_6⟩ := blkc7_ BK162.out))
      go_ret
      exact ⟨rG_, hS_⟩
    ·rw [if_neg c6] at H
     have c6b0 : (a0_3 == a1_3) = false := beq_eq_false_iff_ne.mpr c6
     have c6b1 : (a0_3 != a1_3) = true := bne_iff_ne.mpr c6
     obtain rfl := Option.some.inj H
     go_enter Try.func19, Try.ntmps19
     go_wp2_with (first | ((with_reducible refine gate_dst (N := 2) rfl ?_); refine box_event ?hg (N := 2) ?hd (cs := #[.int .i64 a0_0, .int .i64 a0_1, .int .i64 a0_2, .int .i64 a0_3, .int .i64 a0_4, .int .i64 a0_5, .slice A0_6 l0_6.length c0_6]) (t := 27) ?hr ?_; (case hd => rfl); (case hg => rfl); (case hr => first | (go_simp; done) | (go_simp; rfl)); intro gb161 hg w31 hbox hb; have n0_ := Aside0.mk (below_step hB_ hb); have n1_ := Aside0.mk (hbox); have n2_ := Aside0.mk ((sz_ hg (below_size hB_) : w.heap.size ≤ gb161)); have n3_ := Aside0.mk ((sz_ hg (below_size hB_) : w.heap.size ≤ gb161)); clear HB; have HB := n0_; have BK161 := n1_; have GW161 := n2_; have GE161 := n3_; clear n0_ n1_ n2_ n3_; clear hb hbox hg) | ((with_reducible refine gate_dst (N := 3) rfl ?_); refine box_event ?hg (N := 3) ?hd (cs := #[.int .i64 a1_0, .int .i64 a1_1, .int .i64 a1_2, .int .i64 a1_3, .int .i64 a1_4, .int .i64 a1_5, .slice A1_6 l1_6.length c1_6]) (t := 27) ?hr ?_; (case hd => rfl); (case hg => rfl); (case hr => first | (go_simp; done) | (go_simp; rfl)); intro gb162 hg w32 hbox hb; have n0_ := Aside0.mk (blk_below (g := gb161) (o := .cells #[.int .i64 a0_0, .int .i64 a0_1, .int .i64 a0_2, .int .i64 a0_3, .int .i64 a0_4, .int .i64 a0_5, .slice A0_6 l0_6.length c0_6] 27 (0, 0)) bK161_ hb); have n1_ := Aside0.mk (below_step hS_ hb); have n2_ := Aside0.mk (hbox); have n3_ := Aside0.mk ((sz_ hg (below_size hS_) : w.heap.size ≤ gb162)); have n4_ := Aside0.mk ((sz_ hg (below_size hS_) : w.heap.size ≤ gb162)); have n5_ := Aside0.mk ((by rw [hg]; exact Nat.ne_of_lt (blk_lt (g := gb161) (o := .cells #[.int .i64 a0_0, .int .i64 a0_1, .int .i64 a0_2, .int .i64 a0_3, .int .i64 a0_4, .int .i64 a0_5, .slice A0_6 l0_6.length c0_6] 27 (0, 0)) bK161_) : gb161 ≠ gb162)); have n6_ := Aside0.mk ((by rw [hg]; exact Nat.ne_of_gt (blk_lt (g := gb161) (o := .cells #[.int .i64 a0_0, .int .i64 a0_1, .int .i64 a0_2, .int .i64 a0_3, .int .i64 a0_4, .int .i64 a0_5, .slice A0_6 l0_6.length c0_6] 27 (0, 0)) bK161_) : gb162 ≠ gb161)); clear BK161; clear HB; have BK161 := n0_; have HB := n1_; have BK162 := n2_; have GW162 := n3_; have GE162 := n4_; have NB161_162 := n5_; have NB162_161 := n6_; clear n0_ n1_ n2_ n3_ n4_ n5_ n6_; clear hb hbox hg; have hnb33 := NB161_162.out; have hnc33 := NB162_161.out; obtain ⟨hcz34_0, hcz34_1, hcz34_2, hcz34_3, hcz34_4, hcz34_5, hcz34_6, hfz34_0, hfz34_1, hfz34_2, hfz34_3, hfz34_4, hfz34_5, hfz34_6⟩ := blkc7_ BK161.out; obtain ⟨hcz35_0, hcz35_1, hcz35_2, hcz35_3, hcz35_4, hcz35_5, hcz35_6, hfz35_0, hfz35_1, hfz35_2, hfz35_3, hfz35_4, hfz35_5, hfz35_6⟩ := blkc7_ BK162.out))
     go_ret
     exact ⟨rG_, hS_⟩
   ·rw [if_neg c5] at H
    have c5b0 : (a0_2 == a1_2) = false := beq_eq_false_iff_ne.mpr c5
    have c5b1 : (a0_2 != a1_2) = true := bne_iff_ne.mpr c5
    obtain rfl := Option.some.inj H
    go_enter Try.func19, Try.ntmps19
    go_wp2_with (first | ((with_reducible refine gate_dst (N := 2) rfl ?_); refine box_event ?hg (N := 2) ?hd (cs := #[.int .i64 a0_0, .int .i64 a0_1, .int .i64 a0_2, .int .i64 a0_3, .int .i64 a0_4, .int .i64 a0_5, .slice A0_6 l0_6.length c0_6]) (t := 27) ?hr ?_; (case hd => rfl); (case hg => rfl); (case hr => first | (go_simp; done) | (go_simp; rfl)); intro gb161 hg w36 hbox hb; have n0_ := Aside0.mk (below_step hB_ hb); have n1_ := Aside0.mk (hbox); have n2_ := Aside0.mk ((sz_ hg (below_size hB_) : w.heap.size ≤ gb161)); have n3_ := Aside0.mk ((sz_ hg (below_size hB_) : w.heap.size ≤ gb161)); clear HB; have HB := n0_; have BK161 := n1_; have GW161 := n2_; have GE161 := n3_; clear n0_ n1_ n2_ n3_; clear hb hbox hg) | ((with_reducible refine gate_dst (N := 3) rfl ?_); refine box_event ?hg (N := 3) ?hd (cs := #[.int .i64 a1_0, .int .i64 a1_1, .int .i64 a1_2, .int .i64 a1_3, .int .i64 a1_4, .int .i64 a1_5, .slice A1_6 l1_6.length c1_6]) (t := 27) ?hr ?_; (case hd => rfl); (case hg => rfl); (case hr => first | (go_simp; done) | (go_simp; rfl)); intro gb162 hg w37 hbox hb; have n0_ := Aside0.mk (blk_below (g := gb161) (o := .cells #[.int .i64 a0_0, .int .i64 a0_1, .int .i64 a0_2, .int .i64 a0_3, .int .i64 a0_4, .int .i64 a0_5, .slice A0_6 l0_6.length c0_6] 27 (0, 0)) bK161_ hb); have n1_ := Aside0.mk (below_step hS_ hb); have n2_ := Aside0.mk (hbox); have n3_ := Aside0.mk ((sz_ hg (below_size hS_) : w.heap.size ≤ gb162)); have n4_ := Aside0.mk ((sz_ hg (below_size hS_) : w.heap.size ≤ gb162)); have n5_ := Aside0.mk ((by rw [hg]; exact Nat.ne_of_lt (blk_lt (g := gb161) (o := .cells #[.int .i64 a0_0, .int .i64 a0_1, .int .i64 a0_2, .int .i64 a0_3, .int .i64 a0_4, .int .i64 a0_5, .slice A0_6 l0_6.length c0_6] 27 (0, 0)) bK161_) : gb161 ≠ gb162)); have n6_ := Aside0.mk ((by rw [hg]; exact Nat.ne_of_gt (blk_lt (g := gb161) (o := .cells #[.int .i64 a0_0, .int .i64 a0_1, .int .i64 a0_2, .int .i64 a0_3, .int .i64 a0_4, .int .i64 a0_5, .slice A0_6 l0_6.length c0_6] 27 (0, 0)) bK161_) : gb162 ≠ gb161)); clear BK161; clear HB; have BK161 := n0_; have HB := n1_; have BK162 := n2_; have GW162 := n3_; have GE162 := n4_; have NB161_162 := n5_; have NB162_161 := n6_; clear n0_ n1_ n2_ n3_ n4_ n5_ n6_; clear hb hbox hg; have hnb38 := NB161_162.out; have hnc38 := NB162_161.out; obtain ⟨hcz39_0, hcz39_1, hcz39_2, hcz39_3, hcz39_4, hcz39_5, hcz39_6, hfz39_0, hfz39_1, hfz39_2, hfz39_3, hfz39_4, hfz39_5, hfz39_6⟩ := blkc7_ BK161.out; obtain ⟨hcz40_0, hcz40_1, hcz40_2, hcz40_3, hcz40_4, hcz40_5, hcz40_6, hfz40_0, hfz40_1, hfz40_2, hfz40_3, hfz40_4, hfz40_5, hfz40_6⟩ := blkc7_ BK162.out))
    go_ret
    exact ⟨rG_, hS_⟩
  ·rw [if_neg c4] at H
   have c4b0 : (a0_1 == a1_1) = false := beq_eq_false_iff_ne.mpr c4
   have c4b1 : (a0_1 != a1_1) = true := bne_iff_ne.mpr c4
   obtain rfl := Option.some.inj H
   go_enter Try.func19, Try.ntmps19
   go_wp2_with (first | ((with_reducible refine gate_dst (N := 2) rfl ?_); refine box_event ?hg (N := 2) ?hd (cs := #[.int .i64 a0_0, .int .i64 a0_1, .int .i64 a0_2, .int .i64 a0_3, .int .i64 a0_4, .int .i64 a0_5, .slice A0_6 l0_6.length c0_6]) (t := 27) ?hr ?_; (case hd => rfl); (case hg => rfl); (case hr => first | (go_simp; done) | (go_simp; rfl)); intro gb161 hg w41 hbox hb; have n0_ := Aside0.mk (below_step hB_ hb); have n1_ := Aside0.mk (hbox); have n2_ := Aside0.mk ((sz_ hg (below_size hB_) : w.heap.size ≤ gb161)); have n3_ := Aside0.mk ((sz_ hg (below_size hB_) : w.heap.size ≤ gb161)); clear HB; have HB := n0_; have BK161 := n1_; have GW161 := n2_; have GE161 := n3_; clear n0_ n1_ n2_ n3_; clear hb hbox hg) | ((with_reducible refine gate_dst (N := 3) rfl ?_); refine box_event ?hg (N := 3) ?hd (cs := #[.int .i64 a1_0, .int .i64 a1_1, .int .i64 a1_2, .int .i64 a1_3, .int .i64 a1_4, .int .i64 a1_5, .slice A1_6 l1_6.length c1_6]) (t := 27) ?hr ?_; (case hd => rfl); (case hg => rfl); (case hr => first | (go_simp; done) | (go_simp; rfl)); intro gb162 hg w42 hbox hb; have n0_ := Aside0.mk (blk_below (g := gb161) (o := .cells #[.int .i64 a0_0, .int .i64 a0_1, .int .i64 a0_2, .int .i64 a0_3, .int .i64 a0_4, .int .i64 a0_5, .slice A0_6 l0_6.length c0_6] 27 (0, 0)) bK161_ hb); have n1_ := Aside0.mk (below_step hS_ hb); have n2_ := Aside0.mk (hbox); have n3_ := Aside0.mk ((sz_ hg (below_size hS_) : w.heap.size ≤ gb162)); have n4_ := Aside0.mk ((sz_ hg (below_size hS_) : w.heap.size ≤ gb162)); have n5_ := Aside0.mk ((by rw [hg]; exact Nat.ne_of_lt (blk_lt (g := gb161) (o := .cells #[.int .i64 a0_0, .int .i64 a0_1, .int .i64 a0_2, .int .i64 a0_3, .int .i64 a0_4, .int .i64 a0_5, .slice A0_6 l0_6.length c0_6] 27 (0, 0)) bK161_) : gb161 ≠ gb162)); have n6_ := Aside0.mk ((by rw [hg]; exact Nat.ne_of_gt (blk_lt (g := gb161) (o := .cells #[.int .i64 a0_0, .int .i64 a0_1, .int .i64 a0_2, .int .i64 a0_3, .int .i64 a0_4, .int .i64 a0_5, .slice A0_6 l0_6.length c0_6] 27 (0, 0)) bK161_) : gb162 ≠ gb161)); clear BK161; clear HB; have BK161 := n0_; have HB := n1_; have BK162 := n2_; have GW162 := n3_; have GE162 := n4_; have NB161_162 := n5_; have NB162_161 := n6_; clear n0_ n1_ n2_ n3_ n4_ n5_ n6_; clear hb hbox hg; have hnb43 := NB161_162.out; have hnc43 := NB162_161.out; obtain ⟨hcz44_0, hcz44_1, hcz44_2, hcz44_3, hcz44_4, hcz44_5, hcz44_6, hfz44_0, hfz44_1, hfz44_2, hfz44_3, hfz44_4, hfz44_5, hfz44_6⟩ := blkc7_ BK161.out; obtain ⟨hcz45_0, hcz45_1, hcz45_2, hcz45_3, hcz45_4, hcz45_5, hcz45_6, hfz45_0, hfz45_1, hfz45_2, hfz45_3, hfz45_4, hfz45_5, hfz45_6⟩ := blkc7_ BK162.out))
   go_ret
   exact ⟨rG_, hS_⟩
 ·rw [if_neg c3] at H
  have c3b0 : (a0_0 == a1_0) = false := beq_eq_false_iff_ne.mpr c3
  have c3b1 : (a0_0 != a1_0) = true := bne_iff_ne.mpr c3
  obtain rfl := Option.some.inj H
  go_enter Try.func19, Try.ntmps19
  go_wp2_with (first | ((with_reducible refine gate_dst (N := 2) rfl ?_); refine box_event ?hg (N := 2) ?hd (cs := #[.int .i64 a0_0, .int .i64 a0_1, .int .i64 a0_2, .int .i64 a0_3, .int .i64 a0_4, .int .i64 a0_5, .slice A0_6 l0_6.length c0_6]) (t := 27) ?hr ?_; (case hd => rfl); (case hg => rfl); (case hr => first | (go_simp; done) | (go_simp; rfl)); intro gb161 hg w46 hbox hb; have n0_ := Aside0.mk (below_step hB_ hb); have n1_ := Aside0.mk (hbox); have n2_ := Aside0.mk ((sz_ hg (below_size hB_) : w.heap.size ≤ gb161)); have n3_ := Aside0.mk ((sz_ hg (below_size hB_) : w.heap.size ≤ gb161)); clear HB; have HB := n0_; have BK161 := n1_; have GW161 := n2_; have GE161 := n3_; clear n0_ n1_ n2_ n3_; clear hb hbox hg) | ((with_reducible refine gate_dst (N := 3) rfl ?_); refine box_event ?hg (N := 3) ?hd (cs := #[.int .i64 a1_0, .int .i64 a1_1, .int .i64 a1_2, .int .i64 a1_3, .int .i64 a1_4, .int .i64 a1_5, .slice A1_6 l1_6.length c1_6]) (t := 27) ?hr ?_; (case hd => rfl); (case hg => rfl); (case hr => first | (go_simp; done) | (go_simp; rfl)); intro gb162 hg w47 hbox hb; have n0_ := Aside0.mk (blk_below (g := gb161) (o := .cells #[.int .i64 a0_0, .int .i64 a0_1, .int .i64 a0_2, .int .i64 a0_3, .int .i64 a0_4, .int .i64 a0_5, .slice A0_6 l0_6.length c0_6] 27 (0, 0)) bK161_ hb); have n1_ := Aside0.mk (below_step hS_ hb); have n2_ := Aside0.mk (hbox); have n3_ := Aside0.mk ((sz_ hg (below_size hS_) : w.heap.size ≤ gb162)); have n4_ := Aside0.mk ((sz_ hg (below_size hS_) : w.heap.size ≤ gb162)); have n5_ := Aside0.mk ((by rw [hg]; exact Nat.ne_of_lt (blk_lt (g := gb161) (o := .cells #[.int .i64 a0_0, .int .i64 a0_1, .int .i64 a0_2, .int .i64 a0_3, .int .i64 a0_4, .int .i64 a0_5, .slice A0_6 l0_6.length c0_6] 27 (0, 0)) bK161_) : gb161 ≠ gb162)); have n6_ := Aside0.mk ((by rw [hg]; exact Nat.ne_of_gt (blk_lt (g := gb161) (o := .cells #[.int .i64 a0_0, .int .i64 a0_1, .int .i64 a0_2, .int .i64 a0_3, .int .i64 a0_4, .int .i64 a0_5, .slice A0_6 l0_6.length c0_6] 27 (0, 0)) bK161_) : gb162 ≠ gb161)); clear BK161; clear HB; have BK161 := n0_; have HB := n1_; have BK162 := n2_; have GW162 := n3_; have GE162 := n4_; have NB161_162 := n5_; have NB162_161 := n6_; clear n0_ n1_ n2_ n3_ n4_ n5_ n6_; clear hb hbox hg; have hnb48 := NB161_162.out; have hnc48 := NB162_161.out; obtain ⟨hcz49_0, hcz49_1, hcz49_2, hcz49_3, hcz49_4, hcz49_5, hcz49_6, hfz49_0, hfz49_1, hfz49_2, hfz49_3, hfz49_4, hfz49_5, hfz49_6⟩ := blkc7_ BK161.out; obtain ⟨hcz50_0, hcz50_1, hcz50_2, hcz50_3, hcz50_4, hcz50_5, hcz50_6, hfz50_0, hfz50_1, hfz50_2, hfz50_3, hfz50_4, hfz50_5, hfz50_6⟩ := blkc7_ BK162.out))
  go_ret
  exact ⟨rG_, hS_⟩
/-! ### laws_eqInstS: function 129 -/
def laws_eqInstS.l0 : Nat → List (S27) → List (S27) → Int → Option (Bool)
 | 0, _, _, _ => none
 | k + 1, x0, x1, x5 => if x5 < (x0.length : Int) then (if 0 ≤ x5 then (if x5 < (x1.length : Int) then ((laws_eqInst.f k ((rd_T27 x0 x5).f0) ((rd_T27 x0 x5).f1) ((rd_T27 x0 x5).f2) ((rd_T27 x0 x5).f3) ((rd_T27 x0 x5).f4) ((rd_T27 x0 x5).f5) ((rd_T27 x0 x5).f6) ((rd_T27 x1 x5).f0) ((rd_T27 x1 x5).f1) ((rd_T27 x1 x5).f2) ((rd_T27 x1 x5).f3) ((rd_T27 x1 x5).f4) ((rd_T27 x1 x5).f5) ((rd_T27 x1 x5).f6)).bind fun t830 => (if t830 = true then (laws_eqInstS.l0 k x0 x1 (wrap64 (x5 + 1))) else (some false))) else (none)) else (none)) else (some true)
def laws_eqInstS.f (k : Nat) (l0 : List (S27)) (l1 : List (S27)) : Option (Bool) := if (l0.length : Int) = (l1.length : Int) then (laws_eqInstS.l0 k l0 l1 0) else (some false)
theorem laws_eqInstS.mono_l : ∀ k, (∀ y0 y1 y2, LeO (laws_eqInstS.l0 k y0 y1 y2) (laws_eqInstS.l0 (k + 1) y0 y1 y2))
 | 0 => fun _ _ _ r h => by simp [laws_eqInstS.l0] at h
 | k + 1 => by
  have ih0 := laws_eqInstS.mono_l k
  ·intro y0 y1 y2
   unfold laws_eqInstS.l0
   repeat' first
   | (with_reducible exact ih0 _ _ _)
   | (with_reducible exact laws_eqInst.mono _ _ _ _ _ _ _ _ _ _ _ _ _ _ _)
   | (with_reducible exact LeO.refl _)
   | (with_reducible exact LeO.none _)
   | (with_reducible refine LeO.ite ?_ ?_)
   | (with_reducible refine LeO.bind ?_ (fun _ => ?_))
   | exact ih0 _ _ _
   | exact laws_eqInst.mono _ _ _ _ _ _ _ _ _ _ _ _ _ _ _
   | exact LeO.none _
   | refine LeO.ite ?_ ?_
   | refine LeO.bind ?_ (fun _ => ?_)
theorem laws_eqInstS.mono : ∀ a0 a1 k, LeO (laws_eqInstS.f k a0 a1) (laws_eqInstS.f (k + 1) a0 a1) := by
 intro a0 a1 k
 have ih0 := laws_eqInstS.mono_l k
 unfold laws_eqInstS.f
 repeat' first
   | (with_reducible exact ih0 _ _ _)
   | (with_reducible exact laws_eqInst.mono _ _ _ _ _ _ _ _ _ _ _ _ _ _ _)
   | (with_reducible exact LeO.refl _)
   | (with_reducible exact LeO.none _)
   | (with_reducible refine LeO.ite ?_ ?_)
   | (with_reducible refine LeO.bind ?_ (fun _ => ?_))
   | exact ih0 _ _ _
   | exact laws_eqInst.mono _ _ _ _ _ _ _ _ _ _ _ _ _ _ _
   | exact LeO.none _
   | refine LeO.ite ?_ ?_
   | refine LeO.bind ?_ (fun _ => ?_)
def laws_eqInstS.T6 : Bool × List (List Nat × List Nat) := (true, [([], []), ([], []), ([0, 1], [0, 1]), ([2], [2]), ([], []), ([], []), ([4, 5], [4, 5]), ([6], [6]), ([3, 7], [3, 7]), ([8], [8])])
def laws_eqInstS.B6 : List Nat := [0, 0, 3, 7, 0, 0, 48, 112, 255, 511]
theorem laws_eqInstS.tab6 : rtab .any (opsOf Try.f129 6) = laws_eqInstS.T6 := by kernel_rfl
theorem laws_eqInstS.bits6 : waitsOk laws_eqInstS.T6.2 laws_eqInstS.B6 = true := by kernel_rfl
set_option maxHeartbeats 8000000 in
set_option maxRecDepth 100000 in
theorem laws_eqInstS.calls (k : Nat) (A0 : Option Addr) (c0 : Nat) (l0 : List (S27)) (A1 : Option Addr) (c1 : Nat) (l1 : List (S27)) (r : Bool) (w : World) (hr0 : Kd.C k27 w A0 l0.length l0) (hc0 : l0.length ≤ c0) (hr1 : Kd.C k27 w A1 l1.length l1) (hc1 : l1.length ≤ c1) (h : laws_eqInstS.f k l0 l1 = some r) :
  Calls Try.prog 129 #[.slice A0 l0.length c0, .slice A1 l1.length c1] w fun e w' => e = .returned (.bool r) ∧ Below w.heap.size w w' := by
 have hu27 := Try.underlying27
 have HR0 := Aside0.mk hr0
 have HC0 := Aside0.mk hc0
 clear hr0 hc0
 have HR1 := Aside0.mk hr1
 have HC1 := Aside0.mk hc1
 clear hr1 hc1
 have HB := Aside0.mk (Below.refl w.heap.size w)
 have H : (if (l0.length : Int) = (l1.length : Int) then (laws_eqInstS.l0 k l0 l1 0) else (some false)) = some r := h
 clear h
 by_cases c3 : (l0.length : Int) = (l1.length : Int)
 ·rw [if_pos c3] at H
  have c3b0 : ((l0.length : Int) == (l1.length : Int)) = true := beq_iff_eq.mpr c3
  have c3b1 : ((l0.length : Int) != (l1.length : Int)) = false := bne_eq_false_iff_eq.mpr c3
  have c3b2 : (l0.length == l1.length) = true := by first | simpa using c3 | (simp at c3 ⊢; omega)
  clear c3
  have H' := Aside0.mk H
  clear H
  go_enter Try.func129, Try.ntmps129
  go_wp2
  go_loopg [5] k (fun kq v5 w' => ∃ (x5_1 : Int), v5 = .int .i64 x5_1 ∧ Aside0 (laws_eqInstS.l0 kq l0 l1 x5_1 = some r) ∧ Aside0 (kq ≤ k) ∧ Aside0 (Below w.heap.size w w'))
  case atStart => exact ⟨(0), rF_, H', ⟨Nat.le_refl _⟩, ⟨hB_⟩⟩
  case round =>
   clear H'
   try clear c1
   try clear p2
   try clear c3
   try clear c3b0
   try clear c3b1
   try clear c3b2
   obtain ⟨x5_1, rfl, HA, HK1, HB⟩ := hrel
   cases gk with
   | zero => exact absurd HA.out (by simp [laws_eqInstS.l0])
   | succ k1 =>
    have H := HA.out
    clear HA
    simp only [laws_eqInstS.l0] at H
    by_cases c4 : x5_1 < (l0.length : Int)
    ·rw [if_pos c4] at H
     have c4b0 : decide (x5_1 < (l0.length : Int)) = true := decide_eq_true c4
     clear c4
     by_cases c5 : 0 ≤ x5_1
     ·rw [if_pos c5] at H
      have c5b0 : decide (0 ≤ x5_1) = true := decide_eq_true c5
      clear c5
      by_cases c6 : x5_1 < (l1.length : Int)
      ·rw [if_pos c6] at H
       have c6b0 : decide (x5_1 < (l1.length : Int)) = true := decide_eq_true c6
       clear c6
       replace H := Option.bind_eq_some_iff.mp H
       obtain ⟨t830, A70, H⟩ := H
       replace H : (if t830 = true then (laws_eqInstS.l0 k1 l0 l1 (wrap64 (x5_1 + 1))) else (some false)) = some r := H
       have A7 := Aside0.mk A70
       clear A70
       by_cases c8 : t830 = true
       ·subst c8
        have H1 := (if_pos rfl).symm.trans H
        clear H
        have H := H1
        clear H1
        have H' := Aside0.mk H
        clear H
        try go_wp2
        have n0_ := Aside0.mk (below_drew1 HB.out)
        clear HB
        have HB := n0_
        clear n0_
        have p828 : 0 ≤ (x5_1 : Int) := oD_
        have q828 : x5_1 < (l0.length : Int) := oD_
        obtain ⟨ad828, A828_6, c828_6, e828, hx828_0, hx828_1, hx828_2, hx828_3, hx828_4, hx828_5, hx828_6, hl828_6, hi828_6⟩ := at_T27 HR0.out x5_1 p828 q828
        have hw828_6 := hx828_6
        have hw828_5 := hx828_5
        have hw828_4 := hx828_4
        have hw828_3 := hx828_3
        have hw828_2 := hx828_2
        have hw828_1 := hx828_1
        have hw828_0 := hx828_0
        cases e828
        replace hx828_0 := hx_ HB.out hx828_0
        replace hx828_1 := hx_ HB.out hx828_1
        replace hx828_2 := hx_ HB.out hx828_2
        replace hx828_3 := hx_ HB.out hx828_3
        replace hx828_4 := hx_ HB.out hx828_4
        replace hx828_5 := hx_ HB.out hx828_5
        replace hx828_6 := hx_ HB.out hx828_6
        have HR828_6 := Aside0.mk hi828_6
        have HC828_6 := Aside0.mk hl828_6
        clear hi828_6 hl828_6
        replace p828 := eq_true p828
        replace q828 := eq_true q828
        have p829 : 0 ≤ (x5_1 : Int) := oD_
        have q829 : x5_1 < (l1.length : Int) := oD_
        obtain ⟨ad829, A829_6, c829_6, e829, hx829_0, hx829_1, hx829_2, hx829_3, hx829_4, hx829_5, hx829_6, hl829_6, hi829_6⟩ := at_T27 HR1.out x5_1 p829 q829
        have hw829_6 := hx829_6
        have hw829_5 := hx829_5
        have hw829_4 := hx829_4
        have hw829_3 := hx829_3
        have hw829_2 := hx829_2
        have hw829_1 := hx829_1
        have hw829_0 := hx829_0
        cases e829
        replace hx829_0 := hx_ HB.out hx829_0
        replace hx829_1 := hx_ HB.out hx829_1
        replace hx829_2 := hx_ HB.out hx829_2
        replace hx829_3 := hx_ HB.out hx829_3
        replace hx829_4 := hx_ HB.out hx829_4
        replace hx829_5 := hx_ HB.out hx829_5
        replace hx829_6 := hx_ HB.out hx829_6
        have HR829_6 := Aside0.mk hi829_6
        have HC829_6 := Aside0.mk hl829_6
        clear hi829_6 hl829_6
        replace p829 := eq_true p829
        replace q829 := eq_true q829
        refine start_ (n := 10) (S := fun w' => w'.cell? (ad828.add ((x5_1).toNat * 7)) = some (.int .i64 ((rd_T27 l0 x5_1).f0)) ∧ w'.cell? ⟨(ad828.add ((x5_1).toNat * 7)).block, (ad828.add ((x5_1).toNat * 7)).off + 1, none⟩ = some (.int .i64 ((rd_T27 l0 x5_1).f1)) ∧ w'.cell? ⟨(ad828.add ((x5_1).toNat * 7)).block, (ad828.add ((x5_1).toNat * 7)).off + 2, none⟩ = some (.int .i64 ((rd_T27 l0 x5_1).f2)) ∧ w'.cell? ⟨(ad828.add ((x5_1).toNat * 7)).block, (ad828.add ((x5_1).toNat * 7)).off + 3, none⟩ = some (.int .i64 ((rd_T27 l0 x5_1).f3)) ∧ w'.cell? ⟨(ad828.add ((x5_1).toNat * 7)).block, (ad828.add ((x5_1).toNat * 7)).off + 4, none⟩ = some (.int .i64 ((rd_T27 l0 x5_1).f4)) ∧ w'.cell? ⟨(ad828.add ((x5_1).toNat * 7)).block, (ad828.add ((x5_1).toNat * 7)).off + 5, none⟩ = some (.int .i64 ((rd_T27 l0 x5_1).f5)) ∧ w'.cell? ⟨(ad828.add ((x5_1).toNat * 7)).block, (ad828.add ((x5_1).toNat * 7)).off + 6, none⟩ = some (.slice A828_6 ((rd_T27 l0 x5_1).f6).length c828_6) ∧ w'.cell? (ad829.add ((x5_1).toNat * 7)) = some (.int .i64 ((rd_T27 l1 x5_1).f0)) ∧ w'.cell? ⟨(ad829.add ((x5_1).toNat * 7)).block, (ad829.add ((x5_1).toNat * 7)).off + 1, none⟩ = some (.int .i64 ((rd_T27 l1 x5_1).f1)) ∧ w'.cell? ⟨(ad829.add ((x5_1).toNat * 7)).block, (ad829.add ((x5_1).toNat * 7)).off + 2, none⟩ = some (.int .i64 ((rd_T27 l1 x5_1).f2)) ∧ w'.cell? ⟨(ad829.add ((x5_1).toNat * 7)).block, (ad829.add ((x5_1).toNat * 7)).off + 3, none⟩ = some (.int .i64 ((rd_T27 l1 x5_1).f3)) ∧ w'.cell? ⟨(ad829.add ((x5_1).toNat * 7)).block, (ad829.add ((x5_1).toNat * 7)).off + 4, none⟩ = some (.int .i64 ((rd_T27 l1 x5_1).f4)) ∧ w'.cell? ⟨(ad829.add ((x5_1).toNat * 7)).block, (ad829.add ((x5_1).toNat * 7)).off + 5, none⟩ = some (.int .i64 ((rd_T27 l1 x5_1).f5)) ∧ w'.cell? ⟨(ad829.add ((x5_1).toNat * 7)).block, (ad829.add ((x5_1).toNat * 7)).off + 6, none⟩ = some (.slice A829_6 ((rd_T27 l1 x5_1).f6).length c829_6)) (ds := []) #[false, false, false, false, false, false, false, false, false, false] (by kernel_rfl) rfl rfl ⟨((HB.out.cell (World.block_lt_of_cell? w _ hw828_0)).trans hw828_0), ((HB.out.cell (World.block_lt_of_cell? w _ hw828_1)).trans hw828_1), ((HB.out.cell (World.block_lt_of_cell? w _ hw828_2)).trans hw828_2), ((HB.out.cell (World.block_lt_of_cell? w _ hw828_3)).trans hw828_3), ((HB.out.cell (World.block_lt_of_cell? w _ hw828_4)).trans hw828_4), ((HB.out.cell (World.block_lt_of_cell? w _ hw828_5)).trans hw828_5), ((HB.out.cell (World.block_lt_of_cell? w _ hw828_6)).trans hw828_6), ((HB.out.cell (World.block_lt_of_cell? w _ hw829_0)).trans hw829_0), ((HB.out.cell (World.block_lt_of_cell? w _ hw829_1)).trans hw829_1), ((HB.out.cell (World.block_lt_of_cell? w _ hw829_2)).trans hw829_2), ((HB.out.cell (World.block_lt_of_cell? w _ hw829_3)).trans hw829_3), ((HB.out.cell (World.block_lt_of_cell? w _ hw829_4)).trans hw829_4), ((HB.out.cell (World.block_lt_of_cell? w _ hw829_5)).trans hw829_5), ((HB.out.cell (World.block_lt_of_cell? w _ hw829_6)).trans hw829_6)⟩ (fun hHeld => ?_); refine with_tabW laws_eqInstS.tab6 laws_eqInstS.bits6 (fun HT_ HW_ => ?_)
        generalize wr.drew = w9 at HB HR828_6 HR829_6 hx828_0 hx828_1 hx828_2 hx828_3 hx828_4 hx828_5 hx828_6 hx829_0 hx829_1 hx829_2 hx829_3 hx829_4 hx829_5 hx829_6 hHeld ⊢
        refine pure_ (i := 0) (N := some 17) (v := ?_) (a' := ?_) #[true, false, false, false, false, false, false, false, false, false] rfl rfl (any_of HT_.out (by kernel_rfl)) (fun _ _ _ h => h) (Or.inl ⟨by rfl, ?_⟩) ?_ ?_
        rotate_left
        ·intro w'
         go_simp
         with_reducible rfl
        rotate_left
        ·simp only [Act.put, List.setIfInBounds_toArray, List.set_cons_zero, List.set_cons_succ, i64_w, i32_w]
         rfl
        refine pure_ (i := 1) (N := some 18) (v := ?_) (a' := ?_) #[true, true, false, false, false, false, false, false, false, false] rfl rfl (any_of HT_.out (by kernel_rfl)) (fun _ _ _ h => h) (Or.inl ⟨by rfl, ?_⟩) ?_ ?_
        rotate_left
        ·intro w'
         go_simp
         with_reducible rfl
        rotate_left
        ·simp only [Act.put, List.setIfInBounds_toArray, List.set_cons_zero, List.set_cons_succ, i64_w, i32_w]
         rfl
        refine pure_ (i := 2) (N := some 19) (v := ?_) (a' := ?_) #[true, true, true, false, false, false, false, false, false, false] rfl rfl (any_of HT_.out (by kernel_rfl)) (fun _ _ _ h => h) (Or.inl ⟨by rfl, ?_⟩) ?_ ?_
        rotate_left
        ·intro w'
         go_simp
         with_reducible rfl
        rotate_left
        ·simp only [Act.put, List.setIfInBounds_toArray, List.set_cons_zero, List.set_cons_succ, i64_w, i32_w]
         rfl
        refine pure_ (i := 4) (N := some 21) (v := ?_) (a' := ?_) #[true, true, true, false, true, false, false, false, false, false] rfl rfl (any_of HT_.out (by kernel_rfl)) (fun _ _ _ h => h) (Or.inl ⟨by rfl, ?_⟩) ?_ ?_
        rotate_left
        ·intro w'
         go_simp
         with_reducible rfl
        rotate_left
        ·simp only [Act.put, List.setIfInBounds_toArray, List.set_cons_zero, List.set_cons_succ, i64_w, i32_w]
         rfl
        refine pure_ (i := 5) (N := some 22) (v := ?_) (a' := ?_) #[true, true, true, false, true, true, false, false, false, false] rfl rfl (any_of HT_.out (by kernel_rfl)) (fun _ _ _ h => h) (Or.inl ⟨by rfl, ?_⟩) ?_ ?_
        rotate_left
        ·intro w'
         go_simp
         with_reducible rfl
        rotate_left
        ·simp only [Act.put, List.setIfInBounds_toArray, List.set_cons_zero, List.set_cons_succ, i64_w, i32_w]
         rfl
        refine pure_ (i := 6) (N := some 23) (v := ?_) (a' := ?_) #[true, true, true, false, true, true, true, false, false, false] rfl rfl (any_of HT_.out (by kernel_rfl)) (fun _ _ _ h => h) (Or.inl ⟨by rfl, ?_⟩) ?_ ?_
        rotate_left
        ·intro w'
         go_simp
         with_reducible rfl
        rotate_left
        ·simp only [Act.put, List.setIfInBounds_toArray, List.set_cons_zero, List.set_cons_succ, i64_w, i32_w]
         rfl
        refine take_ (i := 3) (N := some 20) (v := ?_) (a' := ?_) #[true, true, true, true, true, true, true, false, false, false] rfl rfl (take_ofW HT_.out HW_.out (by kernel_rfl)) (fun _ _ _ h => h) (Or.inl ⟨by rfl, ?_⟩) hHeld ?_ ?_
        rotate_left
        ·rintro w' ⟨s0, s1, s2, s3, s4, s5, s6, s7, s8, s9, s10, s11, s12, s13⟩
         go_simp
         with_reducible rfl
        rotate_left
        ·simp only [Act.put, List.setIfInBounds_toArray, List.set_cons_zero, List.set_cons_succ, i64_w, i32_w]
         rfl
        refine take_ (i := 7) (N := some 24) (v := ?_) (a' := ?_) #[true, true, true, true, true, true, true, true, false, false] rfl rfl (take_ofW HT_.out HW_.out (by kernel_rfl)) (fun _ _ _ h => h) (Or.inl ⟨by rfl, ?_⟩) hHeld ?_ ?_
        rotate_left
        ·rintro w' ⟨s0, s1, s2, s3, s4, s5, s6, s7, s8, s9, s10, s11, s12, s13⟩
         go_simp
         with_reducible rfl
        rotate_left
        ·simp only [Act.put, List.setIfInBounds_toArray, List.set_cons_zero, List.set_cons_succ, i64_w, i32_w]
         rfl
        refine one_ (i := 8) (N := some 25) #[true, true, true, true, true, true, true, true, true, false] rfl rfl (one_of HT_.out (by kernel_rfl)) (by decide) (fun K hK => ?_)
        refine goes_ Try.func19 (by kernel_rfl) rfl #[.agg #[.int .i64 ((rd_T27 l0 x5_1).f0), .int .i64 ((rd_T27 l0 x5_1).f1), .int .i64 ((rd_T27 l0 x5_1).f2), .int .i64 ((rd_T27 l0 x5_1).f3), .int .i64 ((rd_T27 l0 x5_1).f4), .int .i64 ((rd_T27 l0 x5_1).f5), .slice A828_6 ((rd_T27 l0 x5_1).f6).length c828_6], .agg #[.int .i64 ((rd_T27 l1 x5_1).f0), .int .i64 ((rd_T27 l1 x5_1).f1), .int .i64 ((rd_T27 l1 x5_1).f2), .int .i64 ((rd_T27 l1 x5_1).f3), .int .i64 ((rd_T27 l1 x5_1).f4), .int .i64 ((rd_T27 l1 x5_1).f5), .slice A829_6 ((rd_T27 l1 x5_1).f6).length c829_6]] (by rfl) rfl rfl (by (try simp only [List.map_toArray, List.map_cons, List.map_nil]); first | done | rfl | (simp only [List.length_drop, List.length_take]; rfl)) ?_
        with_reducible refine (laws_eqInst.calls k1 ((rd_T27 l0 x5_1).f0) ((rd_T27 l0 x5_1).f1) ((rd_T27 l0 x5_1).f2) ((rd_T27 l0 x5_1).f3) ((rd_T27 l0 x5_1).f4) ((rd_T27 l0 x5_1).f5) _ _ ((rd_T27 l0 x5_1).f6) ((rd_T27 l1 x5_1).f0) ((rd_T27 l1 x5_1).f1) ((rd_T27 l1 x5_1).f2) ((rd_T27 l1 x5_1).f3) ((rd_T27 l1 x5_1).f4) ((rd_T27 l1 x5_1).f5) _ _ ((rd_T27 l1 x5_1).f6) true _ ?side1 ?side2 ?side3 ?side4 A7.out).mono ?_
        (case side1 => exact cHR828_6_)
        (case side2 => exact HC828_6.out)
        (case side3 => exact cHR829_6_)
        (case side4 => exact HC829_6.out)
        rintro e w10 ⟨rfl, hb⟩
        refine ⟨_, rfl, ?_⟩
        have n0_ := Aside0.mk (below_step hB_ hb)
        clear HB
        have HB := n0_
        clear n0_
        (try clear hb)
        (try clear hb2)
        (try clear hk)
        (try clear hi)
        refine hK.out _ _ ⟨((HB.out.cell (World.block_lt_of_cell? w _ hw828_0)).trans hw828_0), ((HB.out.cell (World.block_lt_of_cell? w _ hw828_1)).trans hw828_1), ((HB.out.cell (World.block_lt_of_cell? w _ hw828_2)).trans hw828_2), ((HB.out.cell (World.block_lt_of_cell? w _ hw828_3)).trans hw828_3), ((HB.out.cell (World.block_lt_of_cell? w _ hw828_4)).trans hw828_4), ((HB.out.cell (World.block_lt_of_cell? w _ hw828_5)).trans hw828_5), ((HB.out.cell (World.block_lt_of_cell? w _ hw828_6)).trans hw828_6), ((HB.out.cell (World.block_lt_of_cell? w _ hw829_0)).trans hw829_0), ((HB.out.cell (World.block_lt_of_cell? w _ hw829_1)).trans hw829_1), ((HB.out.cell (World.block_lt_of_cell? w _ hw829_2)).trans hw829_2), ((HB.out.cell (World.block_lt_of_cell? w _ hw829_3)).trans hw829_3), ((HB.out.cell (World.block_lt_of_cell? w _ hw829_4)).trans hw829_4), ((HB.out.cell (World.block_lt_of_cell? w _ hw829_5)).trans hw829_5), ((HB.out.cell (World.block_lt_of_cell? w _ hw829_6)).trans hw829_6)⟩ (fun hHeld => ?_)
        clear hK K
        refine norm_ (a' := ?_) ?_ ?_
        rotate_left
        ·show Act.put _ (some 25) _ = _
         simp only [Act.put, List.setIfInBounds_toArray, List.set_cons_zero, List.set_cons_succ, i64_w, i32_w]
         rfl
        refine pure_ (i := 9) (N := some 26) (v := ?_) (a' := ?_) #[true, true, true, true, true, true, true, true, true, true] rfl rfl (any_of HT_.out (by kernel_rfl)) (fun _ _ _ h => h) (Or.inl ⟨by rfl, ?_⟩) ?_ ?_
        rotate_left
        ·intro w'
         go_simp
         with_reducible rfl
        rotate_left
        ·simp only [Act.put, List.setIfInBounds_toArray, List.set_cons_zero, List.set_cons_succ, i64_w, i32_w]
         rfl
        refine done_ (done_of HT_.out (by kernel_rfl)) ?_
        try go_wp2
        go_roundg k1
        case measure => have := HK1.out; omega
        case rel => exact ⟨(wrap64 (x5_1 + 1)), rF_, H', ⟨by have := HK1.out; omega⟩, ⟨hB_⟩⟩
       ·replace c8 := Bool.eq_false_iff.mpr c8
        subst c8
        have H1 := (if_neg (show ¬ (false = true) by decide)).symm.trans H
        clear H
        have H := H1
        clear H1
        obtain rfl := Option.some.inj H
        try go_wp2
        have n0_ := Aside0.mk (below_drew1 HB.out)
        clear HB
        have HB := n0_
        clear n0_
        have p828 : 0 ≤ (x5_1 : Int) := oD_
        have q828 : x5_1 < (l0.length : Int) := oD_
        obtain ⟨ad828, A828_6, c828_6, e828, hx828_0, hx828_1, hx828_2, hx828_3, hx828_4, hx828_5, hx828_6, hl828_6, hi828_6⟩ := at_T27 HR0.out x5_1 p828 q828
        have hw828_6 := hx828_6
        have hw828_5 := hx828_5
        have hw828_4 := hx828_4
        have hw828_3 := hx828_3
        have hw828_2 := hx828_2
        have hw828_1 := hx828_1
        have hw828_0 := hx828_0
        cases e828
        replace hx828_0 := hx_ HB.out hx828_0
        replace hx828_1 := hx_ HB.out hx828_1
        replace hx828_2 := hx_ HB.out hx828_2
        replace hx828_3 := hx_ HB.out hx828_3
        replace hx828_4 := hx_ HB.out hx828_4
        replace hx828_5 := hx_ HB.out hx828_5
        replace hx828_6 := hx_ HB.out hx828_6
        have HR828_6 := Aside0.mk hi828_6
        have HC828_6 := Aside0.mk hl828_6
        clear hi828_6 hl828_6
        replace p828 := eq_true p828
        replace q828 := eq_true q828
        have p829 : 0 ≤ (x5_1 : Int) := oD_
        have q829 : x5_1 < (l1.length : Int) := oD_
        obtain ⟨ad829, A829_6, c829_6, e829, hx829_0, hx829_1, hx829_2, hx829_3, hx829_4, hx829_5, hx829_6, hl829_6, hi829_6⟩ := at_T27 HR1.out x5_1 p829 q829
        have hw829_6 := hx829_6
        have hw829_5 := hx829_5
        have hw829_4 := hx829_4
        have hw829_3 := hx829_3
        have hw829_2 := hx829_2
        have hw829_1 := hx829_1
        have hw829_0 := hx829_0
        cases e829
        replace hx829_0 := hx_ HB.out hx829_0
        replace hx829_1 := hx_ HB.out hx829_1
        replace hx829_2 := hx_ HB.out hx829_2
        replace hx829_3 := hx_ HB.out hx829_3
        replace hx829_4 := hx_ HB.out hx829_4
        replace hx829_5 := hx_ HB.out hx829_5
        replace hx829_6 := hx_ HB.out hx829_6
        have HR829_6 := Aside0.mk hi829_6
        have HC829_6 := Aside0.mk hl829_6
        clear hi829_6 hl829_6
        replace p829 := eq_true p829
        replace q829 := eq_true q829
        refine start_ (n := 10) (S := fun w' => w'.cell? (ad828.add ((x5_1).toNat * 7)) = some (.int .i64 ((rd_T27 l0 x5_1).f0)) ∧ w'.cell? ⟨(ad828.add ((x5_1).toNat * 7)).block, (ad828.add ((x5_1).toNat * 7)).off + 1, none⟩ = some (.int .i64 ((rd_T27 l0 x5_1).f1)) ∧ w'.cell? ⟨(ad828.add ((x5_1).toNat * 7)).block, (ad828.add ((x5_1).toNat * 7)).off + 2, none⟩ = some (.int .i64 ((rd_T27 l0 x5_1).f2)) ∧ w'.cell? ⟨(ad828.add ((x5_1).toNat * 7)).block, (ad828.add ((x5_1).toNat * 7)).off + 3, none⟩ = some (.int .i64 ((rd_T27 l0 x5_1).f3)) ∧ w'.cell? ⟨(ad828.add ((x5_1).toNat * 7)).block, (ad828.add ((x5_1).toNat * 7)).off + 4, none⟩ = some (.int .i64 ((rd_T27 l0 x5_1).f4)) ∧ w'.cell? ⟨(ad828.add ((x5_1).toNat * 7)).block, (ad828.add ((x5_1).toNat * 7)).off + 5, none⟩ = some (.int .i64 ((rd_T27 l0 x5_1).f5)) ∧ w'.cell? ⟨(ad828.add ((x5_1).toNat * 7)).block, (ad828.add ((x5_1).toNat * 7)).off + 6, none⟩ = some (.slice A828_6 ((rd_T27 l0 x5_1).f6).length c828_6) ∧ w'.cell? (ad829.add ((x5_1).toNat * 7)) = some (.int .i64 ((rd_T27 l1 x5_1).f0)) ∧ w'.cell? ⟨(ad829.add ((x5_1).toNat * 7)).block, (ad829.add ((x5_1).toNat * 7)).off + 1, none⟩ = some (.int .i64 ((rd_T27 l1 x5_1).f1)) ∧ w'.cell? ⟨(ad829.add ((x5_1).toNat * 7)).block, (ad829.add ((x5_1).toNat * 7)).off + 2, none⟩ = some (.int .i64 ((rd_T27 l1 x5_1).f2)) ∧ w'.cell? ⟨(ad829.add ((x5_1).toNat * 7)).block, (ad829.add ((x5_1).toNat * 7)).off + 3, none⟩ = some (.int .i64 ((rd_T27 l1 x5_1).f3)) ∧ w'.cell? ⟨(ad829.add ((x5_1).toNat * 7)).block, (ad829.add ((x5_1).toNat * 7)).off + 4, none⟩ = some (.int .i64 ((rd_T27 l1 x5_1).f4)) ∧ w'.cell? ⟨(ad829.add ((x5_1).toNat * 7)).block, (ad829.add ((x5_1).toNat * 7)).off + 5, none⟩ = some (.int .i64 ((rd_T27 l1 x5_1).f5)) ∧ w'.cell? ⟨(ad829.add ((x5_1).toNat * 7)).block, (ad829.add ((x5_1).toNat * 7)).off + 6, none⟩ = some (.slice A829_6 ((rd_T27 l1 x5_1).f6).length c829_6)) (ds := []) #[false, false, false, false, false, false, false, false, false, false] (by kernel_rfl) rfl rfl ⟨((HB.out.cell (World.block_lt_of_cell? w _ hw828_0)).trans hw828_0), ((HB.out.cell (World.block_lt_of_cell? w _ hw828_1)).trans hw828_1), ((HB.out.cell (World.block_lt_of_cell? w _ hw828_2)).trans hw828_2), ((HB.out.cell (World.block_lt_of_cell? w _ hw828_3)).trans hw828_3), ((HB.out.cell (World.block_lt_of_cell? w _ hw828_4)).trans hw828_4), ((HB.out.cell (World.block_lt_of_cell? w _ hw828_5)).trans hw828_5), ((HB.out.cell (World.block_lt_of_cell? w _ hw828_6)).trans hw828_6), ((HB.out.cell (World.block_lt_of_cell? w _ hw829_0)).trans hw829_0), ((HB.out.cell (World.block_lt_of_cell? w _ hw829_1)).trans hw829_1), ((HB.out.cell (World.block_lt_of_cell? w _ hw829_2)).trans hw829_2), ((HB.out.cell (World.block_lt_of_cell? w _ hw829_3)).trans hw829_3), ((HB.out.cell (World.block_lt_of_cell? w _ hw829_4)).trans hw829_4), ((HB.out.cell (World.block_lt_of_cell? w _ hw829_5)).trans hw829_5), ((HB.out.cell (World.block_lt_of_cell? w _ hw829_6)).trans hw829_6)⟩ (fun hHeld => ?_); refine with_tabW laws_eqInstS.tab6 laws_eqInstS.bits6 (fun HT_ HW_ => ?_)
        generalize wr.drew = w11 at HB HR828_6 HR829_6 hx828_0 hx828_1 hx828_2 hx828_3 hx828_4 hx828_5 hx828_6 hx829_0 hx829_1 hx829_2 hx829_3 hx829_4 hx829_5 hx829_6 hHeld ⊢
        refine pure_ (i := 0) (N := some 17) (v := ?_) (a' := ?_) #[true, false, false, false, false, false, false, false, false, false] rfl rfl (any_of HT_.out (by kernel_rfl)) (fun _ _ _ h => h) (Or.inl ⟨by rfl, ?_⟩) ?_ ?_
        rotate_left
        ·intro w'
         go_simp
         with_reducible rfl
        rotate_left
        ·simp only [Act.put, List.setIfInBounds_toArray, List.set_cons_zero, List.set_cons_succ, i64_w, i32_w]
         rfl
        refine pure_ (i := 1) (N := some 18) (v := ?_) (a' := ?_) #[true, true, false, false, false, false, false, false, false, false] rfl rfl (any_of HT_.out (by kernel_rfl)) (fun _ _ _ h => h) (Or.inl ⟨by rfl, ?_⟩) ?_ ?_
        rotate_left
        ·intro w'
         go_simp
         with_reducible rfl
        rotate_left
        ·simp only [Act.put, List.setIfInBounds_toArray, List.set_cons_zero, List.set_cons_succ, i64_w, i32_w]
         rfl
        refine pure_ (i := 2) (N := some 19) (v := ?_) (a' := ?_) #[true, true, true, false, false, false, false, false, false, false] rfl rfl (any_of HT_.out (by kernel_rfl)) (fun _ _ _ h => h) (Or.inl ⟨by rfl, ?_⟩) ?_ ?_
        rotate_left
        ·intro w'
         go_simp
         with_reducible rfl
        rotate_left
        ·simp only [Act.put, List.setIfInBounds_toArray, List.set_cons_zero, List.set_cons_succ, i64_w, i32_w]
         rfl
        refine pure_ (i := 4) (N := some 21) (v := ?_) (a' := ?_) #[true, true, true, false, true, false, false, false, false, false] rfl rfl (any_of HT_.out (by kernel_rfl)) (fun _ _ _ h => h) (Or.inl ⟨by rfl, ?_⟩) ?_ ?_
        rotate_left
        ·intro w'
         go_simp
         with_reducible rfl
        rotate_left
        ·simp only [Act.put, List.setIfInBounds_toArray, List.set_cons_zero, List.set_cons_succ, i64_w, i32_w]
         rfl
        refine pure_ (i := 5) (N := some 22) (v := ?_) (a' := ?_) #[true, true, true, false, true, true, false, false, false, false] rfl rfl (any_of HT_.out (by kernel_rfl)) (fun _ _ _ h => h) (Or.inl ⟨by rfl, ?_⟩) ?_ ?_
        rotate_left
        ·intro w'
         go_simp
         with_reducible rfl
        rotate_left
        ·simp only [Act.put, List.setIfInBounds_toArray, List.set_cons_zero, List.set_cons_succ, i64_w, i32_w]
         rfl
        refine pure_ (i := 6) (N := some 23) (v := ?_) (a' := ?_) #[true, true, true, false, true, true, true, false, false, false] rfl rfl (any_of HT_.out (by kernel_rfl)) (fun _ _ _ h => h) (Or.inl ⟨by rfl, ?_⟩) ?_ ?_
        rotate_left
        ·intro w'
         go_simp
         with_reducible rfl
        rotate_left
        ·simp only [Act.put, List.setIfInBounds_toArray, List.set_cons_zero, List.set_cons_succ, i64_w, i32_w]
         rfl
        refine take_ (i := 3) (N := some 20) (v := ?_) (a' := ?_) #[true, true, true, true, true, true, true, false, false, false] rfl rfl (take_ofW HT_.out HW_.out (by kernel_rfl)) (fun _ _ _ h => h) (Or.inl ⟨by rfl, ?_⟩) hHeld ?_ ?_
        rotate_left
        ·rintro w' ⟨s0, s1, s2, s3, s4, s5, s6, s7, s8, s9, s10, s11, s12, s13⟩
         go_simp
         with_reducible rfl
        rotate_left
        ·simp only [Act.put, List.setIfInBounds_toArray, List.set_cons_zero, List.set_cons_succ, i64_w, i32_w]
         rfl
        refine take_ (i := 7) (N := some 24) (v := ?_) (a' := ?_) #[true, true, true, true, true, true, true, true, false, false] rfl rfl (take_ofW HT_.out HW_.out (by kernel_rfl)) (fun _ _ _ h => h) (Or.inl ⟨by rfl, ?_⟩) hHeld ?_ ?_
        rotate_left
        ·rintro w' ⟨s0, s1, s2, s3, s4, s5, s6, s7, s8, s9, s10, s11, s12, s13⟩
         go_simp
         with_reducible rfl
        rotate_left
        ·simp only [Act.put, List.setIfInBounds_toArray, List.set_cons_zero, List.set_cons_succ, i64_w, i32_w]
         rfl
        refine one_ (i := 8) (N := some 25) #[true, true, true, true, true, true, true, true, true, false] rfl rfl (one_of HT_.out (by kernel_rfl)) (by decide) (fun K hK => ?_)
        refine goes_ Try.func19 (by kernel_rfl) rfl #[.agg #[.int .i64 ((rd_T27 l0 x5_1).f0), .int .i64 ((rd_T27 l0 x5_1).f1), .int .i64 ((rd_T27 l0 x5_1).f2), .int .i64 ((rd_T27 l0 x5_1).f3), .int .i64 ((rd_T27 l0 x5_1).f4), .int .i64 ((rd_T27 l0 x5_1).f5), .slice A828_6 ((rd_T27 l0 x5_1).f6).length c828_6], .agg #[.int .i64 ((rd_T27 l1 x5_1).f0), .int .i64 ((rd_T27 l1 x5_1).f1), .int .i64 ((rd_T27 l1 x5_1).f2), .int .i64 ((rd_T27 l1 x5_1).f3), .int .i64 ((rd_T27 l1 x5_1).f4), .int .i64 ((rd_T27 l1 x5_1).f5), .slice A829_6 ((rd_T27 l1 x5_1).f6).length c829_6]] (by rfl) rfl rfl (by (try simp only [List.map_toArray, List.map_cons, List.map_nil]); first | done | rfl | (simp only [List.length_drop, List.length_take]; rfl)) ?_
        with_reducible refine (laws_eqInst.calls k1 ((rd_T27 l0 x5_1).f0) ((rd_T27 l0 x5_1).f1) ((rd_T27 l0 x5_1).f2) ((rd_T27 l0 x5_1).f3) ((rd_T27 l0 x5_1).f4) ((rd_T27 l0 x5_1).f5) _ _ ((rd_T27 l0 x5_1).f6) ((rd_T27 l1 x5_1).f0) ((rd_T27 l1 x5_1).f1) ((rd_T27 l1 x5_1).f2) ((rd_T27 l1 x5_1).f3) ((rd_T27 l1 x5_1).f4) ((rd_T27 l1 x5_1).f5) _ _ ((rd_T27 l1 x5_1).f6) false _ ?side1 ?side2 ?side3 ?side4 A7.out).mono ?_
        (case side1 => exact cHR828_6_)
        (case side2 => exact HC828_6.out)
        (case side3 => exact cHR829_6_)
        (case side4 => exact HC829_6.out)
        rintro e w12 ⟨rfl, hb⟩
        refine ⟨_, rfl, ?_⟩
        have n0_ := Aside0.mk (below_step hB_ hb)
        clear HB
        have HB := n0_
        clear n0_
        (try clear hb)
        (try clear hb2)
        (try clear hk)
        (try clear hi)
        refine hK.out _ _ ⟨((HB.out.cell (World.block_lt_of_cell? w _ hw828_0)).trans hw828_0), ((HB.out.cell (World.block_lt_of_cell? w _ hw828_1)).trans hw828_1), ((HB.out.cell (World.block_lt_of_cell? w _ hw828_2)).trans hw828_2), ((HB.out.cell (World.block_lt_of_cell? w _ hw828_3)).trans hw828_3), ((HB.out.cell (World.block_lt_of_cell? w _ hw828_4)).trans hw828_4), ((HB.out.cell (World.block_lt_of_cell? w _ hw828_5)).trans hw828_5), ((HB.out.cell (World.block_lt_of_cell? w _ hw828_6)).trans hw828_6), ((HB.out.cell (World.block_lt_of_cell? w _ hw829_0)).trans hw829_0), ((HB.out.cell (World.block_lt_of_cell? w _ hw829_1)).trans hw829_1), ((HB.out.cell (World.block_lt_of_cell? w _ hw829_2)).trans hw829_2), ((HB.out.cell (World.block_lt_of_cell? w _ hw829_3)).trans hw829_3), ((HB.out.cell (World.block_lt_of_cell? w _ hw829_4)).trans hw829_4), ((HB.out.cell (World.block_lt_of_cell? w _ hw829_5)).trans hw829_5), ((HB.out.cell (World.block_lt_of_cell? w _ hw829_6)).trans hw829_6)⟩ (fun hHeld => ?_)
        clear hK K
        refine norm_ (a' := ?_) ?_ ?_
        rotate_left
        ·show Act.put _ (some 25) _ = _
         simp only [Act.put, List.setIfInBounds_toArray, List.set_cons_zero, List.set_cons_succ, i64_w, i32_w]
         rfl
        refine pure_ (i := 9) (N := some 26) (v := ?_) (a' := ?_) #[true, true, true, true, true, true, true, true, true, true] rfl rfl (any_of HT_.out (by kernel_rfl)) (fun _ _ _ h => h) (Or.inl ⟨by rfl, ?_⟩) ?_ ?_
        rotate_left
        ·intro w'
         go_simp
         with_reducible rfl
        rotate_left
        ·simp only [Act.put, List.setIfInBounds_toArray, List.set_cons_zero, List.set_cons_succ, i64_w, i32_w]
         rfl
        refine done_ (done_of HT_.out (by kernel_rfl)) ?_
        try go_wp2
        go_ret
        exact ⟨rG_, hB_⟩
      ·rw [if_neg c6] at H
       exact absurd H (by simp)
     ·rw [if_neg c5] at H
      exact absurd H (by simp)
    ·rw [if_neg c4] at H
     have c4b0 : decide (x5_1 < (l0.length : Int)) = false := decide_eq_false c4
     clear c4
     obtain rfl := Option.some.inj H
     go_wp2
     go_ret
     exact ⟨rG_, hB_⟩
 ·rw [if_neg c3] at H
  have c3b0 : ((l0.length : Int) == (l1.length : Int)) = false := beq_eq_false_iff_ne.mpr c3
  have c3b1 : ((l0.length : Int) != (l1.length : Int)) = true := bne_iff_ne.mpr c3
  have c3b2 : (l0.length == l1.length) = false := by first | simpa using c3 | (simp at c3 ⊢; omega)
  obtain rfl := Option.some.inj H
  go_enter Try.func129, Try.ntmps129
  go_wp2
  go_ret
  exact ⟨rG_, hB_⟩
/-! ### laws_eqTerm: function 130 -/
def laws_eqTerm.f (a0_0 : Int) (a0_1 : Int) (a0_2 : Int) (a0_3 : Int) (a1_0 : Int) (a1_1 : Int) (a1_2 : Int) (a1_3 : Int) : Option (Bool) := if a0_0 = a1_0 then (if a0_1 = a1_1 then (if a0_2 = a1_2 then (if a0_3 = a1_3 then (some true) else (some false)) else (some false)) else (some false)) else (some false)
set_option maxHeartbeats 8000000 in
set_option maxRecDepth 100000 in
theorem laws_eqTerm.calls (a0_0 : Int) (a0_1 : Int) (a0_2 : Int) (a0_3 : Int) (a1_0 : Int) (a1_1 : Int) (a1_2 : Int) (a1_3 : Int) (r : Bool) (w : World) (h : laws_eqTerm.f a0_0 a0_1 a0_2 a0_3 a1_0 a1_1 a1_2 a1_3 = some r) :
  Calls Try.prog 130 #[.agg #[.int .i64 a0_0, .int .i64 a0_1, .int .i64 a0_2, .int .i64 a0_3], .agg #[.int .i64 a1_0, .int .i64 a1_1, .int .i64 a1_2, .int .i64 a1_3]] w fun e w' => e = .returned (.bool r) ∧ Below w.heap.size w w' := by
 have hu86 := Try.underlying86
 have HB := Aside0.mk (Below.refl w.heap.size w)
 have H : (if a0_0 = a1_0 then (if a0_1 = a1_1 then (if a0_2 = a1_2 then (if a0_3 = a1_3 then (some true) else (some false)) else (some false)) else (some false)) else (some false)) = some r := h
 clear h
 by_cases c3 : a0_0 = a1_0
 ·rw [if_pos c3] at H
  have c3b0 : (a0_0 == a1_0) = true := beq_iff_eq.mpr c3
  have c3b1 : (a0_0 != a1_0) = false := bne_eq_false_iff_eq.mpr c3
  clear c3
  by_cases c4 : a0_1 = a1_1
  ·rw [if_pos c4] at H
   have c4b0 : (a0_1 == a1_1) = true := beq_iff_eq.mpr c4
   have c4b1 : (a0_1 != a1_1) = false := bne_eq_false_iff_eq.mpr c4
   clear c4
   by_cases c5 : a0_2 = a1_2
   ·rw [if_pos c5] at H
    have c5b0 : (a0_2 == a1_2) = true := beq_iff_eq.mpr c5
    have c5b1 : (a0_2 != a1_2) = false := bne_eq_false_iff_eq.mpr c5
    clear c5
    by_cases c6 : a0_3 = a1_3
    ·rw [if_pos c6] at H
     have c6b0 : (a0_3 == a1_3) = true := beq_iff_eq.mpr c6
     have c6b1 : (a0_3 != a1_3) = false := bne_eq_false_iff_eq.mpr c6
     clear c6
     obtain rfl := Option.some.inj H
     go_enter Try.func130, Try.ntmps130
     go_wp2_with (first | ((with_reducible refine gate_dst (N := 2) rfl ?_); refine box_event ?hg (N := 2) ?hd (cs := #[.int .i64 a0_0, .int .i64 a0_1, .int .i64 a0_2, .int .i64 a0_3]) (t := 86) ?hr ?_; (case hd => rfl); (case hg => rfl); (case hr => first | (go_simp; done) | (go_simp; rfl)); intro gb831 hg w7 hbox hb; have n0_ := Aside0.mk (below_step hB_ hb); have n1_ := Aside0.mk (hbox); have n2_ := Aside0.mk ((sz_ hg (below_size hB_) : w.heap.size ≤ gb831)); have n3_ := Aside0.mk ((sz_ hg (below_size hB_) : w.heap.size ≤ gb831)); clear HB; have HB := n0_; have BK831 := n1_; have GW831 := n2_; have GE831 := n3_; clear n0_ n1_ n2_ n3_; clear hb hbox hg) | ((with_reducible refine gate_dst (N := 3) rfl ?_); refine box_event ?hg (N := 3) ?hd (cs := #[.int .i64 a1_0, .int .i64 a1_1, .int .i64 a1_2, .int .i64 a1_3]) (t := 86) ?hr ?_; (case hd => rfl); (case hg => rfl); (case hr => first | (go_simp; done) | (go_simp; rfl)); intro gb832 hg w8 hbox hb; have n0_ := Aside0.mk (blk_below (g := gb831) (o := .cells #[.int .i64 a0_0, .int .i64 a0_1, .int .i64 a0_2, .int .i64 a0_3] 86 (0, 0)) bK831_ hb); have n1_ := Aside0.mk (below_step hS_ hb); have n2_ := Aside0.mk (hbox); have n3_ := Aside0.mk ((sz_ hg (below_size hS_) : w.heap.size ≤ gb832)); have n4_ := Aside0.mk ((sz_ hg (below_size hS_) : w.heap.size ≤ gb832)); have n5_ := Aside0.mk ((by rw [hg]; exact Nat.ne_of_lt (blk_lt (g := gb831) (o := .cells #[.int .i64 a0_0, .int .i64 a0_1, .int .i64 a0_2, .int .i64 a0_3] 86 (0, 0)) bK831_) : gb831 ≠ gb832)); have n6_ := Aside0.mk ((by rw [hg]; exact Nat.ne_of_gt (blk_lt (g := gb831) (o := .cells #[.int .i64 a0_0, .int .i64 a0_1, .int .i64 a0_2, .int .i64 a0_3] 86 (0, 0)) bK831_) : gb832 ≠ gb831)); clear BK831; clear HB; have BK831 := n0_; have HB := n1_; have BK832 := n2_; have GW832 := n3_; have GE832 := n4_; have NB831_832 := n5_; have NB832_831 := n6_; clear n0_ n1_ n2_ n3_ n4_ n5_ n6_; clear hb hbox hg; have hnb9 := NB831_832.out; have hnc9 := NB832_831.out; obtain ⟨hcz10_0, hcz10_1, hcz10_2, hcz10_3, hfz10_0, hfz10_1, hfz10_2, hfz10_3⟩ := blkc4_ BK831.out; obtain ⟨hcz11_0, hcz11_1, hcz11_2, hcz11_3, hfz11_0, hfz11_1, hfz11_2, hfz11_3⟩ := blkc4_ BK832.out))
     go_ret
     exact ⟨rG_, hS_⟩
    ·rw [if_neg c6] at H
     have c6b0 : (a0_3 == a1_3) = false := beq_eq_false_iff_ne.mpr c6
     have c6b1 : (a0_3 != a1_3) = true := bne_iff_ne.mpr c6
     obtain rfl := Option.some.inj H
     go_enter Try.func130, Try.ntmps130
     go_wp2_with (first | ((with_reducible refine gate_dst (N := 2) rfl ?_); refine box_event ?hg (N := 2) ?hd (cs := #[.int .i64 a0_0, .int .i64 a0_1, .int .i64 a0_2, .int .i64 a0_3]) (t := 86) ?hr ?_; (case hd => rfl); (case hg => rfl); (case hr => first | (go_simp; done) | (go_simp; rfl)); intro gb831 hg w12 hbox hb; have n0_ := Aside0.mk (below_step hB_ hb); have n1_ := Aside0.mk (hbox); have n2_ := Aside0.mk ((sz_ hg (below_size hB_) : w.heap.size ≤ gb831)); have n3_ := Aside0.mk ((sz_ hg (below_size hB_) : w.heap.size ≤ gb831)); clear HB; have HB := n0_; have BK831 := n1_; have GW831 := n2_; have GE831 := n3_; clear n0_ n1_ n2_ n3_; clear hb hbox hg) | ((with_reducible refine gate_dst (N := 3) rfl ?_); refine box_event ?hg (N := 3) ?hd (cs := #[.int .i64 a1_0, .int .i64 a1_1, .int .i64 a1_2, .int .i64 a1_3]) (t := 86) ?hr ?_; (case hd => rfl); (case hg => rfl); (case hr => first | (go_simp; done) | (go_simp; rfl)); intro gb832 hg w13 hbox hb; have n0_ := Aside0.mk (blk_below (g := gb831) (o := .cells #[.int .i64 a0_0, .int .i64 a0_1, .int .i64 a0_2, .int .i64 a0_3] 86 (0, 0)) bK831_ hb); have n1_ := Aside0.mk (below_step hS_ hb); have n2_ := Aside0.mk (hbox); have n3_ := Aside0.mk ((sz_ hg (below_size hS_) : w.heap.size ≤ gb832)); have n4_ := Aside0.mk ((sz_ hg (below_size hS_) : w.heap.size ≤ gb832)); have n5_ := Aside0.mk ((by rw [hg]; exact Nat.ne_of_lt (blk_lt (g := gb831) (o := .cells #[.int .i64 a0_0, .int .i64 a0_1, .int .i64 a0_2, .int .i64 a0_3] 86 (0, 0)) bK831_) : gb831 ≠ gb832)); have n6_ := Aside0.mk ((by rw [hg]; exact Nat.ne_of_gt (blk_lt (g := gb831) (o := .cells #[.int .i64 a0_0, .int .i64 a0_1, .int .i64 a0_2, .int .i64 a0_3] 86 (0, 0)) bK831_) : gb832 ≠ gb831)); clear BK831; clear HB; have BK831 := n0_; have HB := n1_; have BK832 := n2_; have GW832 := n3_; have GE832 := n4_; have NB831_832 := n5_; have NB832_831 := n6_; clear n0_ n1_ n2_ n3_ n4_ n5_ n6_; clear hb hbox hg; have hnb14 := NB831_832.out; have hnc14 := NB832_831.out; obtain ⟨hcz15_0, hcz15_1, hcz15_2, hcz15_3, hfz15_0, hfz15_1, hfz15_2, hfz15_3⟩ := blkc4_ BK831.out; obtain ⟨hcz16_0, hcz16_1, hcz16_2, hcz16_3, hfz16_0, hfz16_1, hfz16_2, hfz16_3⟩ := blkc4_ BK832.out))
     go_ret
     exact ⟨rG_, hS_⟩
   ·rw [if_neg c5] at H
    have c5b0 : (a0_2 == a1_2) = false := beq_eq_false_iff_ne.mpr c5
    have c5b1 : (a0_2 != a1_2) = true := bne_iff_ne.mpr c5
    obtain rfl := Option.some.inj H
    go_enter Try.func130, Try.ntmps130
    go_wp2_with (first | ((with_reducible refine gate_dst (N := 2) rfl ?_); refine box_event ?hg (N := 2) ?hd (cs := #[.int .i64 a0_0, .int .i64 a0_1, .int .i64 a0_2, .int .i64 a0_3]) (t := 86) ?hr ?_; (case hd => rfl); (case hg => rfl); (case hr => first | (go_simp; done) | (go_simp; rfl)); intro gb831 hg w17 hbox hb; have n0_ := Aside0.mk (below_step hB_ hb); have n1_ := Aside0.mk (hbox); have n2_ := Aside0.mk ((sz_ hg (below_size hB_) : w.heap.size ≤ gb831)); have n3_ := Aside0.mk ((sz_ hg (below_size hB_) : w.heap.size ≤ gb831)); clear HB; have HB := n0_; have BK831 := n1_; have GW831 := n2_; have GE831 := n3_; clear n0_ n1_ n2_ n3_; clear hb hbox hg) | ((with_reducible refine gate_dst (N := 3) rfl ?_); refine box_event ?hg (N := 3) ?hd (cs := #[.int .i64 a1_0, .int .i64 a1_1, .int .i64 a1_2, .int .i64 a1_3]) (t := 86) ?hr ?_; (case hd => rfl); (case hg => rfl); (case hr => first | (go_simp; done) | (go_simp; rfl)); intro gb832 hg w18 hbox hb; have n0_ := Aside0.mk (blk_below (g := gb831) (o := .cells #[.int .i64 a0_0, .int .i64 a0_1, .int .i64 a0_2, .int .i64 a0_3] 86 (0, 0)) bK831_ hb); have n1_ := Aside0.mk (below_step hS_ hb); have n2_ := Aside0.mk (hbox); have n3_ := Aside0.mk ((sz_ hg (below_size hS_) : w.heap.size ≤ gb832)); have n4_ := Aside0.mk ((sz_ hg (below_size hS_) : w.heap.size ≤ gb832)); have n5_ := Aside0.mk ((by rw [hg]; exact Nat.ne_of_lt (blk_lt (g := gb831) (o := .cells #[.int .i64 a0_0, .int .i64 a0_1, .int .i64 a0_2, .int .i64 a0_3] 86 (0, 0)) bK831_) : gb831 ≠ gb832)); have n6_ := Aside0.mk ((by rw [hg]; exact Nat.ne_of_gt (blk_lt (g := gb831) (o := .cells #[.int .i64 a0_0, .int .i64 a0_1, .int .i64 a0_2, .int .i64 a0_3] 86 (0, 0)) bK831_) : gb832 ≠ gb831)); clear BK831; clear HB; have BK831 := n0_; have HB := n1_; have BK832 := n2_; have GW832 := n3_; have GE832 := n4_; have NB831_832 := n5_; have NB832_831 := n6_; clear n0_ n1_ n2_ n3_ n4_ n5_ n6_; clear hb hbox hg; have hnb19 := NB831_832.out; have hnc19 := NB832_831.out; obtain ⟨hcz20_0, hcz20_1, hcz20_2, hcz20_3, hfz20_0, hfz20_1, hfz20_2, hfz20_3⟩ := blkc4_ BK831.out; obtain ⟨hcz21_0, hcz21_1, hcz21_2, hcz21_3, hfz21_0, hfz21_1, hfz21_2, hfz21_3⟩ := blkc4_ BK832.out))
    go_ret
    exact ⟨rG_, hS_⟩
  ·rw [if_neg c4] at H
   have c4b0 : (a0_1 == a1_1) = false := beq_eq_false_iff_ne.mpr c4
   have c4b1 : (a0_1 != a1_1) = true := bne_iff_ne.mpr c4
   obtain rfl := Option.some.inj H
   go_enter Try.func130, Try.ntmps130
   go_wp2_with (first | ((with_reducible refine gate_dst (N := 2) rfl ?_); refine box_event ?hg (N := 2) ?hd (cs := #[.int .i64 a0_0, .int .i64 a0_1, .int .i64 a0_2, .int .i64 a0_3]) (t := 86) ?hr ?_; (case hd => rfl); (case hg => rfl); (case hr => first | (go_simp; done) | (go_simp; rfl)); intro gb831 hg w22 hbox hb; have n0_ := Aside0.mk (below_step hB_ hb); have n1_ := Aside0.mk (hbox); have n2_ := Aside0.mk ((sz_ hg (below_size hB_) : w.heap.size ≤ gb831)); have n3_ := Aside0.mk ((sz_ hg (below_size hB_) : w.heap.size ≤ gb831)); clear HB; have HB := n0_; have BK831 := n1_; have GW831 := n2_; have GE831 := n3_; clear n0_ n1_ n2_ n3_; clear hb hbox hg) | ((with_reducible refine gate_dst (N := 3) rfl ?_); refine box_event ?hg (N := 3) ?hd (cs := #[.int .i64 a1_0, .int .i64 a1_1, .int .i64 a1_2, .int .i64 a1_3]) (t := 86) ?hr ?_; (case hd => rfl); (case hg => rfl); (case hr => first | (go_simp; done) | (go_simp; rfl)); intro gb832 hg w23 hbox hb; have n0_ := Aside0.mk (blk_below (g := gb831) (o := .cells #[.int .i64 a0_0, .int .i64 a0_1, .int .i64 a0_2, .int .i64 a0_3] 86 (0, 0)) bK831_ hb); have n1_ := Aside0.mk (below_step hS_ hb); have n2_ := Aside0.mk (hbox); have n3_ := Aside0.mk ((sz_ hg (below_size hS_) : w.heap.size ≤ gb832)); have n4_ := Aside0.mk ((sz_ hg (below_size hS_) : w.heap.size ≤ gb832)); have n5_ := Aside0.mk ((by rw [hg]; exact Nat.ne_of_lt (blk_lt (g := gb831) (o := .cells #[.int .i64 a0_0, .int .i64 a0_1, .int .i64 a0_2, .int .i64 a0_3] 86 (0, 0)) bK831_) : gb831 ≠ gb832)); have n6_ := Aside0.mk ((by rw [hg]; exact Nat.ne_of_gt (blk_lt (g := gb831) (o := .cells #[.int .i64 a0_0, .int .i64 a0_1, .int .i64 a0_2, .int .i64 a0_3] 86 (0, 0)) bK831_) : gb832 ≠ gb831)); clear BK831; clear HB; have BK831 := n0_; have HB := n1_; have BK832 := n2_; have GW832 := n3_; have GE832 := n4_; have NB831_832 := n5_; have NB832_831 := n6_; clear n0_ n1_ n2_ n3_ n4_ n5_ n6_; clear hb hbox hg; have hnb24 := NB831_832.out; have hnc24 := NB832_831.out; obtain ⟨hcz25_0, hcz25_1, hcz25_2, hcz25_3, hfz25_0, hfz25_1, hfz25_2, hfz25_3⟩ := blkc4_ BK831.out; obtain ⟨hcz26_0, hcz26_1, hcz26_2, hcz26_3, hfz26_0, hfz26_1, hfz26_2, hfz26_3⟩ := blkc4_ BK832.out))
   go_ret
   exact ⟨rG_, hS_⟩
 ·rw [if_neg c3] at H
  have c3b0 : (a0_0 == a1_0) = false := beq_eq_false_iff_ne.mpr c3
  have c3b1 : (a0_0 != a1_0) = true := bne_iff_ne.mpr c3
  obtain rfl := Option.some.inj H
  go_enter Try.func130, Try.ntmps130
  go_wp2_with (first | ((with_reducible refine gate_dst (N := 2) rfl ?_); refine box_event ?hg (N := 2) ?hd (cs := #[.int .i64 a0_0, .int .i64 a0_1, .int .i64 a0_2, .int .i64 a0_3]) (t := 86) ?hr ?_; (case hd => rfl); (case hg => rfl); (case hr => first | (go_simp; done) | (go_simp; rfl)); intro gb831 hg w27 hbox hb; have n0_ := Aside0.mk (below_step hB_ hb); have n1_ := Aside0.mk (hbox); have n2_ := Aside0.mk ((sz_ hg (below_size hB_) : w.heap.size ≤ gb831)); have n3_ := Aside0.mk ((sz_ hg (below_size hB_) : w.heap.size ≤ gb831)); clear HB; have HB := n0_; have BK831 := n1_; have GW831 := n2_; have GE831 := n3_; clear n0_ n1_ n2_ n3_; clear hb hbox hg) | ((with_reducible refine gate_dst (N := 3) rfl ?_); refine box_event ?hg (N := 3) ?hd (cs := #[.int .i64 a1_0, .int .i64 a1_1, .int .i64 a1_2, .int .i64 a1_3]) (t := 86) ?hr ?_; (case hd => rfl); (case hg => rfl); (case hr => first | (go_simp; done) | (go_simp; rfl)); intro gb832 hg w28 hbox hb; have n0_ := Aside0.mk (blk_below (g := gb831) (o := .cells #[.int .i64 a0_0, .int .i64 a0_1, .int .i64 a0_2, .int .i64 a0_3] 86 (0, 0)) bK831_ hb); have n1_ := Aside0.mk (below_step hS_ hb); have n2_ := Aside0.mk (hbox); have n3_ := Aside0.mk ((sz_ hg (below_size hS_) : w.heap.size ≤ gb832)); have n4_ := Aside0.mk ((sz_ hg (below_size hS_) : w.heap.size ≤ gb832)); have n5_ := Aside0.mk ((by rw [hg]; exact Nat.ne_of_lt (blk_lt (g := gb831) (o := .cells #[.int .i64 a0_0, .int .i64 a0_1, .int .i64 a0_2, .int .i64 a0_3] 86 (0, 0)) bK831_) : gb831 ≠ gb832)); have n6_ := Aside0.mk ((by rw [hg]; exact Nat.ne_of_gt (blk_lt (g := gb831) (o := .cells #[.int .i64 a0_0, .int .i64 a0_1, .int .i64 a0_2, .int .i64 a0_3] 86 (0, 0)) bK831_) : gb832 ≠ gb831)); clear BK831; clear HB; have BK831 := n0_; have HB := n1_; have BK832 := n2_; have GW832 := n3_; have GE832 := n4_; have NB831_832 := n5_; have NB832_831 := n6_; clear n0_ n1_ n2_ n3_ n4_ n5_ n6_; clear hb hbox hg; have hnb29 := NB831_832.out; have hnc29 := NB832_831.out; obtain ⟨hcz30_0, hcz30_1, hcz30_2, hcz30_3, hfz30_0, hfz30_1, hfz30_2, hfz30_3⟩ := blkc4_ BK831.out; obtain ⟨hcz31_0, hcz31_1, hcz31_2, hcz31_3, hfz31_0, hfz31_1, hfz31_2, hfz31_3⟩ := blkc4_ BK832.out))
  go_ret
  exact ⟨rG_, hS_⟩
/-! ### laws_eqBlock: function 116 -/
def laws_eqBlock.f (k : Nat) (l0_0 : List (S95)) (l0_1 : List (S27)) (a0_2 : Int) (a0_3 : Int) (a0_4 : Int) (a0_5 : Int) (l1_0 : List (S95)) (l1_1 : List (S27)) (a1_2 : Int) (a1_3 : Int) (a1_4 : Int) (a1_5 : Int) : Option (Bool) := (laws_eqPhiS.f k l0_0 l1_0).bind fun t835 => (if t835 = true then ((laws_eqInstS.f k l0_1 l1_1).bind fun t836 => (if t836 = true then ((laws_eqTerm.f a0_2 a0_3 a0_4 a0_5 a1_2 a1_3 a1_4 a1_5).bind fun t837 => (if t837 = true then (some true) else (some false))) else (some false))) else (some false))
theorem laws_eqBlock.mono : ∀ a0 a1 a2 a3 a4 a5 a6 a7 a8 a9 a10 a11 k, LeO (laws_eqBlock.f k a0 a1 a2 a3 a4 a5 a6 a7 a8 a9 a10 a11) (laws_eqBlock.f (k + 1) a0 a1 a2 a3 a4 a5 a6 a7 a8 a9 a10 a11) := by
 intro a0 a1 a2 a3 a4 a5 a6 a7 a8 a9 a10 a11 k
 unfold laws_eqBlock.f
 repeat' first
   | (with_reducible exact laws_eqInstS.mono _ _ _)
   | (with_reducible exact laws_eqPhiS.mono _ _ _)
   | (with_reducible exact LeO.refl _)
   | (with_reducible exact LeO.none _)
   | (with_reducible refine LeO.ite ?_ ?_)
   | (with_reducible refine LeO.bind ?_ (fun _ => ?_))
   | exact laws_eqInstS.mono _ _ _
   | exact laws_eqPhiS.mono _ _ _
   | exact LeO.none _
   | refine LeO.ite ?_ ?_
   | refine LeO.bind ?_ (fun _ => ?_)
set_option maxHeartbeats 8000000 in
set_option maxRecDepth 100000 in
theorem laws_eqBlock.calls (k : Nat) (A0_0 : Option Addr) (c0_0 : Nat) (l0_0 : List (S95)) (A0_1 : Option Addr) (c0_1 : Nat) (l0_1 : List (S27)) (a0_2 : Int) (a0_3 : Int) (a0_4 : Int) (a0_5 : Int) (A1_0 : Option Addr) (c1_0 : Nat) (l1_0 : List (S95)) (A1_1 : Option Addr) (c1_1 : Nat) (l1_1 : List (S27)) (a1_2 : Int) (a1_3 : Int) (a1_4 : Int) (a1_5 : Int) (r : Bool) (w : World) (hr0_0 : Kd.C k95 w A0_0 l0_0.length l0_0) (hc0_0 : l0_0.length ≤ c0_0) (hr0_1 : Kd.C k27 w A0_1 l0_1.length l0_1) (hc0_1 : l0_1.length ≤ c0_1) (hr1_0 : Kd.C k95 w A1_0 l1_0.length l1_0) (hc1_0 : l1_0.length ≤ c1_0) (hr1_1 : Kd.C k27 w A1_1 l1_1.length l1_1) (hc1_1 : l1_1.length ≤ c1_1) (h : laws_eqBlock.f k l0_0 l0_1 a0_2 a0_3 a0_4 a0_5 l1_0 l1_1 a1_2 a1_3 a1_4 a1_5 = some r) :
  Calls Try.prog 116 #[.agg #[.slice A0_0 l0_0.length c0_0, .slice A0_1 l0_1.length c0_1, .int .i64 a0_2, .int .i64 a0_3, .int .i64 a0_4, .int .i64 a0_5], .agg #[.slice A1_0 l1_0.length c1_0, .slice A1_1 l1_1.length c1_1, .int .i64 a1_2, .int .i64 a1_3, .int .i64 a1_4, .int .i64 a1_5]] w fun e w' => e = .returned (.bool r) ∧ Below w.heap.size w w' := by
 have hu88 := Try.underlying88
 have hu86 := Try.underlying86
 have HR0_0 := Aside0.mk hr0_0
 have HC0_0 := Aside0.mk hc0_0
 clear hr0_0 hc0_0
 have HR0_1 := Aside0.mk hr0_1
 have HC0_1 := Aside0.mk hc0_1
 clear hr0_1 hc0_1
 have HR1_0 := Aside0.mk hr1_0
 have HC1_0 := Aside0.mk hc1_0
 clear hr1_0 hc1_0
 have HR1_1 := Aside0.mk hr1_1
 have HC1_1 := Aside0.mk hc1_1
 clear hr1_1 hc1_1
 have HB := Aside0.mk (Below.refl w.heap.size w)
 have H : ((laws_eqPhiS.f k l0_0 l1_0).bind fun t835 => (if t835 = true then ((laws_eqInstS.f k l0_1 l1_1).bind fun t836 => (if t836 = true then ((laws_eqTerm.f a0_2 a0_3 a0_4 a0_5 a1_2 a1_3 a1_4 a1_5).bind fun t837 => (if t837 = true then (some true) else (some false))) else (some false))) else (some false))) = some r := h
 clear h
 replace H := Option.bind_eq_some_iff.mp H
 obtain ⟨t835, A30, H⟩ := H
 replace H : (if t835 = true then ((laws_eqInstS.f k l0_1 l1_1).bind fun t836 => (if t836 = true then ((laws_eqTerm.f a0_2 a0_3 a0_4 a0_5 a1_2 a1_3 a1_4 a1_5).bind fun t837 => (if t837 = true then (some true) else (some false))) else (some false))) else (some false)) = some r := H
 have A3 := Aside0.mk A30
 clear A30
 by_cases c4 : t835 = true
 ·subst c4
  have H1 := (if_pos rfl).symm.trans H
  clear H
  have H := H1
  clear H1
  replace H := Option.bind_eq_some_iff.mp H
  obtain ⟨t836, A50, H⟩ := H
  replace H : (if t836 = true then ((laws_eqTerm.f a0_2 a0_3 a0_4 a0_5 a1_2 a1_3 a1_4 a1_5).bind fun t837 => (if t837 = true then (some true) else (some false))) else (some false)) = some r := H
  have A5 := Aside0.mk A50
  clear A50
  by_cases c6 : t836 = true
  ·subst c6
   have H1 := (if_pos rfl).symm.trans H
   clear H
   have H := H1
   clear H1
   replace H := Option.bind_eq_some_iff.mp H
   obtain ⟨t837, A70, H⟩ := H
   replace H : (if t837 = true then (some true) else (some false)) = some r := H
   have A7 := Aside0.mk A70
   clear A70
   by_cases c8 : t837 = true
   ·subst c8
    have H1 := (if_pos rfl).symm.trans H
    clear H
    have H := H1
    clear H1
    obtain rfl := Option.some.inj H
    go_enter Try.func116, Try.ntmps116
    go_wp2_with (first | ((with_reducible refine gate_dst (N := 2) rfl ?_); refine box_event ?hg (N := 2) ?hd (cs := #[.slice A0_0 l0_0.length c0_0, .slice A0_1 l0_1.length c0_1, .int .i64 a0_2, .int .i64 a0_3, .int .i64 a0_4, .int .i64 a0_5]) (t := 88) ?hr ?_; (case hd => rfl); (case hg => rfl); (case hr => first | (go_simp; done) | (go_simp; rfl)); intro gb833 hg w9 hbox hb; have n0_ := Aside0.mk (below_step hB_ hb); have n1_ := Aside0.mk (hbox); have n2_ := Aside0.mk ((sz_ hg (below_size hB_) : w.heap.size ≤ gb833)); have n3_ := Aside0.mk ((sz_ hg (below_size hB_) : w.heap.size ≤ gb833)); clear HB; have HB := n0_; have BK833 := n1_; have GW833 := n2_; have GE833 := n3_; clear n0_ n1_ n2_ n3_; clear hb hbox hg) | ((with_reducible refine gate_dst (N := 3) rfl ?_); refine box_event ?hg (N := 3) ?hd (cs := #[.slice A1_0 l1_0.length c1_0, .slice A1_1 l1_1.length c1_1, .int .i64 a1_2, .int .i64 a1_3, .int .i64 a1_4, .int .i64 a1_5]) (t := 88) ?hr ?_; (case hd => rfl); (case hg => rfl); (case hr => first | (go_simp; done) | (go_simp; rfl)); intro gb834 hg w10 hbox hb; have n0_ := Aside0.mk (blk_below (g := gb833) (o := .cells #[.slice A0_0 l0_0.length c0_0, .slice A0_1 l0_1.length c0_1, .int .i64 a0_2, .int .i64 a0_3, .int .i64 a0_4, .int .i64 a0_5] 88 (0, 0)) bK833_ hb); have n1_ := Aside0.mk (below_step hS_ hb); have n2_ := Aside0.mk (hbox); have n3_ := Aside0.mk ((sz_ hg (below_size hS_) : w.heap.size ≤ gb834)); have n4_ := Aside0.mk ((sz_ hg (below_size hS_) : w.heap.size ≤ gb834)); have n5_ := Aside0.mk ((by rw [hg]; exact Nat.ne_of_lt (blk_lt (g := gb833) (o := .cells #[.slice A0_0 l0_0.length c0_0, .slice A0_1 l0_1.length c0_1, .int .i64 a0_2, .int .i64 a0_3, .int .i64 a0_4, .int .i64 a0_5] 88 (0, 0)) bK833_) : gb833 ≠ gb834)); have n6_ := Aside0.mk ((by rw [hg]; exact Nat.ne_of_gt (blk_lt (g := gb833) (o := .cells #[.slice A0_0 l0_0.length c0_0, .slice A0_1 l0_1.length c0_1, .int .i64 a0_2, .int .i64 a0_3, .int .i64 a0_4, .int .i64 a0_5] 88 (0, 0)) bK833_) : gb834 ≠ gb833)); clear BK833; clear HB; have BK833 := n0_; have HB := n1_; have BK834 := n2_; have GW834 := n3_; have GE834 := n4_; have NB833_834 := n5_; have NB834_833 := n6_; clear n0_ n1_ n2_ n3_ n4_ n5_ n6_; clear hb hbox hg; have hnb11 := NB833_834.out; have hnc11 := NB834_833.out; obtain ⟨hcz12_0, hcz12_1, hcz12_2, hcz12_3, hcz12_4, hcz12_5, hfz12_0, hfz12_1, hfz12_2, hfz12_3, hfz12_4, hfz12_5⟩ := blkc6_ BK833.out; obtain ⟨hcz13_0, hcz13_1, hcz13_2, hcz13_3, hcz13_4, hcz13_5, hfz13_0, hfz13_1, hfz13_2, hfz13_3, hfz13_4, hfz13_5⟩ := blkc6_ BK834.out) | ((with_reducible refine gate_callee (f := 128) rfl ?_); refine gL_ (some 9) Try.func128 #[.slice A0_0 l0_0.length c0_0, .slice A1_0 l1_0.length c1_0] ?_; (with_reducible refine (laws_eqPhiS.calls k _ _ l0_0 _ _ l1_0 true _ ?side1 ?side2 ?side3 ?side4 A3.out).mono ?_); (case side1 => exact cHR0_0_); (case side2 => exact HC0_0.out); (case side3 => exact cHR1_0_); (case side4 => exact HC1_0.out); rintro e w14 ⟨rfl, hb⟩; refine ⟨_, rfl, ?_⟩; have n0_ := Aside0.mk (blk_below (g := gb833) (o := .cells #[.slice A0_0 l0_0.length c0_0, .slice A0_1 l0_1.length c0_1, .int .i64 a0_2, .int .i64 a0_3, .int .i64 a0_4, .int .i64 a0_5] 88 (0, 0)) bK833_ hb); have n1_ := Aside0.mk (blk_below (g := gb834) (o := .cells #[.slice A1_0 l1_0.length c1_0, .slice A1_1 l1_1.length c1_1, .int .i64 a1_2, .int .i64 a1_3, .int .i64 a1_4, .int .i64 a1_5] 88 (0, 0)) bK834_ hb); have n2_ := Aside0.mk (below_step hS_ hb); clear BK833; clear BK834; clear HB; have BK833 := n0_; have BK834 := n1_; have HB := n2_; clear n0_ n1_ n2_; (try clear hb); (try clear hb2); (try clear hk); (try clear hi); obtain ⟨hcz15_0, hcz15_1, hcz15_2, hcz15_3, hcz15_4, hcz15_5, hfz15_0, hfz15_1, hfz15_2, hfz15_3, hfz15_4, hfz15_5⟩ := blkc6_ BK833.out; obtain ⟨hcz16_0, hcz16_1, hcz16_2, hcz16_3, hcz16_4, hcz16_5, hfz16_0, hfz16_1, hfz16_2, hfz16_3, hfz16_4, hfz16_5⟩ := blkc6_ BK834.out) | ((with_reducible refine gate_callee (f := 129) rfl ?_); refine gL_ (some 15) Try.func129 #[.slice A0_1 l0_1.length c0_1, .slice A1_1 l1_1.length c1_1] ?_; (with_reducible refine (laws_eqInstS.calls k _ _ l0_1 _ _ l1_1 true _ ?side1 ?side2 ?side3 ?side4 A5.out).mono ?_); (case side1 => exact cHR0_1_); (case side2 => exact HC0_1.out); (case side3 => exact cHR1_1_); (case side4 => exact HC1_1.out); rintro e w17 ⟨rfl, hb⟩; refine ⟨_, rfl, ?_⟩; have n0_ := Aside0.mk (blk_below (g := gb833) (o := .cells #[.slice A0_0 l0_0.length c0_0, .slice A0_1 l0_1.length c0_1, .int .i64 a0_2, .int .i64 a0_3, .int .i64 a0_4, .int .i64 a0_5] 88 (0, 0)) bK833_ hb); have n1_ := Aside0.mk (blk_below (g := gb834) (o := .cells #[.slice A1_0 l1_0.length c1_0, .slice A1_1 l1_1.length c1_1, .int .i64 a1_2, .int .i64 a1_3, .int .i64 a1_4, .int .i64 a1_5] 88 (0, 0)) bK834_ hb); have n2_ := Aside0.mk (below_step hS_ hb); clear BK833; clear BK834; clear HB; have BK833 := n0_; have BK834 := n1_; have HB := n2_; clear n0_ n1_ n2_; (try clear hb); (try clear hb2); (try clear hk); (try clear hi); obtain ⟨hcz18_0, hcz18_1, hcz18_2, hcz18_3, hcz18_4, hcz18_5, hfz18_0, hfz18_1, hfz18_2, hfz18_3, hfz18_4, hfz18_5⟩ := blkc6_ BK833.out; obtain ⟨hcz19_0, hcz19_1, hcz19_2, hcz19_3, hcz19_4, hcz19_5, hfz19_0, hfz19_1, hfz19_2, hfz19_3, hfz19_4, hfz19_5⟩ := blkc6_ BK834.out) | ((with_reducible refine gate_callee (f := 130) rfl ?_); refine gL_ (some 21) Try.func130 #[.agg #[.int .i64 a0_2, .int .i64 a0_3, .int .i64 a0_4, .int .i64 a0_5], .agg #[.int .i64 a1_2, .int .i64 a1_3, .int .i64 a1_4, .int .i64 a1_5]] ?_; (with_reducible refine (laws_eqTerm.calls a0_2 a0_3 a0_4 a0_5 a1_2 a1_3 a1_4 a1_5 true _ A7.out).mono ?_); rintro e w20 ⟨rfl, hb⟩; refine ⟨_, rfl, ?_⟩; have n0_ := Aside0.mk (blk_below (g := gb833) (o := .cells #[.slice A0_0 l0_0.length c0_0, .slice A0_1 l0_1.length c0_1, .int .i64 a0_2, .int .i64 a0_3, .int .i64 a0_4, .int .i64 a0_5] 88 (0, 0)) bK833_ hb); have n1_ := Aside0.mk (blk_below (g := gb834) (o := .cells #[.slice A1_0 l1_0.length c1_0, .slice A1_1 l1_1.length c1_1, .int .i64 a1_2, .int .i64 a1_3, .int .i64 a1_4, .int .i64 a1_5] 88 (0, 0)) bK834_ hb); have n2_ := Aside0.mk (below_step hS_ hb); clear BK833; clear BK834; clear HB; have BK833 := n0_; have BK834 := n1_; have HB := n2_; clear n0_ n1_ n2_; (try clear hb); (try clear hb2); (try clear hk); (try clear hi)))
    go_ret
    exact ⟨rG_, hS_⟩
   ·replace c8 := Bool.eq_false_iff.mpr c8
    subst c8
    have H1 := (if_neg (show ¬ (false = true) by decide)).symm.trans H
    clear H
    have H := H1
    clear H1
    obtain rfl := Option.some.inj H
    go_enter Try.func116, Try.ntmps116
    go_wp2_with (first | ((with_reducible refine gate_dst (N := 2) rfl ?_); refine box_event ?hg (N := 2) ?hd (cs := #[.slice A0_0 l0_0.length c0_0, .slice A0_1 l0_1.length c0_1, .int .i64 a0_2, .int .i64 a0_3, .int .i64 a0_4, .int .i64 a0_5]) (t := 88) ?hr ?_; (case hd => rfl); (case hg => rfl); (case hr => first | (go_simp; done) | (go_simp; rfl)); intro gb833 hg w21 hbox hb; have n0_ := Aside0.mk (below_step hB_ hb); have n1_ := Aside0.mk (hbox); have n2_ := Aside0.mk ((sz_ hg (below_size hB_) : w.heap.size ≤ gb833)); have n3_ := Aside0.mk ((sz_ hg (below_size hB_) : w.heap.size ≤ gb833)); clear HB; have HB := n0_; have BK833 := n1_; have GW833 := n2_; have GE833 := n3_; clear n0_ n1_ n2_ n3_; clear hb hbox hg) | ((with_reducible refine gate_dst (N := 3) rfl ?_); refine box_event ?hg (N := 3) ?hd (cs := #[.slice A1_0 l1_0.length c1_0, .slice A1_1 l1_1.length c1_1, .int .i64 a1_2, .int .i64 a1_3, .int .i64 a1_4, .int .i64 a1_5]) (t := 88) ?hr ?_; (case hd => rfl); (case hg => rfl); (case hr => first | (go_simp; done) | (go_simp; rfl)); intro gb834 hg w22 hbox hb; have n0_ := Aside0.mk (blk_below (g := gb833) (o := .cells #[.slice A0_0 l0_0.length c0_0, .slice A0_1 l0_1.length c0_1, .int .i64 a0_2, .int .i64 a0_3, .int .i64 a0_4, .int .i64 a0_5] 88 (0, 0)) bK833_ hb); have n1_ := Aside0.mk (below_step hS_ hb); have n2_ := Aside0.mk (hbox); have n3_ := Aside0.mk ((sz_ hg (below_size hS_) : w.heap.size ≤ gb834)); have n4_ := Aside0.mk ((sz_ hg (below_size hS_) : w.heap.size ≤ gb834)); have n5_ := Aside0.mk ((by rw [hg]; exact Nat.ne_of_lt (blk_lt (g := gb833) (o := .cells #[.slice A0_0 l0_0.length c0_0, .slice A0_1 l0_1.length c0_1, .int .i64 a0_2, .int .i64 a0_3, .int .i64 a0_4, .int .i64 a0_5] 88 (0, 0)) bK833_) : gb833 ≠ gb834)); have n6_ := Aside0.mk ((by rw [hg]; exact Nat.ne_of_gt (blk_lt (g := gb833) (o := .cells #[.slice A0_0 l0_0.length c0_0, .slice A0_1 l0_1.length c0_1, .int .i64 a0_2, .int .i64 a0_3, .int .i64 a0_4, .int .i64 a0_5] 88 (0, 0)) bK833_) : gb834 ≠ gb833)); clear BK833; clear HB; have BK833 := n0_; have HB := n1_; have BK834 := n2_; have GW834 := n3_; have GE834 := n4_; have NB833_834 := n5_; have NB834_833 := n6_; clear n0_ n1_ n2_ n3_ n4_ n5_ n6_; clear hb hbox hg; have hnb23 := NB833_834.out; have hnc23 := NB834_833.out; obtain ⟨hcz24_0, hcz24_1, hcz24_2, hcz24_3, hcz24_4, hcz24_5, hfz24_0, hfz24_1, hfz24_2, hfz24_3, hfz24_4, hfz24_5⟩ := blkc6_ BK833.out; obtain ⟨hcz25_0, hcz25_1, hcz25_2, hcz25_3, hcz25_4, hcz25_5, hfz25_0, hfz25_1, hfz25_2, hfz25_3, hfz25_4, hfz25_5⟩ := blkc6_ BK834.out) | ((with_reducible refine gate_callee (f := 128) rfl ?_); refine gL_ (some 9) Try.func128 #[.slice A0_0 l0_0.length c0_0, .slice A1_0 l1_0.length c1_0] ?_; (with_reducible refine (laws_eqPhiS.calls k _ _ l0_0 _ _ l1_0 true _ ?side1 ?side2 ?side3 ?side4 A3.out).mono ?_); (case side1 => exact cHR0_0_); (case side2 => exact HC0_0.out); (case side3 => exact cHR1_0_); (case side4 => exact HC1_0.out); rintro e w26 ⟨rfl, hb⟩; refine ⟨_, rfl, ?_⟩; have n0_ := Aside0.mk (blk_below (g := gb833) (o := .cells #[.slice A0_0 l0_0.length c0_0, .slice A0_1 l0_1.length c0_1, .int .i64 a0_2, .int .i64 a0_3, .int .i64 a0_4, .int .i64 a0_5] 88 (0, 0)) bK833_ hb); have n1_ := Aside0.mk (blk_below (g := gb834) (o := .cells #[.slice A1_0 l1_0.length c1_0, .slice A1_1 l1_1.length c1_1, .int .i64 a1_2, .int .i64 a1_3, .int .i64 a1_4, .int .i64 a1_5] 88 (0, 0)) bK834_ hb); have n2_ := Aside0.mk (below_step hS_ hb); clear BK833; clear BK834; clear HB; have BK833 := n0_; have BK834 := n1_; have HB := n2_; clear n0_ n1_ n2_; (try clear hb); (try clear hb2); (try clear hk); (try clear hi); obtain ⟨hcz27_0, hcz27_1, hcz27_2, hcz27_3, hcz27_4, hcz27_5, hfz27_0, hfz27_1, hfz27_2, hfz27_3, hfz27_4, hfz27_5⟩ := blkc6_ BK833.out; obtain ⟨hcz28_0, hcz28_1, hcz28_2, hcz28_3, hcz28_4, hcz28_5, hfz28_0, hfz28_1, hfz28_2, hfz28_3, hfz28_4, hfz28_5⟩ := blkc6_ BK834.out) | ((with_reducible refine gate_callee (f := 129) rfl ?_); refine gL_ (some 15) Try.func129 #[.slice A0_1 l0_1.length c0_1, .slice A1_1 l1_1.length c1_1] ?_; (with_reducible refine (laws_eqInstS.calls k _ _ l0_1 _ _ l1_1 true _ ?side1 ?side2 ?side3 ?side4 A5.out).mono ?_); (case side1 => exact cHR0_1_); (case side2 => exact HC0_1.out); (case side3 => exact cHR1_1_); (case side4 => exact HC1_1.out); rintro e w29 ⟨rfl, hb⟩; refine ⟨_, rfl, ?_⟩; have n0_ := Aside0.mk (blk_below (g := gb833) (o := .cells #[.slice A0_0 l0_0.length c0_0, .slice A0_1 l0_1.length c0_1, .int .i64 a0_2, .int .i64 a0_3, .int .i64 a0_4, .int .i64 a0_5] 88 (0, 0)) bK833_ hb); have n1_ := Aside0.mk (blk_below (g := gb834) (o := .cells #[.slice A1_0 l1_0.length c1_0, .slice A1_1 l1_1.length c1_1, .int .i64 a1_2, .int .i64 a1_3, .int .i64 a1_4, .int .i64 a1_5] 88 (0, 0)) bK834_ hb); have n2_ := Aside0.mk (below_step hS_ hb); clear BK833; clear BK834; clear HB; have BK833 := n0_; have BK834 := n1_; have HB := n2_; clear n0_ n1_ n2_; (try clear hb); (try clear hb2); (try clear hk); (try clear hi); obtain ⟨hcz30_0, hcz30_1, hcz30_2, hcz30_3, hcz30_4, hcz30_5, hfz30_0, hfz30_1, hfz30_2, hfz30_3, hfz30_4, hfz30_5⟩ := blkc6_ BK833.out; obtain ⟨hcz31_0, hcz31_1, hcz31_2, hcz31_3, hcz31_4, hcz31_5, hfz31_0, hfz31_1, hfz31_2, hfz31_3, hfz31_4, hfz31_5⟩ := blkc6_ BK834.out) | ((with_reducible refine gate_callee (f := 130) rfl ?_); refine gL_ (some 21) Try.func130 #[.agg #[.int .i64 a0_2, .int .i64 a0_3, .int .i64 a0_4, .int .i64 a0_5], .agg #[.int .i64 a1_2, .int .i64 a1_3, .int .i64 a1_4, .int .i64 a1_5]] ?_; (with_reducible refine (laws_eqTerm.calls a0_2 a0_3 a0_4 a0_5 a1_2 a1_3 a1_4 a1_5 false _ A7.out).mono ?_); rintro e w32 ⟨rfl, hb⟩; refine ⟨_, rfl, ?_⟩; have n0_ := Aside0.mk (blk_below (g := gb833) (o := .cells #[.slice A0_0 l0_0.length c0_0, .slice A0_1 l0_1.length c0_1, .int .i64 a0_2, .int .i64 a0_3, .int .i64 a0_4, .int .i64 a0_5] 88 (0, 0)) bK833_ hb); have n1_ := Aside0.mk (blk_below (g := gb834) (o := .cells #[.slice A1_0 l1_0.length c1_0, .slice A1_1 l1_1.length c1_1, .int .i64 a1_2, .int .i64 a1_3, .int .i64 a1_4, .int .i64 a1_5] 88 (0, 0)) bK834_ hb); have n2_ := Aside0.mk (below_step hS_ hb); clear BK833; clear BK834; clear HB; have BK833 := n0_; have BK834 := n1_; have HB := n2_; clear n0_ n1_ n2_; (try clear hb); (try clear hb2); (try clear hk); (try clear hi)))
    go_ret
    exact ⟨rG_, hS_⟩
  ·replace c6 := Bool.eq_false_iff.mpr c6
   subst c6
   have H1 := (if_neg (show ¬ (false = true) by decide)).symm.trans H
   clear H
   have H := H1
   clear H1
   obtain rfl := Option.some.inj H
   go_enter Try.func116, Try.ntmps116
   go_wp2_with (first | ((with_reducible refine gate_dst (N := 2) rfl ?_); refine box_event ?hg (N := 2) ?hd (cs := #[.slice A0_0 l0_0.length c0_0, .slice A0_1 l0_1.length c0_1, .int .i64 a0_2, .int .i64 a0_3, .int .i64 a0_4, .int .i64 a0_5]) (t := 88) ?hr ?_; (case hd => rfl); (case hg => rfl); (case hr => first | (go_simp; done) | (go_simp; rfl)); intro gb833 hg w33 hbox hb; have n0_ := Aside0.mk (below_step hB_ hb); have n1_ := Aside0.mk (hbox); have n2_ := Aside0.mk ((sz_ hg (below_size hB_) : w.heap.size ≤ gb833)); have n3_ := Aside0.mk ((sz_ hg (below_size hB_) : w.heap.size ≤ gb833)); clear HB; have HB := n0_; have BK833 := n1_; have GW833 := n2_; have GE833 := n3_; clear n0_ n1_ n2_ n3_; clear hb hbox hg) | ((with_reducible refine gate_dst (N := 3) rfl ?_); refine box_event ?hg (N := 3) ?hd (cs := #[.slice A1_0 l1_0.length c1_0, .slice A1_1 l1_1.length c1_1, .int .i64 a1_2, .int .i64 a1_3, .int .i64 a1_4, .int .i64 a1_5]) (t := 88) ?hr ?_; (case hd => rfl); (case hg => rfl); (case hr => first | (go_simp; done) | (go_simp; rfl)); intro gb834 hg w34 hbox hb; have n0_ := Aside0.mk (blk_below (g := gb833) (o := .cells #[.slice A0_0 l0_0.length c0_0, .slice A0_1 l0_1.length c0_1, .int .i64 a0_2, .int .i64 a0_3, .int .i64 a0_4, .int .i64 a0_5] 88 (0, 0)) bK833_ hb); have n1_ := Aside0.mk (below_step hS_ hb); have n2_ := Aside0.mk (hbox); have n3_ := Aside0.mk ((sz_ hg (below_size hS_) : w.heap.size ≤ gb834)); have n4_ := Aside0.mk ((sz_ hg (below_size hS_) : w.heap.size ≤ gb834)); have n5_ := Aside0.mk ((by rw [hg]; exact Nat.ne_of_lt (blk_lt (g := gb833) (o := .cells #[.slice A0_0 l0_0.length c0_0, .slice A0_1 l0_1.length c0_1, .int .i64 a0_2, .int .i64 a0_3, .int .i64 a0_4, .int .i64 a0_5] 88 (0, 0)) bK833_) : gb833 ≠ gb834)); have n6_ := Aside0.mk ((by rw [hg]; exact Nat.ne_of_gt (blk_lt (g := gb833) (o := .cells #[.slice A0_0 l0_0.length c0_0, .slice A0_1 l0_1.length c0_1, .int .i64 a0_2, .int .i64 a0_3, .int .i64 a0_4, .int .i64 a0_5] 88 (0, 0)) bK833_) : gb834 ≠ gb833)); clear BK833; clear HB; have BK833 := n0_; have HB := n1_; have BK834 := n2_; have GW834 := n3_; have GE834 := n4_; have NB833_834 := n5_; have NB834_833 := n6_; clear n0_ n1_ n2_ n3_ n4_ n5_ n6_; clear hb hbox hg; have hnb35 := NB833_834.out; have hnc35 := NB834_833.out; obtain ⟨hcz36_0, hcz36_1, hcz36_2, hcz36_3, hcz36_4, hcz36_5, hfz36_0, hfz36_1, hfz36_2, hfz36_3, hfz36_4, hfz36_5⟩ := blkc6_ BK833.out; obtain ⟨hcz37_0, hcz37_1, hcz37_2, hcz37_3, hcz37_4, hcz37_5, hfz37_0, hfz37_1, hfz37_2, hfz37_3, hfz37_4, hfz37_5⟩ := blkc6_ BK834.out) | ((with_reducible refine gate_callee (f := 128) rfl ?_); refine gL_ (some 9) Try.func128 #[.slice A0_0 l0_0.length c0_0, .slice A1_0 l1_0.length c1_0] ?_; (with_reducible refine (laws_eqPhiS.calls k _ _ l0_0 _ _ l1_0 true _ ?side1 ?side2 ?side3 ?side4 A3.out).mono ?_); (case side1 => exact cHR0_0_); (case side2 => exact HC0_0.out); (case side3 => exact cHR1_0_); (case side4 => exact HC1_0.out); rintro e w38 ⟨rfl, hb⟩; refine ⟨_, rfl, ?_⟩; have n0_ := Aside0.mk (blk_below (g := gb833) (o := .cells #[.slice A0_0 l0_0.length c0_0, .slice A0_1 l0_1.length c0_1, .int .i64 a0_2, .int .i64 a0_3, .int .i64 a0_4, .int .i64 a0_5] 88 (0, 0)) bK833_ hb); have n1_ := Aside0.mk (blk_below (g := gb834) (o := .cells #[.slice A1_0 l1_0.length c1_0, .slice A1_1 l1_1.length c1_1, .int .i64 a1_2, .int .i64 a1_3, .int .i64 a1_4, .int .i64 a1_5] 88 (0, 0)) bK834_ hb); have n2_ := Aside0.mk (below_step hS_ hb); clear BK833; clear BK834; clear HB; have BK833 := n0_; have BK834 := n1_; have HB := n2_; clear n0_ n1_ n2_; (try clear hb); (try clear hb2); (try clear hk); (try clear hi); obtain ⟨hcz39_0, hcz39_1, hcz39_2, hcz39_3, hcz39_4, hcz39_5, hfz39_0, hfz39_1, hfz39_2, hfz39_3, hfz39_4, hfz39_5⟩ := blkc6_ BK833.out; obtain ⟨hcz40_0, hcz40_1, hcz40_2, hcz40_3, hcz40_4, hcz40_5, hfz40_0, hfz40_1, hfz40_2, hfz40_3, hfz40_4, hfz40_5⟩ := blkc6_ BK834.out) | ((with_reducible refine gate_callee (f := 129) rfl ?_); refine gL_ (some 15) Try.func129 #[.slice A0_1 l0_1.length c0_1, .slice A1_1 l1_1.length c1_1] ?_; (with_reducible refine (laws_eqInstS.calls k _ _ l0_1 _ _ l1_1 false _ ?side1 ?side2 ?side3 ?side4 A5.out).mono ?_); (case side1 => exact cHR0_1_); (case side2 => exact HC0_1.out); (case side3 => exact cHR1_1_); (case side4 => exact HC1_1.out); rintro e w41 ⟨rfl, hb⟩; refine ⟨_, rfl, ?_⟩; have n0_ := Aside0.mk (blk_below (g := gb833) (o := .cells #[.slice A0_0 l0_0.length c0_0, .slice A0_1 l0_1.length c0_1, .int .i64 a0_2, .int .i64 a0_3, .int .i64 a0_4, .int .i64 a0_5] 88 (0, 0)) bK833_ hb); have n1_ := Aside0.mk (blk_below (g := gb834) (o := .cells #[.slice A1_0 l1_0.length c1_0, .slice A1_1 l1_1.length c1_1, .int .i64 a1_2, .int .i64 a1_3, .int .i64 a1_4, .int .i64 a1_5] 88 (0, 0)) bK834_ hb); have n2_ := Aside0.mk (below_step hS_ hb); clear BK833; clear BK834; clear HB; have BK833 := n0_; have BK834 := n1_; have HB := n2_; clear n0_ n1_ n2_; (try clear hb); (try clear hb2); (try clear hk); (try clear hi)))
   go_ret
   exact ⟨rG_, hS_⟩
 ·replace c4 := Bool.eq_false_iff.mpr c4
  subst c4
  have H1 := (if_neg (show ¬ (false = true) by decide)).symm.trans H
  clear H
  have H := H1
  clear H1
  obtain rfl := Option.some.inj H
  go_enter Try.func116, Try.ntmps116
  go_wp2_with (first | ((with_reducible refine gate_dst (N := 2) rfl ?_); refine box_event ?hg (N := 2) ?hd (cs := #[.slice A0_0 l0_0.length c0_0, .slice A0_1 l0_1.length c0_1, .int .i64 a0_2, .int .i64 a0_3, .int .i64 a0_4, .int .i64 a0_5]) (t := 88) ?hr ?_; (case hd => rfl); (case hg => rfl); (case hr => first | (go_simp; done) | (go_simp; rfl)); intro gb833 hg w42 hbox hb; have n0_ := Aside0.mk (below_step hB_ hb); have n1_ := Aside0.mk (hbox); have n2_ := Aside0.mk ((sz_ hg (below_size hB_) : w.heap.size ≤ gb833)); have n3_ := Aside0.mk ((sz_ hg (below_size hB_) : w.heap.size ≤ gb833)); clear HB; have HB := n0_; have BK833 := n1_; have GW833 := n2_; have GE833 := n3_; clear n0_ n1_ n2_ n3_; clear hb hbox hg) | ((with_reducible refine gate_dst (N := 3) rfl ?_); refine box_event ?hg (N := 3) ?hd (cs := #[.slice A1_0 l1_0.length c1_0, .slice A1_1 l1_1.length c1_1, .int .i64 a1_2, .int .i64 a1_3, .int .i64 a1_4, .int .i64 a1_5]) (t := 88) ?hr ?_; (case hd => rfl); (case hg => rfl); (case hr => first | (go_simp; done) | (go_simp; rfl)); intro gb834 hg w43 hbox hb; have n0_ := Aside0.mk (blk_below (g := gb833) (o := .cells #[.slice A0_0 l0_0.length c0_0, .slice A0_1 l0_1.length c0_1, .int .i64 a0_2, .int .i64 a0_3, .int .i64 a0_4, .int .i64 a0_5] 88 (0, 0)) bK833_ hb); have n1_ := Aside0.mk (below_step hS_ hb); have n2_ := Aside0.mk (hbox); have n3_ := Aside0.mk ((sz_ hg (below_size hS_) : w.heap.size ≤ gb834)); have n4_ := Aside0.mk ((sz_ hg (below_size hS_) : w.heap.size ≤ gb834)); have n5_ := Aside0.mk ((by rw [hg]; exact Nat.ne_of_lt (blk_lt (g := gb833) (o := .cells #[.slice A0_0 l0_0.length c0_0, .slice A0_1 l0_1.length c0_1, .int .i64 a0_2, .int .i64 a0_3, .int .i64 a0_4, .int .i64 a0_5] 88 (0, 0)) bK833_) : gb833 ≠ gb834)); have n6_ := Aside0.mk ((by rw [hg]; exact Nat.ne_of_gt (blk_lt (g := gb833) (o := .cells #[.slice A0_0 l0_0.length c0_0, .slice A0_1 l0_1.length c0_1, .int .i64 a0_2, .int .i64 a0_3, .int .i64 a0_4, .int .i64 a0_5] 88 (0, 0)) bK833_) : gb834 ≠ gb833)); clear BK833; clear HB; have BK833 := n0_; have HB := n1_; have BK834 := n2_; have GW834 := n3_; have GE834 := n4_; have NB833_834 := n5_; have NB834_833 := n6_; clear n0_ n1_ n2_ n3_ n4_ n5_ n6_; clear hb hbox hg; have hnb44 := NB833_834.out; have hnc44 := NB834_833.out; obtain ⟨hcz45_0, hcz45_1, hcz45_2, hcz45_3, hcz45_4, hcz45_5, hfz45_0, hfz45_1, hfz45_2, hfz45_3, hfz45_4, hfz45_5⟩ := blkc6_ BK833.out; obtain ⟨hcz46_0, hcz46_1, hcz46_2, hcz46_3, hcz46_4, hcz46_5, hfz46_0, hfz46_1, hfz46_2, hfz46_3, hfz46_4, hfz46_5⟩ := blkc6_ BK834.out) | ((with_reducible refine gate_callee (f := 128) rfl ?_); refine gL_ (some 9) Try.func128 #[.slice A0_0 l0_0.length c0_0, .slice A1_0 l1_0.length c1_0] ?_; (with_reducible refine (laws_eqPhiS.calls k _ _ l0_0 _ _ l1_0 false _ ?side1 ?side2 ?side3 ?side4 A3.out).mono ?_); (case side1 => exact cHR0_0_); (case side2 => exact HC0_0.out); (case side3 => exact cHR1_0_); (case side4 => exact HC1_0.out); rintro e w47 ⟨rfl, hb⟩; refine ⟨_, rfl, ?_⟩; have n0_ := Aside0.mk (blk_below (g := gb833) (o := .cells #[.slice A0_0 l0_0.length c0_0, .slice A0_1 l0_1.length c0_1, .int .i64 a0_2, .int .i64 a0_3, .int .i64 a0_4, .int .i64 a0_5] 88 (0, 0)) bK833_ hb); have n1_ := Aside0.mk (blk_below (g := gb834) (o := .cells #[.slice A1_0 l1_0.length c1_0, .slice A1_1 l1_1.length c1_1, .int .i64 a1_2, .int .i64 a1_3, .int .i64 a1_4, .int .i64 a1_5] 88 (0, 0)) bK834_ hb); have n2_ := Aside0.mk (below_step hS_ hb); clear BK833; clear BK834; clear HB; have BK833 := n0_; have BK834 := n1_; have HB := n2_; clear n0_ n1_ n2_; (try clear hb); (try clear hb2); (try clear hk); (try clear hi)))
  go_ret
  exact ⟨rG_, hS_⟩
/-! ### laws_eqBlockS: function 82 -/
def laws_eqBlockS.l0 : Nat → List (S88) → List (S88) → Int → Option (Bool)
 | 0, _, _, _ => none
 | k + 1, x0, x1, x5 => if x5 < (x0.length : Int) then (if 0 ≤ x5 then (if x5 < (x1.length : Int) then ((laws_eqBlock.f k ((rd_T88 x0 x5).f0) ((rd_T88 x0 x5).f1) ((rd_T88 x0 x5).f2.f0) ((rd_T88 x0 x5).f2.f1) ((rd_T88 x0 x5).f2.f2) ((rd_T88 x0 x5).f2.f3) ((rd_T88 x1 x5).f0) ((rd_T88 x1 x5).f1) ((rd_T88 x1 x5).f2.f0) ((rd_T88 x1 x5).f2.f1) ((rd_T88 x1 x5).f2.f2) ((rd_T88 x1 x5).f2.f3)).bind fun t840 => (if t840 = true then (laws_eqBlockS.l0 k x0 x1 (wrap64 (x5 + 1))) else (some false))) else (none)) else (none)) else (some true)
def laws_eqBlockS.f (k : Nat) (l0 : List (S88)) (l1 : List (S88)) : Option (Bool) := if (l0.length : Int) = (l1.length : Int) then (laws_eqBlockS.l0 k l0 l1 0) else (some false)
theorem laws_eqBlockS.mono_l : ∀ k, (∀ y0 y1 y2, LeO (laws_eqBlockS.l0 k y0 y1 y2) (laws_eqBlockS.l0 (k + 1) y0 y1 y2))
 | 0 => fun _ _ _ r h => by simp [laws_eqBlockS.l0] at h
 | k + 1 => by
  have ih0 := laws_eqBlockS.mono_l k
  ·intro y0 y1 y2
   unfold laws_eqBlockS.l0
   repeat' first
   | (with_reducible exact ih0 _ _ _)
   | (with_reducible exact laws_eqBlock.mono _ _ _ _ _ _ _ _ _ _ _ _ _)
   | (with_reducible exact LeO.refl _)
   | (with_reducible exact LeO.none _)
   | (with_reducible refine LeO.ite ?_ ?_)
   | (with_reducible refine LeO.bind ?_ (fun _ => ?_))
   | exact ih0 _ _ _
   | exact laws_eqBlock.mono _ _ _ _ _ _ _ _ _ _ _ _ _
   | exact LeO.none _
   | refine LeO.ite ?_ ?_
   | refine LeO.bind ?_ (fun _ => ?_)
theorem laws_eqBlockS.mono : ∀ a0 a1 k, LeO (laws_eqBlockS.f k a0 a1) (laws_eqBlockS.f (k + 1) a0 a1) := by
 intro a0 a1 k
 have ih0 := laws_eqBlockS.mono_l k
 unfold laws_eqBlockS.f
 repeat' first
   | (with_reducible exact ih0 _ _ _)
   | (with_reducible exact laws_eqBlock.mono _ _ _ _ _ _ _ _ _ _ _ _ _)
   | (with_reducible exact LeO.refl _)
   | (with_reducible exact LeO.none _)
   | (with_reducible refine LeO.ite ?_ ?_)
   | (with_reducible refine LeO.bind ?_ (fun _ => ?_))
   | exact ih0 _ _ _
   | exact laws_eqBlock.mono _ _ _ _ _ _ _ _ _ _ _ _ _
   | exact LeO.none _
   | refine LeO.ite ?_ ?_
   | refine LeO.bind ?_ (fun _ => ?_)
def laws_eqBlockS.T6 : Bool × List (List Nat × List Nat) := (true, [([], []), ([], []), ([0, 1], [0, 1]), ([2], [2]), ([], []), ([], []), ([4, 5], [4, 5]), ([6], [6]), ([3, 7], [3, 7]), ([8], [8])])
def laws_eqBlockS.B6 : List Nat := [0, 0, 3, 7, 0, 0, 48, 112, 255, 511]
theorem laws_eqBlockS.tab6 : rtab .any (opsOf Try.f82 6) = laws_eqBlockS.T6 := by kernel_rfl
theorem laws_eqBlockS.bits6 : waitsOk laws_eqBlockS.T6.2 laws_eqBlockS.B6 = true := by kernel_rfl
set_option maxHeartbeats 8000000 in
set_option maxRecDepth 100000 in
theorem laws_eqBlockS.calls (k : Nat) (A0 : Option Addr) (c0 : Nat) (l0 : List (S88)) (A1 : Option Addr) (c1 : Nat) (l1 : List (S88)) (r : Bool) (w : World) (hr0 : Kd.C k88 w A0 l0.length l0) (hc0 : l0.length ≤ c0) (hr1 : Kd.C k88 w A1 l1.length l1) (hc1 : l1.length ≤ c1) (h : laws_eqBlockS.f k l0 l1 = some r) :
  Calls Try.prog 82 #[.slice A0 l0.length c0, .slice A1 l1.length c1] w fun e w' => e = .returned (.bool r) ∧ Below w.heap.size w w' := by
 have hu88 := Try.underlying88
 have HR0 := Aside0.mk hr0
 have HC0 := Aside0.mk hc0
 clear hr0 hc0
 have HR1 := Aside0.mk hr1
 have HC1 := Aside0.mk hc1
 clear hr1 hc1
 have HB := Aside0.mk (Below.refl w.heap.size w)
 have H : (if (l0.length : Int) = (l1.length : Int) then (laws_eqBlockS.l0 k l0 l1 0) else (some false)) = some r := h
 clear h
 by_cases c3 : (l0.length : Int) = (l1.length : Int)
 ·rw [if_pos c3] at H
  have c3b0 : ((l0.length : Int) == (l1.length : Int)) = true := beq_iff_eq.mpr c3
  have c3b1 : ((l0.length : Int) != (l1.length : Int)) = false := bne_eq_false_iff_eq.mpr c3
  have c3b2 : (l0.length == l1.length) = true := by first | simpa using c3 | (simp at c3 ⊢; omega)
  clear c3
  have H' := Aside0.mk H
  clear H
  go_enter Try.func82, Try.ntmps82
  go_wp2
  go_loopg [5] k (fun kq v5 w' => ∃ (x5_1 : Int), v5 = .int .i64 x5_1 ∧ Aside0 (laws_eqBlockS.l0 kq l0 l1 x5_1 = some r) ∧ Aside0 (kq ≤ k) ∧ Aside0 (Below w.heap.size w w'))
  case atStart => exact ⟨(0), rF_, H', ⟨Nat.le_refl _⟩, ⟨hB_⟩⟩
  case round =>
   clear H'
   try clear c1
   try clear p2
   try clear c3
   try clear c3b0
   try clear c3b1
   try clear c3b2
   obtain ⟨x5_1, rfl, HA, HK1, HB⟩ := hrel
   cases gk with
   | zero => exact absurd HA.out (by simp [laws_eqBlockS.l0])
   | succ k1 =>
    have H := HA.out
    clear HA
    simp only [laws_eqBlockS.l0] at H
    by_cases c4 : x5_1 < (l0.length : Int)
    ·rw [if_pos c4] at H
     have c4b0 : decide (x5_1 < (l0.length : Int)) = true := decide_eq_true c4
     clear c4
     by_cases c5 : 0 ≤ x5_1
     ·rw [if_pos c5] at H
      have c5b0 : decide (0 ≤ x5_1) = true := decide_eq_true c5
      clear c5
      by_cases c6 : x5_1 < (l1.length : Int)
      ·rw [if_pos c6] at H
       have c6b0 : decide (x5_1 < (l1.length : Int)) = true := decide_eq_true c6
       clear c6
       replace H := Option.bind_eq_some_iff.mp H
       obtain ⟨t840, A70, H⟩ := H
       replace H : (if t840 = true then (laws_eqBlockS.l0 k1 l0 l1 (wrap64 (x5_1 + 1))) else (some false)) = some r := H
       have A7 := Aside0.mk A70
       clear A70
       by_cases c8 : t840 = true
       ·subst c8
        have H1 := (if_pos rfl).symm.trans H
        clear H
        have H := H1
        clear H1
        have H' := Aside0.mk H
        clear H
        try go_wp2
        have n0_ := Aside0.mk (below_drew1 HB.out)
        clear HB
        have HB := n0_
        clear n0_
        have p838 : 0 ≤ (x5_1 : Int) := oD_
        have q838 : x5_1 < (l0.length : Int) := oD_
        obtain ⟨ad838, A838_0, c838_0, A838_1, c838_1, e838, hx838_0, hx838_1, hx838_2, hx838_3, hx838_4, hx838_5, hl838_0, hi838_0, hl838_1, hi838_1⟩ := at_T88 HR0.out x5_1 p838 q838
        have hw838_5 := hx838_5
        have hw838_4 := hx838_4
        have hw838_3 := hx838_3
        have hw838_2 := hx838_2
        have hw838_1 := hx838_1
        have hw838_0 := hx838_0
        cases e838
        replace hx838_0 := hx_ HB.out hx838_0
        replace hx838_1 := hx_ HB.out hx838_1
        replace hx838_2 := hx_ HB.out hx838_2
        replace hx838_3 := hx_ HB.out hx838_3
        replace hx838_4 := hx_ HB.out hx838_4
        replace hx838_5 := hx_ HB.out hx838_5
        have HR838_0 := Aside0.mk hi838_0
        have HC838_0 := Aside0.mk hl838_0
        clear hi838_0 hl838_0
        have HR838_1 := Aside0.mk hi838_1
        have HC838_1 := Aside0.mk hl838_1
        clear hi838_1 hl838_1
        replace p838 := eq_true p838
        replace q838 := eq_true q838
        have p839 : 0 ≤ (x5_1 : Int) := oD_
        have q839 : x5_1 < (l1.length : Int) := oD_
        obtain ⟨ad839, A839_0, c839_0, A839_1, c839_1, e839, hx839_0, hx839_1, hx839_2, hx839_3, hx839_4, hx839_5, hl839_0, hi839_0, hl839_1, hi839_1⟩ := at_T88 HR1.out x5_1 p839 q839
        have hw839_5 := hx839_5
        have hw839_4 := hx839_4
        have hw839_3 := hx839_3
        have hw839_2 := hx839_2
        have hw839_1 := hx839_1
        have hw839_0 := hx839_0
        cases e839
        replace hx839_0 := hx_ HB.out hx839_0
        replace hx839_1 := hx_ HB.out hx839_1
        replace hx839_2 := hx_ HB.out hx839_2
        replace hx839_3 := hx_ HB.out hx839_3
        replace hx839_4 := hx_ HB.out hx839_4
        replace hx839_5 := hx_ HB.out hx839_5
        have HR839_0 := Aside0.mk hi839_0
        have HC839_0 := Aside0.mk hl839_0
        clear hi839_0 hl839_0
        have HR839_1 := Aside0.mk hi839_1
        have HC839_1 := Aside0.mk hl839_1
        clear hi839_1 hl839_1
        replace p839 := eq_true p839
        replace q839 := eq_true q839
        refine start_ (n := 10) (S := fun w' => w'.cell? (ad838.add ((x5_1).toNat * 6)) = some (.slice A838_0 ((rd_T88 l0 x5_1).f0).length c838_0) ∧ w'.cell? ⟨(ad838.add ((x5_1).toNat * 6)).block, (ad838.add ((x5_1).toNat * 6)).off + 1, none⟩ = some (.slice A838_1 ((rd_T88 l0 x5_1).f1).length c838_1) ∧ w'.cell? ⟨(ad838.add ((x5_1).toNat * 6)).block, (ad838.add ((x5_1).toNat * 6)).off + 2, none⟩ = some (.int .i64 ((rd_T88 l0 x5_1).f2.f0)) ∧ w'.cell? ⟨(ad838.add ((x5_1).toNat * 6)).block, (ad838.add ((x5_1).toNat * 6)).off + 3, none⟩ = some (.int .i64 ((rd_T88 l0 x5_1).f2.f1)) ∧ w'.cell? ⟨(ad838.add ((x5_1).toNat * 6)).block, (ad838.add ((x5_1).toNat * 6)).off + 4, none⟩ = some (.int .i64 ((rd_T88 l0 x5_1).f2.f2)) ∧ w'.cell? ⟨(ad838.add ((x5_1).toNat * 6)).block, (ad838.add ((x5_1).toNat * 6)).off + 5, none⟩ = some (.int .i64 ((rd_T88 l0 x5_1).f2.f3)) ∧ w'.cell? (ad839.add ((x5_1).toNat * 6)) = some (.slice A839_0 ((rd_T88 l1 x5_1).f0).length c839_0) ∧ w'.cell? ⟨(ad839.add ((x5_1).toNat * 6)).block, (ad839.add ((x5_1).toNat * 6)).off + 1, none⟩ = some (.slice A839_1 ((rd_T88 l1 x5_1).f1).length c839_1) ∧ w'.cell? ⟨(ad839.add ((x5_1).toNat * 6)).block, (ad839.add ((x5_1).toNat * 6)).off + 2, none⟩ = some (.int .i64 ((rd_T88 l1 x5_1).f2.f0)) ∧ w'.cell? ⟨(ad839.add ((x5_1).toNat * 6)).block, (ad839.add ((x5_1).toNat * 6)).off + 3, none⟩ = some (.int .i64 ((rd_T88 l1 x5_1).f2.f1)) ∧ w'.cell? ⟨(ad839.add ((x5_1).toNat * 6)).block, (ad839.add ((x5_1).toNat * 6)).off + 4, none⟩ = some (.int .i64 ((rd_T88 l1 x5_1).f2.f2)) ∧ w'.cell? ⟨(ad839.add ((x5_1).toNat * 6)).block, (ad839.add ((x5_1).toNat * 6)).off + 5, none⟩ = some (.int .i64 ((rd_T88 l1 x5_1).f2.f3))) (ds := []) #[false, false, false, false, false, false, false, false, false, false] (by kernel_rfl) rfl rfl ⟨((HB.out.cell (World.block_lt_of_cell? w _ hw838_0)).trans hw838_0), ((HB.out.cell (World.block_lt_of_cell? w _ hw838_1)).trans hw838_1), ((HB.out.cell (World.block_lt_of_cell? w _ hw838_2)).trans hw838_2), ((HB.out.cell (World.block_lt_of_cell? w _ hw838_3)).trans hw838_3), ((HB.out.cell (World.block_lt_of_cell? w _ hw838_4)).trans hw838_4), ((HB.out.cell (World.block_lt_of_cell? w _ hw838_5)).trans hw838_5), ((HB.out.cell (World.block_lt_of_cell? w _ hw839_0)).trans hw839_0), ((HB.out.cell (World.block_lt_of_cell? w _ hw839_1)).trans hw839_1), ((HB.out.cell (World.block_lt_of_cell? w _ hw839_2)).trans hw839_2), ((HB.out.cell (World.block_lt_of_cell? w _ hw839_3)).trans hw839_3), ((HB.out.cell (World.block_lt_of_cell? w _ hw839_4)).trans hw839_4), ((HB.out.cell (World.block_lt_of_cell? w _ hw839_5)).trans hw839_5)⟩ (fun hHeld => ?_); refine with_tabW laws_eqBlockS.tab6 laws_eqBlockS.bits6 (fun HT_ HW_ => ?_)
        generalize wr.drew = w9 at HB HR838_0 HR838_1 HR839_0 HR839_1 hx838_0 hx838_1 hx838_2 hx838_3 hx838_4 hx838_5 hx839_0 hx839_1 hx839_2 hx839_3 hx839_4 hx839_5 hHeld ⊢
        refine pure_ (i := 0) (N := some 17) (v := ?_) (a' := ?_) #[true, false, false, false, false, false, false, false, false, false] rfl rfl (any_of HT_.out (by kernel_rfl)) (fun _ _ _ h => h) (Or.inl ⟨by rfl, ?_⟩) ?_ ?_
        rotate_left
        ·intro w'
         go_simp
         with_reducible rfl
        rotate_left
        ·simp only [Act.put, List.setIfInBounds_toArray, List.set_cons_zero, List.set_cons_succ, i64_w, i32_w]
         rfl
        refine pure_ (i := 1) (N := some 18) (v := ?_) (a' := ?_) #[true, true, false, false, false, false, false, false, false, false] rfl rfl (any_of HT_.out (by kernel_rfl)) (fun _ _ _ h => h) (Or.inl ⟨by rfl, ?_⟩) ?_ ?_
        rotate_left
        ·intro w'
         go_simp
         with_reducible rfl
        rotate_left
        ·simp only [Act.put, List.setIfInBounds_toArray, List.set_cons_zero, List.set_cons_succ, i64_w, i32_w]
         rfl
        refine pure_ (i := 2) (N := some 19) (v := ?_) (a' := ?_) #[true, true, true, false, false, false, false, false, false, false] rfl rfl (any_of HT_.out (by kernel_rfl)) (fun _ _ _ h => h) (Or.inl ⟨by rfl, ?_⟩) ?_ ?_
        rotate_left
        ·intro w'
         go_simp
         with_reducible rfl
        rotate_left
        ·simp only [Act.put, List.setIfInBounds_toArray, List.set_cons_zero, List.set_cons_succ, i64_w, i32_w]
         rfl
        refine pure_ (i := 4) (N := some 21) (v := ?_) (a' := ?_) #[true, true, true, false, true, false, false, false, false, false] rfl rfl (any_of HT_.out (by kernel_rfl)) (fun _ _ _ h => h) (Or.inl ⟨by rfl, ?_⟩) ?_ ?_
        rotate_left
        ·intro w'
         go_simp
         with_reducible rfl
        rotate_left
        ·simp only [Act.put, List.setIfInBounds_toArray, List.set_cons_zero, List.set_cons_succ, i64_w, i32_w]
         rfl
        refine pure_ (i := 5) (N := some 22) (v := ?_) (a' := ?_) #[true, true, true, false, true, true, false, false, false, false] rfl rfl (any_of HT_.out (by kernel_rfl)) (fun _ _ _ h => h) (Or.inl ⟨by rfl, ?_⟩) ?_ ?_
        rotate_left
        ·intro w'
         go_simp
         with_reducible rfl
        rotate_left
        ·simp only [Act.put, List.setIfInBounds_toArray, List.set_cons_zero, List.set_cons_succ, i64_w, i32_w]
         rfl
        refine pure_ (i := 6) (N := some 23) (v := ?_) (a' := ?_) #[true, true, true, false, true, true, true, false, false, false] rfl rfl (any_of HT_.out (by kernel_rfl)) (fun _ _ _ h => h) (Or.inl ⟨by rfl, ?_⟩) ?_ ?_
        rotate_left
        ·intro w'
         go_simp
         with_reducible rfl
        rotate_left
        ·simp only [Act.put, List.setIfInBounds_toArray, List.set_cons_zero, List.set_cons_succ, i64_w, i32_w]
         rfl
        refine take_ (i := 3) (N := some 20) (v := ?_) (a' := ?_) #[true, true, true, true, true, true, true, false, false, false] rfl rfl (take_ofW HT_.out HW_.out (by kernel_rfl)) (fun _ _ _ h => h) (Or.inl ⟨by rfl, ?_⟩) hHeld ?_ ?_
        rotate_left
        ·rintro w' ⟨s0, s1, s2, s3, s4, s5, s6, s7, s8, s9, s10, s11⟩
         go_simp
         with_reducible rfl
        rotate_left
        ·simp only [Act.put, List.setIfInBounds_toArray, List.set_cons_zero, List.set_cons_succ, i64_w, i32_w]
         rfl
        refine take_ (i := 7) (N := some 24) (v := ?_) (a' := ?_) #[true, true, true, true, true, true, true, true, false, false] rfl rfl (take_ofW HT_.out HW_.out (by kernel_rfl)) (fun _ _ _ h => h) (Or.inl ⟨by rfl, ?_⟩) hHeld ?_ ?_
        rotate_left
        ·rintro w' ⟨s0, s1, s2, s3, s4, s5, s6, s7, s8, s9, s10, s11⟩
         go_simp
         with_reducible rfl
        rotate_left
        ·simp only [Act.put, List.setIfInBounds_toArray, List.set_cons_zero, List.set_cons_succ, i64_w, i32_w]
         rfl
        refine one_ (i := 8) (N := some 25) #[true, true, true, true, true, true, true, true, true, false] rfl rfl (one_of HT_.out (by kernel_rfl)) (by decide) (fun K hK => ?_)
        refine goes_ Try.func116 (by kernel_rfl) rfl #[.agg #[.slice A838_0 ((rd_T88 l0 x5_1).f0).length c838_0, .slice A838_1 ((rd_T88 l0 x5_1).f1).length c838_1, .int .i64 ((rd_T88 l0 x5_1).f2.f0), .int .i64 ((rd_T88 l0 x5_1).f2.f1), .int .i64 ((rd_T88 l0 x5_1).f2.f2), .int .i64 ((rd_T88 l0 x5_1).f2.f3)], .agg #[.slice A839_0 ((rd_T88 l1 x5_1).f0).length c839_0, .slice A839_1 ((rd_T88 l1 x5_1).f1).length c839_1, .int .i64 ((rd_T88 l1 x5_1).f2.f0), .int .i64 ((rd_T88 l1 x5_1).f2.f1), .int .i64 ((rd_T88 l1 x5_1).f2.f2), .int .i64 ((rd_T88 l1 x5_1).f2.f3)]] (by rfl) rfl rfl (by (try simp only [List.map_toArray, List.map_cons, List.map_nil]); first | done | rfl | (simp only [List.length_drop, List.length_take]; rfl)) ?_
        with_reducible refine (laws_eqBlock.calls k1 _ _ ((rd_T88 l0 x5_1).f0) _ _ ((rd_T88 l0 x5_1).f1) ((rd_T88 l0 x5_1).f2.f0) ((rd_T88 l0 x5_1).f2.f1) ((rd_T88 l0 x5_1).f2.f2) ((rd_T88 l0 x5_1).f2.f3) _ _ ((rd_T88 l1 x5_1).f0) _ _ ((rd_T88 l1 x5_1).f1) ((rd_T88 l1 x5_1).f2.f0) ((rd_T88 l1 x5_1).f2.f1) ((rd_T88 l1 x5_1).f2.f2) ((rd_T88 l1 x5_1).f2.f3) true _ ?side1 ?side2 ?side3 ?side4 ?side5 ?side6 ?side7 ?side8 A7.out).mono ?_
        (case side1 => exact cHR838_0_)
        (case side2 => exact HC838_0.out)
        (case side3 => exact cHR838_1_)
        (case side4 => exact HC838_1.out)
        (case side5 => exact cHR839_0_)
        (case side6 => exact HC839_0.out)
        (case side7 => exact cHR839_1_)
        (case side8 => exact HC839_1.out)
        rintro e w10 ⟨rfl, hb⟩
        refine ⟨_, rfl, ?_⟩
        have n0_ := Aside0.mk (below_step hB_ hb)
        clear HB
        have HB := n0_
        clear n0_
        (try clear hb)
        (try clear hb2)
        (try clear hk)
        (try clear hi)
        refine hK.out _ _ ⟨((HB.out.cell (World.block_lt_of_cell? w _ hw838_0)).trans hw838_0), ((HB.out.cell (World.block_lt_of_cell? w _ hw838_1)).trans hw838_1), ((HB.out.cell (World.block_lt_of_cell? w _ hw838_2)).trans hw838_2), ((HB.out.cell (World.block_lt_of_cell? w _ hw838_3)).trans hw838_3), ((HB.out.cell (World.block_lt_of_cell? w _ hw838_4)).trans hw838_4), ((HB.out.cell (World.block_lt_of_cell? w _ hw838_5)).trans hw838_5), ((HB.out.cell (World.block_lt_of_cell? w _ hw839_0)).trans hw839_0), ((HB.out.cell (World.block_lt_of_cell? w _ hw839_1)).trans hw839_1), ((HB.out.cell (World.block_lt_of_cell? w _ hw839_2)).trans hw839_2), ((HB.out.cell (World.block_lt_of_cell? w _ hw839_3)).trans hw839_3), ((HB.out.cell (World.block_lt_of_cell? w _ hw839_4)).trans hw839_4), ((HB.out.cell (World.block_lt_of_cell? w _ hw839_5)).trans hw839_5)⟩ (fun hHeld => ?_)
        clear hK K
        refine norm_ (a' := ?_) ?_ ?_
        rotate_left
        ·show Act.put _ (some 25) _ = _
         simp only [Act.put, List.setIfInBounds_toArray, List.set_cons_zero, List.set_cons_succ, i64_w, i32_w]
         rfl
        refine pure_ (i := 9) (N := some 26) (v := ?_) (a' := ?_) #[true, true, true, true, true, true, true, true, true, true] rfl rfl (any_of HT_.out (by kernel_rfl)) (fun _ _ _ h => h) (Or.inl ⟨by rfl, ?_⟩) ?_ ?_
        rotate_left
        ·intro w'
         go_simp
         with_reducible rfl
        rotate_left
        ·simp only [Act.put, List.setIfInBounds_toArray, List.set_cons_zero, List.set_cons_succ, i64_w, i32_w]
         rfl
        refine done_ (done_of HT_.out (by kernel_rfl)) ?_
        try go_wp2
        go_roundg k1
        case measure => have := HK1.out; omega
        case rel => exact ⟨(wrap64 (x5_1 + 1)), rF_, H', ⟨by have := HK1.out; omega⟩, ⟨hB_⟩⟩
       ·replace c8 := Bool.eq_false_iff.mpr c8
        subst c8
        have H1 := (if_neg (show ¬ (false = true) by decide)).symm.trans H
        clear H
        have H := H1
        clear H1
        obtain rfl := Option.some.inj H
        try go_wp2
        have n0_ := Aside0.mk (below_drew1 HB.out)
        clear HB
        have HB := n0_
        clear n0_
        have p838 : 0 ≤ (x5_1 : Int) := oD_
        have q838 : x5_1 < (l0.length : Int) := oD_
        obtain ⟨ad838, A838_0, c838_0, A838_1, c838_1, e838, hx838_0, hx838_1, hx838_2, hx838_3, hx838_4, hx838_5, hl838_0, hi838_0, hl838_1, hi838_1⟩ := at_T88 HR0.out x5_1 p838 q838
        have hw838_5 := hx838_5
        have hw838_4 := hx838_4
        have hw838_3 := hx838_3
        have hw838_2 := hx838_2
        have hw838_1 := hx838_1
        have hw838_0 := hx838_0
        cases e838
        replace hx838_0 := hx_ HB.out hx838_0
        replace hx838_1 := hx_ HB.out hx838_1
        replace hx838_2 := hx_ HB.out hx838_2
        replace hx838_3 := hx_ HB.out hx838_3
        replace hx838_4 := hx_ HB.out hx838_4
        replace hx838_5 := hx_ HB.out hx838_5
        have HR838_0 := Aside0.mk hi838_0
        have HC838_0 := Aside0.mk hl838_0
        clear hi838_0 hl838_0
        have HR838_1 := Aside0.mk hi838_1
        have HC838_1 := Aside0.mk hl838_1
        clear hi838_1 hl838_1
        replace p838 := eq_true p838
        replace q838 := eq_true q838
        have p839 : 0 ≤ (x5_1 : Int) := oD_
        have q839 : x5_1 < (l1.length : Int) := oD_
        obtain ⟨ad839, A839_0, c839_0, A839_1, c839_1, e839, hx839_0, hx839_1, hx839_2, hx839_3, hx839_4, hx839_5, hl839_0, hi839_0, hl839_1, hi839_1⟩ := at_T88 HR1.out x5_1 p839 q839
        have hw839_5 := hx839_5
        have hw839_4 := hx839_4
        have hw839_3 := hx839_3
        have hw839_2 := hx839_2
        have hw839_1 := hx839_1
        have hw839_0 := hx839_0
        cases e839
        replace hx839_0 := hx_ HB.out hx839_0
        replace hx839_1 := hx_ HB.out hx839_1
        replace hx839_2 := hx_ HB.out hx839_2
        replace hx839_3 := hx_ HB.out hx839_3
        replace hx839_4 := hx_ HB.out hx839_4
        replace hx839_5 := hx_ HB.out hx839_5
        have HR839_0 := Aside0.mk hi839_0
        have HC839_0 := Aside0.mk hl839_0
        clear hi839_0 hl839_0
        have HR839_1 := Aside0.mk hi839_1
        have HC839_1 := Aside0.mk hl839_1
        clear hi839_1 hl839_1
        replace p839 := eq_true p839
        replace q839 := eq_true q839
        refine start_ (n := 10) (S := fun w' => w'.cell? (ad838.add ((x5_1).toNat * 6)) = some (.slice A838_0 ((rd_T88 l0 x5_1).f0).length c838_0) ∧ w'.cell? ⟨(ad838.add ((x5_1).toNat * 6)).block, (ad838.add ((x5_1).toNat * 6)).off + 1, none⟩ = some (.slice A838_1 ((rd_T88 l0 x5_1).f1).length c838_1) ∧ w'.cell? ⟨(ad838.add ((x5_1).toNat * 6)).block, (ad838.add ((x5_1).toNat * 6)).off + 2, none⟩ = some (.int .i64 ((rd_T88 l0 x5_1).f2.f0)) ∧ w'.cell? ⟨(ad838.add ((x5_1).toNat * 6)).block, (ad838.add ((x5_1).toNat * 6)).off + 3, none⟩ = some (.int .i64 ((rd_T88 l0 x5_1).f2.f1)) ∧ w'.cell? ⟨(ad838.add ((x5_1).toNat * 6)).block, (ad838.add ((x5_1).toNat * 6)).off + 4, none⟩ = some (.int .i64 ((rd_T88 l0 x5_1).f2.f2)) ∧ w'.cell? ⟨(ad838.add ((x5_1).toNat * 6)).block, (ad838.add ((x5_1).toNat * 6)).off + 5, none⟩ = some (.int .i64 ((rd_T88 l0 x5_1).f2.f3)) ∧ w'.cell? (ad839.add ((x5_1).toNat * 6)) = some (.slice A839_0 ((rd_T88 l1 x5_1).f0).length c839_0) ∧ w'.cell? ⟨(ad839.add ((x5_1).toNat * 6)).block, (ad839.add ((x5_1).toNat * 6)).off + 1, none⟩ = some (.slice A839_1 ((rd_T88 l1 x5_1).f1).length c839_1) ∧ w'.cell? ⟨(ad839.add ((x5_1).toNat * 6)).block, (ad839.add ((x5_1).toNat * 6)).off + 2, none⟩ = some (.int .i64 ((rd_T88 l1 x5_1).f2.f0)) ∧ w'.cell? ⟨(ad839.add ((x5_1).toNat * 6)).block, (ad839.add ((x5_1).toNat * 6)).off + 3, none⟩ = some (.int .i64 ((rd_T88 l1 x5_1).f2.f1)) ∧ w'.cell? ⟨(ad839.add ((x5_1).toNat * 6)).block, (ad839.add ((x5_1).toNat * 6)).off + 4, none⟩ = some (.int .i64 ((rd_T88 l1 x5_1).f2.f2)) ∧ w'.cell? ⟨(ad839.add ((x5_1).toNat * 6)).block, (ad839.add ((x5_1).toNat * 6)).off + 5, none⟩ = some (.int .i64 ((rd_T88 l1 x5_1).f2.f3))) (ds := []) #[false, false, false, false, false, false, false, false, false, false] (by kernel_rfl) rfl rfl ⟨((HB.out.cell (World.block_lt_of_cell? w _ hw838_0)).trans hw838_0), ((HB.out.cell (World.block_lt_of_cell? w _ hw838_1)).trans hw838_1), ((HB.out.cell (World.block_lt_of_cell? w _ hw838_2)).trans hw838_2), ((HB.out.cell (World.block_lt_of_cell? w _ hw838_3)).trans hw838_3), ((HB.out.cell (World.block_lt_of_cell? w _ hw838_4)).trans hw838_4), ((HB.out.cell (World.block_lt_of_cell? w _ hw838_5)).trans hw838_5), ((HB.out.cell (World.block_lt_of_cell? w _ hw839_0)).trans hw839_0), ((HB.out.cell (World.block_lt_of_cell? w _ hw839_1)).trans hw839_1), ((HB.out.cell (World.block_lt_of_cell? w _ hw839_2)).trans hw839_2), ((HB.out.cell (World.block_lt_of_cell? w _ hw839_3)).trans hw839_3), ((HB.out.cell (World.block_lt_of_cell? w _ hw839_4)).trans hw839_4), ((HB.out.cell (World.block_lt_of_cell? w _ hw839_5)).trans hw839_5)⟩ (fun hHeld => ?_); refine with_tabW laws_eqBlockS.tab6 laws_eqBlockS.bits6 (fun HT_ HW_ => ?_)
        generalize wr.drew = w11 at HB HR838_0 HR838_1 HR839_0 HR839_1 hx838_0 hx838_1 hx838_2 hx838_3 hx838_4 hx838_5 hx839_0 hx839_1 hx839_2 hx839_3 hx839_4 hx839_5 hHeld ⊢
        refine pure_ (i := 0) (N := some 17) (v := ?_) (a' := ?_) #[true, false, false, false, false, false, false, false, false, false] rfl rfl (any_of HT_.out (by kernel_rfl)) (fun _ _ _ h => h) (Or.inl ⟨by rfl, ?_⟩) ?_ ?_
        rotate_left
        ·intro w'
         go_simp
         with_reducible rfl
        rotate_left
        ·simp only [Act.put, List.setIfInBounds_toArray, List.set_cons_zero, List.set_cons_succ, i64_w, i32_w]
         rfl
        refine pure_ (i := 1) (N := some 18) (v := ?_) (a' := ?_) #[true, true, false, false, false, false, false, false, false, false] rfl rfl (any_of HT_.out (by kernel_rfl)) (fun _ _ _ h => h) (Or.inl ⟨by rfl, ?_⟩) ?_ ?_
        rotate_left
        ·intro w'
         go_simp
         with_reducible rfl
        rotate_left
        ·simp only [Act.put, List.setIfInBounds_toArray, List.set_cons_zero, List.set_cons_succ, i64_w, i32_w]
         rfl
        refine pure_ (i := 2) (N := some 19) (v := ?_) (a' := ?_) #[true, true, true, false, false, false, false, false, false, false] rfl rfl (any_of HT_.out (by kernel_rfl)) (fun _ _ _ h => h) (Or.inl ⟨by rfl, ?_⟩) ?_ ?_
        rotate_left
        ·intro w'
         go_simp
         with_reducible rfl
        rotate_left
        ·simp only [Act.put, List.setIfInBounds_toArray, List.set_cons_zero, List.set_cons_succ, i64_w, i32_w]
         rfl
        refine pure_ (i := 4) (N := some 21) (v := ?_) (a' := ?_) #[true, true, true, false, true, false, false, false, false, false] rfl rfl (any_of HT_.out (by kernel_rfl)) (fun _ _ _ h => h) (Or.inl ⟨by rfl, ?_⟩) ?_ ?_
        rotate_left
        ·intro w'
         go_simp
         with_reducible rfl
        rotate_left
        ·simp only [Act.put, List.setIfInBounds_toArray, List.set_cons_zero, List.set_cons_succ, i64_w, i32_w]
         rfl
        refine pure_ (i := 5) (N := some 22) (v := ?_) (a' := ?_) #[true, true, true, false, true, true, false, false, false, false] rfl rfl (any_of HT_.out (by kernel_rfl)) (fun _ _ _ h => h) (Or.inl ⟨by rfl, ?_⟩) ?_ ?_
        rotate_left
        ·intro w'
         go_simp
         with_reducible rfl
        rotate_left
        ·simp only [Act.put, List.setIfInBounds_toArray, List.set_cons_zero, List.set_cons_succ, i64_w, i32_w]
         rfl
        refine pure_ (i := 6) (N := some 23) (v := ?_) (a' := ?_) #[true, true, true, false, true, true, true, false, false, false] rfl rfl (any_of HT_.out (by kernel_rfl)) (fun _ _ _ h => h) (Or.inl ⟨by rfl, ?_⟩) ?_ ?_
        rotate_left
        ·intro w'
         go_simp
         with_reducible rfl
        rotate_left
        ·simp only [Act.put, List.setIfInBounds_toArray, List.set_cons_zero, List.set_cons_succ, i64_w, i32_w]
         rfl
        refine take_ (i := 3) (N := some 20) (v := ?_) (a' := ?_) #[true, true, true, true, true, true, true, false, false, false] rfl rfl (take_ofW HT_.out HW_.out (by kernel_rfl)) (fun _ _ _ h => h) (Or.inl ⟨by rfl, ?_⟩) hHeld ?_ ?_
        rotate_left
        ·rintro w' ⟨s0, s1, s2, s3, s4, s5, s6, s7, s8, s9, s10, s11⟩
         go_simp
         with_reducible rfl
        rotate_left
        ·simp only [Act.put, List.setIfInBounds_toArray, List.set_cons_zero, List.set_cons_succ, i64_w, i32_w]
         rfl
        refine take_ (i := 7) (N := some 24) (v := ?_) (a' := ?_) #[true, true, true, true, true, true, true, true, false, false] rfl rfl (take_ofW HT_.out HW_.out (by kernel_rfl)) (fun _ _ _ h => h) (Or.inl ⟨by rfl, ?_⟩) hHeld ?_ ?_
        rotate_left
        ·rintro w' ⟨s0, s1, s2, s3, s4, s5, s6, s7, s8, s9, s10, s11⟩
         go_simp
         with_reducible rfl
        rotate_left
        ·simp only [Act.put, List.setIfInBounds_toArray, List.set_cons_zero, List.set_cons_succ, i64_w, i32_w]
         rfl
        refine one_ (i := 8) (N := some 25) #[true, true, true, true, true, true, true, true, true, false] rfl rfl (one_of HT_.out (by kernel_rfl)) (by decide) (fun K hK => ?_)
        refine goes_ Try.func116 (by kernel_rfl) rfl #[.agg #[.slice A838_0 ((rd_T88 l0 x5_1).f0).length c838_0, .slice A838_1 ((rd_T88 l0 x5_1).f1).length c838_1, .int .i64 ((rd_T88 l0 x5_1).f2.f0), .int .i64 ((rd_T88 l0 x5_1).f2.f1), .int .i64 ((rd_T88 l0 x5_1).f2.f2), .int .i64 ((rd_T88 l0 x5_1).f2.f3)], .agg #[.slice A839_0 ((rd_T88 l1 x5_1).f0).length c839_0, .slice A839_1 ((rd_T88 l1 x5_1).f1).length c839_1, .int .i64 ((rd_T88 l1 x5_1).f2.f0), .int .i64 ((rd_T88 l1 x5_1).f2.f1), .int .i64 ((rd_T88 l1 x5_1).f2.f2), .int .i64 ((rd_T88 l1 x5_1).f2.f3)]] (by rfl) rfl rfl (by (try simp only [List.map_toArray, List.map_cons, List.map_nil]); first | done | rfl | (simp only [List.length_drop, List.length_take]; rfl)) ?_
        with_reducible refine (laws_eqBlock.calls k1 _ _ ((rd_T88 l0 x5_1).f0) _ _ ((rd_T88 l0 x5_1).f1) ((rd_T88 l0 x5_1).f2.f0) ((rd_T88 l0 x5_1).f2.f1) ((rd_T88 l0 x5_1).f2.f2) ((rd_T88 l0 x5_1).f2.f3) _ _ ((rd_T88 l1 x5_1).f0) _ _ ((rd_T88 l1 x5_1).f1) ((rd_T88 l1 x5_1).f2.f0) ((rd_T88 l1 x5_1).f2.f1) ((rd_T88 l1 x5_1).f2.f2) ((rd_T88 l1 x5_1).f2.f3) false _ ?side1 ?side2 ?side3 ?side4 ?side5 ?side6 ?side7 ?side8 A7.out).mono ?_
        (case side1 => exact cHR838_0_)
        (case side2 => exact HC838_0.out)
        (case side3 => exact cHR838_1_)
        (case side4 => exact HC838_1.out)
        (case side5 => exact cHR839_0_)
        (case side6 => exact HC839_0.out)
        (case side7 => exact cHR839_1_)
        (case side8 => exact HC839_1.out)
        rintro e w12 ⟨rfl, hb⟩
        refine ⟨_, rfl, ?_⟩
        have n0_ := Aside0.mk (below_step hB_ hb)
        clear HB
        have HB := n0_
        clear n0_
        (try clear hb)
        (try clear hb2)
        (try clear hk)
        (try clear hi)
        refine hK.out _ _ ⟨((HB.out.cell (World.block_lt_of_cell? w _ hw838_0)).trans hw838_0), ((HB.out.cell (World.block_lt_of_cell? w _ hw838_1)).trans hw838_1), ((HB.out.cell (World.block_lt_of_cell? w _ hw838_2)).trans hw838_2), ((HB.out.cell (World.block_lt_of_cell? w _ hw838_3)).trans hw838_3), ((HB.out.cell (World.block_lt_of_cell? w _ hw838_4)).trans hw838_4), ((HB.out.cell (World.block_lt_of_cell? w _ hw838_5)).trans hw838_5), ((HB.out.cell (World.block_lt_of_cell? w _ hw839_0)).trans hw839_0), ((HB.out.cell (World.block_lt_of_cell? w _ hw839_1)).trans hw839_1), ((HB.out.cell (World.block_lt_of_cell? w _ hw839_2)).trans hw839_2), ((HB.out.cell (World.block_lt_of_cell? w _ hw839_3)).trans hw839_3), ((HB.out.cell (World.block_lt_of_cell? w _ hw839_4)).trans hw839_4), ((HB.out.cell (World.block_lt_of_cell? w _ hw839_5)).trans hw839_5)⟩ (fun hHeld => ?_)
        clear hK K
        refine norm_ (a' := ?_) ?_ ?_
        rotate_left
        ·show Act.put _ (some 25) _ = _
         simp only [Act.put, List.setIfInBounds_toArray, List.set_cons_zero, List.set_cons_succ, i64_w, i32_w]
         rfl
        refine pure_ (i := 9) (N := some 26) (v := ?_) (a' := ?_) #[true, true, true, true, true, true, true, true, true, true] rfl rfl (any_of HT_.out (by kernel_rfl)) (fun _ _ _ h => h) (Or.inl ⟨by rfl, ?_⟩) ?_ ?_
        rotate_left
        ·intro w'
         go_simp
         with_reducible rfl
        rotate_left
        ·simp only [Act.put, List.setIfInBounds_toArray, List.set_cons_zero, List.set_cons_succ, i64_w, i32_w]
         rfl
        refine done_ (done_of HT_.out (by kernel_rfl)) ?_
        try go_wp2
        go_ret
        exact ⟨rG_, hB_⟩
      ·rw [if_neg c6] at H
       exact absurd H (by simp)
     ·rw [if_neg c5] at H
      exact absurd H (by simp)
    ·rw [if_neg c4] at H
     have c4b0 : decide (x5_1 < (l0.length : Int)) = false := decide_eq_false c4
     clear c4
     obtain rfl := Option.some.inj H
     go_wp2
     go_ret
     exact ⟨rG_, hB_⟩
 ·rw [if_neg c3] at H
  have c3b0 : ((l0.length : Int) == (l1.length : Int)) = false := beq_eq_false_iff_ne.mpr c3
  have c3b1 : ((l0.length : Int) != (l1.length : Int)) = true := bne_iff_ne.mpr c3
  have c3b2 : (l0.length == l1.length) = false := by first | simpa using c3 | (simp at c3 ⊢; omega)
  obtain rfl := Option.some.inj H
  go_enter Try.func82, Try.ntmps82
  go_wp2
  go_ret
  exact ⟨rG_, hB_⟩
/-! ### laws_eqFunc: function 44 -/
def laws_eqFunc.f (k : Nat) (l0_0 : List Int) (a0_1 : Int) (l0_2 : List (S88)) (l1_0 : List Int) (a1_1 : Int) (l1_2 : List (S88)) : Option (Bool) := (laws_eqInt64S.f k l0_0 l1_0).bind fun t843 => (if t843 = true then (if a0_1 = a1_1 then ((laws_eqBlockS.f k l0_2 l1_2).bind fun t844 => (if t844 = true then (some true) else (some false))) else (some false)) else (some false))
theorem laws_eqFunc.mono : ∀ a0 a1 a2 a3 a4 a5 k, LeO (laws_eqFunc.f k a0 a1 a2 a3 a4 a5) (laws_eqFunc.f (k + 1) a0 a1 a2 a3 a4 a5) := by
 intro a0 a1 a2 a3 a4 a5 k
 unfold laws_eqFunc.f
 repeat' first
   | (with_reducible exact laws_eqBlockS.mono _ _ _)
   | (with_reducible exact laws_eqInt64S.mono _ _ _)
   | (with_reducible exact LeO.refl _)
   | (with_reducible exact LeO.none _)
   | (with_reducible refine LeO.ite ?_ ?_)
   | (with_reducible refine LeO.bind ?_ (fun _ => ?_))
   | exact laws_eqBlockS.mono _ _ _
   | exact laws_eqInt64S.mono _ _ _
   | exact LeO.none _
   | refine LeO.ite ?_ ?_
   | refine LeO.bind ?_ (fun _ => ?_)
set_option maxHeartbeats 8000000 in
set_option maxRecDepth 100000 in
theorem laws_eqFunc.calls (k : Nat) (A0_0 : Option Addr) (c0_0 : Nat) (l0_0 : List Int) (a0_1 : Int) (A0_2 : Option Addr) (c0_2 : Nat) (l0_2 : List (S88)) (A1_0 : Option Addr) (c1_0 : Nat) (l1_0 : List Int) (a1_1 : Int) (A1_2 : Option Addr) (c1_2 : Nat) (l1_2 : List (S88)) (r : Bool) (w : World) (hr0_0 : Kd.C (Kd.int .i64) w A0_0 l0_0.length l0_0) (hc0_0 : l0_0.length ≤ c0_0) (hr0_2 : Kd.C k88 w A0_2 l0_2.length l0_2) (hc0_2 : l0_2.length ≤ c0_2) (hr1_0 : Kd.C (Kd.int .i64) w A1_0 l1_0.length l1_0) (hc1_0 : l1_0.length ≤ c1_0) (hr1_2 : Kd.C k88 w A1_2 l1_2.length l1_2) (hc1_2 : l1_2.length ≤ c1_2) (h : laws_eqFunc.f k l0_0 a0_1 l0_2 l1_0 a1_1 l1_2 = some r) :
  Calls Try.prog 44 #[.agg #[.slice A0_0 l0_0.length c0_0, .int .i64 a0_1, .slice A0_2 l0_2.length c0_2], .agg #[.slice A1_0 l1_0.length c1_0, .int .i64 a1_1, .slice A1_2 l1_2.length c1_2]] w fun e w' => e = .returned (.bool r) ∧ Below w.heap.size w w' := by
 have hu41 := Try.underlying41
 have HR0_0 := Aside0.mk hr0_0
 have HC0_0 := Aside0.mk hc0_0
 clear hr0_0 hc0_0
 have HR0_2 := Aside0.mk hr0_2
 have HC0_2 := Aside0.mk hc0_2
 clear hr0_2 hc0_2
 have HR1_0 := Aside0.mk hr1_0
 have HC1_0 := Aside0.mk hc1_0
 clear hr1_0 hc1_0
 have HR1_2 := Aside0.mk hr1_2
 have HC1_2 := Aside0.mk hc1_2
 clear hr1_2 hc1_2
 have HB := Aside0.mk (Below.refl w.heap.size w)
 have H : ((laws_eqInt64S.f k l0_0 l1_0).bind fun t843 => (if t843 = true then (if a0_1 = a1_1 then ((laws_eqBlockS.f k l0_2 l1_2).bind fun t844 => (if t844 = true then (some true) else (some false))) else (some false)) else (some false))) = some r := h
 clear h
 replace H := Option.bind_eq_some_iff.mp H
 obtain ⟨t843, A30, H⟩ := H
 replace H : (if t843 = true then (if a0_1 = a1_1 then ((laws_eqBlockS.f k l0_2 l1_2).bind fun t844 => (if t844 = true then (some true) else (some false))) else (some false)) else (some false)) = some r := H
 have A3 := Aside0.mk A30
 clear A30
 by_cases c4 : t843 = true
 ·subst c4
  have H1 := (if_pos rfl).symm.trans H
  clear H
  have H := H1
  clear H1
  by_cases c5 : a0_1 = a1_1
  ·rw [if_pos c5] at H
   have c5b0 : (a0_1 == a1_1) = true := beq_iff_eq.mpr c5
   have c5b1 : (a0_1 != a1_1) = false := bne_eq_false_iff_eq.mpr c5
   clear c5
   replace H := Option.bind_eq_some_iff.mp H
   obtain ⟨t844, A60, H⟩ := H
   replace H : (if t844 = true then (some true) else (some false)) = some r := H
   have A6 := Aside0.mk A60
   clear A60
   by_cases c7 : t844 = true
   ·subst c7
    have H1 := (if_pos rfl).symm.trans H
    clear H
    have H := H1
    clear H1
    obtain rfl := Option.some.inj H
    go_enter Try.func44, Try.ntmps44
    go_wp2_with (first | ((with_reducible refine gate_dst (N := 2) rfl ?_); refine box_event ?hg (N := 2) ?hd (cs := #[.slice A0_0 l0_0.length c0_0, .int .i64 a0_1, .slice A0_2 l0_2.length c0_2]) (t := 41) ?hr ?_; (case hd => rfl); (case hg => rfl); (case hr => first | (go_simp; done) | (go_simp; rfl)); intro gb841 hg w8 hbox hb; have n0_ := Aside0.mk (below_step hB_ hb); have n1_ := Aside0.mk (hbox); have n2_ := Aside0.mk ((sz_ hg (below_size hB_) : w.heap.size ≤ gb841)); have n3_ := Aside0.mk ((sz_ hg (below_size hB_) : w.heap.size ≤ gb841)); clear HB; have HB := n0_; have BK841 := n1_; have GW841 := n2_; have GE841 := n3_; clear n0_ n1_ n2_ n3_; clear hb hbox hg) | ((with_reducible refine gate_dst (N := 3) rfl ?_); refine box_event ?hg (N := 3) ?hd (cs := #[.slice A1_0 l1_0.length c1_0, .int .i64 a1_1, .slice A1_2 l1_2.length c1_2]) (t := 41) ?hr ?_; (case hd => rfl); (case hg => rfl); (case hr => first | (go_simp; done) | (go_simp; rfl)); intro gb842 hg w9 hbox hb; have n0_ := Aside0.mk (blk_below (g := gb841) (o := .cells #[.slice A0_0 l0_0.length c0_0, .int .i64 a0_1, .slice A0_2 l0_2.length c0_2] 41 (0, 0)) bK841_ hb); have n1_ := Aside0.mk (below_step hS_ hb); have n2_ := Aside0.mk (hbox); have n3_ := Aside0.mk ((sz_ hg (below_size hS_) : w.heap.size ≤ gb842)); have n4_ := Aside0.mk ((sz_ hg (below_size hS_) : w.heap.size ≤ gb842)); have n5_ := Aside0.mk ((by rw [hg]; exact Nat.ne_of_lt (blk_lt (g := gb841) (o := .cells #[.slice A0_0 l0_0.length c0_0, .int .i64 a0_1, .slice A0_2 l0_2.length c0_2] 41 (0, 0)) bK841_) : gb841 ≠ gb842)); have n6_ := Aside0.mk ((by rw [hg]; exact Nat.ne_of_gt (blk_lt (g := gb841) (o := .cells #[.slice A0_0 l0_0.length c0_0, .int .i64 a0_1, .slice A0_2 l0_2.length c0_2] 41 (0, 0)) bK841_) : gb842 ≠ gb841)); clear BK841; clear HB; have BK841 := n0_; have HB := n1_; have BK842 := n2_; have GW842 := n3_; have GE842 := n4_; have NB841_842 := n5_; have NB842_841 := n6_; clear n0_ n1_ n2_ n3_ n4_ n5_ n6_; clear hb hbox hg; have hnb10 := NB841_842.out; have hnc10 := NB842_841.out; obtain ⟨hcz11_0, hcz11_1, hcz11_2, hfz11_0, hfz11_1, hfz11_2⟩ := blkc3_ BK841.out; obtain ⟨hcz12_0, hcz12_1, hcz12_2, hfz12_0, hfz12_1, hfz12_2⟩ := blkc3_ BK842.out) | ((with_reducible refine gate_callee (f := 18) rfl ?_); refine gL_ (some 9) Try.func18 #[.slice A0_0 l0_0.length c0_0, .slice A1_0 l1_0.length c1_0] ?_; (with_reducible refine (laws_eqInt64S.calls k _ _ l0_0 _ _ l1_0 true _ ?side1 ?side2 ?side3 ?side4 A3.out).mono ?_); (case side1 => exact cHR0_0_); (case side2 => exact HC0_0.out); (case side3 => exact cHR1_0_); (case side4 => exact HC1_0.out); rintro e w' ⟨rfl, ⟨nd, rfl⟩⟩; refine ⟨_, rfl, ?_⟩) | ((with_reducible refine gate_callee (f := 82) rfl ?_); refine gL_ (some 20) Try.func82 #[.slice A0_2 l0_2.length c0_2, .slice A1_2 l1_2.length c1_2] ?_; (with_reducible refine (laws_eqBlockS.calls k _ _ l0_2 _ _ l1_2 true _ ?side1 ?side2 ?side3 ?side4 A6.out).mono ?_); (case side1 => repeat (first | exact (Kd.C_below HR0_2.out hS_) | (with_reducible refine Kd.C_alloc ?_ _) | (with_reducible refine Kd.C_drewN ?_ _) | (with_reducible refine Kd.C_drew ?_))); (case side2 => exact HC0_2.out); (case side3 => repeat (first | exact (Kd.C_below HR1_2.out hS_) | (with_reducible refine Kd.C_alloc ?_ _) | (with_reducible refine Kd.C_drewN ?_ _) | (with_reducible refine Kd.C_drew ?_))); (case side4 => exact HC1_2.out); rintro e w13 ⟨rfl, hb⟩; refine ⟨_, rfl, ?_⟩; have n0_ := Aside0.mk (blk_below (g := gb841) (o := .cells #[.slice A0_0 l0_0.length c0_0, .int .i64 a0_1, .slice A0_2 l0_2.length c0_2] 41 (0, 0)) bK841_ hb); have n1_ := Aside0.mk (blk_below (g := gb842) (o := .cells #[.slice A1_0 l1_0.length c1_0, .int .i64 a1_1, .slice A1_2 l1_2.length c1_2] 41 (0, 0)) bK842_ hb); have n2_ := Aside0.mk (below_step hS_ hb); clear BK841; clear BK842; clear HB; have BK841 := n0_; have BK842 := n1_; have HB := n2_; clear n0_ n1_ n2_; (try clear hb); (try clear hb2); (try clear hk); (try clear hi)))
    go_ret
    exact ⟨rG_, hS_⟩
   ·replace c7 := Bool.eq_false_iff.mpr c7
    subst c7
    have H1 := (if_neg (show ¬ (false = true) by decide)).symm.trans H
    clear H
    have H := H1
    clear H1
    obtain rfl := Option.some.inj H
    go_enter Try.func44, Try.ntmps44
    go_wp2_with (first | ((with_reducible refine gate_dst (N := 2) rfl ?_); refine box_event ?hg (N := 2) ?hd (cs := #[.slice A0_0 l0_0.length c0_0, .int .i64 a0_1, .slice A0_2 l0_2.length c0_2]) (t := 41) ?hr ?_; (case hd => rfl); (case hg => rfl); (case hr => first | (go_simp; done) | (go_simp; rfl)); intro gb841 hg w14 hbox hb; have n0_ := Aside0.mk (below_step hB_ hb); have n1_ := Aside0.mk (hbox); have n2_ := Aside0.mk ((sz_ hg (below_size hB_) : w.heap.size ≤ gb841)); have n3_ := Aside0.mk ((sz_ hg (below_size hB_) : w.heap.size ≤ gb841)); clear HB; have HB := n0_; have BK841 := n1_; have GW841 := n2_; have GE841 := n3_; clear n0_ n1_ n2_ n3_; clear hb hbox hg) | ((with_reducible refine gate_dst (N := 3) rfl ?_); refine box_event ?hg (N := 3) ?hd (cs := #[.slice A1_0 l1_0.length c1_0, .int .i64 a1_1, .slice A1_2 l1_2.length c1_2]) (t := 41) ?hr ?_; (case hd => rfl); (case hg => rfl); (case hr => first | (go_simp; done) | (go_simp; rfl)); intro gb842 hg w15 hbox hb; have n0_ := Aside0.mk (blk_below (g := gb841) (o := .cells #[.slice A0_0 l0_0.length c0_0, .int .i64 a0_1, .slice A0_2 l0_2.length c0_2] 41 (0, 0)) bK841_ hb); have n1_ := Aside0.mk (below_step hS_ hb); have n2_ := Aside0.mk (hbox); have n3_ := Aside0.mk ((sz_ hg (below_size hS_) : w.heap.size ≤ gb842)); have n4_ := Aside0.mk ((sz_ hg (below_size hS_) : w.heap.size ≤ gb842)); have n5_ := Aside0.mk ((by rw [hg]; exact Nat.ne_of_lt (blk_lt (g := gb841) (o := .cells #[.slice A0_0 l0_0.length c0_0, .int .i64 a0_1, .slice A0_2 l0_2.length c0_2] 41 (0, 0)) bK841_) : gb841 ≠ gb842)); have n6_ := Aside0.mk ((by rw [hg]; exact Nat.ne_of_gt (blk_lt (g := gb841) (o := .cells #[.slice A0_0 l0_0.length c0_0, .int .i64 a0_1, .slice A0_2 l0_2.length c0_2] 41 (0, 0)) bK841_) : gb842 ≠ gb841)); clear BK841; clear HB; have BK841 := n0_; have HB := n1_; have BK842 := n2_; have GW842 := n3_; have GE842 := n4_; have NB841_842 := n5_; have NB842_841 := n6_; clear n0_ n1_ n2_ n3_ n4_ n5_ n6_; clear hb hbox hg; have hnb16 := NB841_842.out; have hnc16 := NB842_841.out; obtain ⟨hcz17_0, hcz17_1, hcz17_2, hfz17_0, hfz17_1, hfz17_2⟩ := blkc3_ BK841.out; obtain ⟨hcz18_0, hcz18_1, hcz18_2, hfz18_0, hfz18_1, hfz18_2⟩ := blkc3_ BK842.out) | ((with_reducible refine gate_callee (f := 18) rfl ?_); refine gL_ (some 9) Try.func18 #[.slice A0_0 l0_0.length c0_0, .slice A1_0 l1_0.length c1_0] ?_; (with_reducible refine (laws_eqInt64S.calls k _ _ l0_0 _ _ l1_0 true _ ?side1 ?side2 ?side3 ?side4 A3.out).mono ?_); (case side1 => exact cHR0_0_); (case side2 => exact HC0_0.out); (case side3 => exact cHR1_0_); (case side4 => exact HC1_0.out); rintro e w' ⟨rfl, ⟨nd, rfl⟩⟩; refine ⟨_, rfl, ?_⟩) | ((with_reducible refine gate_callee (f := 82) rfl ?_); refine gL_ (some 20) Try.func82 #[.slice A0_2 l0_2.length c0_2, .slice A1_2 l1_2.length c1_2] ?_; (with_reducible refine (laws_eqBlockS.calls k _ _ l0_2 _ _ l1_2 false _ ?side1 ?side2 ?side3 ?side4 A6.out).mono ?_); (case side1 => repeat (first | exact (Kd.C_below HR0_2.out hS_) | (with_reducible refine Kd.C_alloc ?_ _) | (with_reducible refine Kd.C_drewN ?_ _) | (with_reducible refine Kd.C_drew ?_))); (case side2 => exact HC0_2.out); (case side3 => repeat (first | exact (Kd.C_below HR1_2.out hS_) | (with_reducible refine Kd.C_alloc ?_ _) | (with_reducible refine Kd.C_drewN ?_ _) | (with_reducible refine Kd.C_drew ?_))); (case side4 => exact HC1_2.out); rintro e w19 ⟨rfl, hb⟩; refine ⟨_, rfl, ?_⟩; have n0_ := Aside0.mk (blk_below (g := gb841) (o := .cells #[.slice A0_0 l0_0.length c0_0, .int .i64 a0_1, .slice A0_2 l0_2.length c0_2] 41 (0, 0)) bK841_ hb); have n1_ := Aside0.mk (blk_below (g := gb842) (o := .cells #[.slice A1_0 l1_0.length c1_0, .int .i64 a1_1, .slice A1_2 l1_2.length c1_2] 41 (0, 0)) bK842_ hb); have n2_ := Aside0.mk (below_step hS_ hb); clear BK841; clear BK842; clear HB; have BK841 := n0_; have BK842 := n1_; have HB := n2_; clear n0_ n1_ n2_; (try clear hb); (try clear hb2); (try clear hk); (try clear hi)))
    go_ret
    exact ⟨rG_, hS_⟩
  ·rw [if_neg c5] at H
   have c5b0 : (a0_1 == a1_1) = false := beq_eq_false_iff_ne.mpr c5
   have c5b1 : (a0_1 != a1_1) = true := bne_iff_ne.mpr c5
   obtain rfl := Option.some.inj H
   go_enter Try.func44, Try.ntmps44
   go_wp2_with (first | ((with_reducible refine gate_dst (N := 2) rfl ?_); refine box_event ?hg (N := 2) ?hd (cs := #[.slice A0_0 l0_0.length c0_0, .int .i64 a0_1, .slice A0_2 l0_2.length c0_2]) (t := 41) ?hr ?_; (case hd => rfl); (case hg => rfl); (case hr => first | (go_simp; done) | (go_simp; rfl)); intro gb841 hg w20 hbox hb; have n0_ := Aside0.mk (below_step hB_ hb); have n1_ := Aside0.mk (hbox); have n2_ := Aside0.mk ((sz_ hg (below_size hB_) : w.heap.size ≤ gb841)); have n3_ := Aside0.mk ((sz_ hg (below_size hB_) : w.heap.size ≤ gb841)); clear HB; have HB := n0_; have BK841 := n1_; have GW841 := n2_; have GE841 := n3_; clear n0_ n1_ n2_ n3_; clear hb hbox hg) | ((with_reducible refine gate_dst (N := 3) rfl ?_); refine box_event ?hg (N := 3) ?hd (cs := #[.slice A1_0 l1_0.length c1_0, .int .i64 a1_1, .slice A1_2 l1_2.length c1_2]) (t := 41) ?hr ?_; (case hd => rfl); (case hg => rfl); (case hr => first | (go_simp; done) | (go_simp; rfl)); intro gb842 hg w21 hbox hb; have n0_ := Aside0.mk (blk_below (g := gb841) (o := .cells #[.slice A0_0 l0_0.length c0_0, .int .i64 a0_1, .slice A0_2 l0_2.length c0_2] 41 (0, 0)) bK841_ hb); have n1_ := Aside0.mk (below_step hS_ hb); have n2_ := Aside0.mk (hbox); have n3_ := Aside0.mk ((sz_ hg (below_size hS_) : w.heap.size ≤ gb842)); have n4_ := Aside0.mk ((sz_ hg (below_size hS_) : w.heap.size ≤ gb842)); have n5_ := Aside0.mk ((by rw [hg]; exact Nat.ne_of_lt (blk_lt (g := gb841) (o := .cells #[.slice A0_0 l0_0.length c0_0, .int .i64 a0_1, .slice A0_2 l0_2.length c0_2] 41 (0, 0)) bK841_) : gb841 ≠ gb842)); have n6_ := Aside0.mk ((by rw [hg]; exact Nat.ne_of_gt (blk_lt (g := gb841) (o := .cells #[.slice A0_0 l0_0.length c0_0, .int .i64 a0_1, .slice A0_2 l0_2.length c0_2] 41 (0, 0)) bK841_) : gb842 ≠ gb841)); clear BK841; clear HB; have BK841 := n0_; have HB := n1_; have BK842 := n2_; have GW842 := n3_; have GE842 := n4_; have NB841_842 := n5_; have NB842_841 := n6_; clear n0_ n1_ n2_ n3_ n4_ n5_ n6_; clear hb hbox hg; have hnb22 := NB841_842.out; have hnc22 := NB842_841.out; obtain ⟨hcz23_0, hcz23_1, hcz23_2, hfz23_0, hfz23_1, hfz23_2⟩ := blkc3_ BK841.out; obtain ⟨hcz24_0, hcz24_1, hcz24_2, hfz24_0, hfz24_1, hfz24_2⟩ := blkc3_ BK842.out) | ((with_reducible refine gate_callee (f := 18) rfl ?_); refine gL_ (some 9) Try.func18 #[.slice A0_0 l0_0.length c0_0, .slice A1_0 l1_0.length c1_0] ?_; (with_reducible refine (laws_eqInt64S.calls k _ _ l0_0 _ _ l1_0 true _ ?side1 ?side2 ?side3 ?side4 A3.out).mono ?_); (case side1 => exact cHR0_0_); (case side2 => exact HC0_0.out); (case side3 => exact cHR1_0_); (case side4 => exact HC1_0.out); rintro e w' ⟨rfl, ⟨nd, rfl⟩⟩; refine ⟨_, rfl, ?_⟩))
   go_ret
   exact ⟨rG_, hS_⟩
 ·replace c4 := Bool.eq_false_iff.mpr c4
  subst c4
  have H1 := (if_neg (show ¬ (false = true) by decide)).symm.trans H
  clear H
  have H := H1
  clear H1
  obtain rfl := Option.some.inj H
  go_enter Try.func44, Try.ntmps44
  go_wp2_with (first | ((with_reducible refine gate_dst (N := 2) rfl ?_); refine box_event ?hg (N := 2) ?hd (cs := #[.slice A0_0 l0_0.length c0_0, .int .i64 a0_1, .slice A0_2 l0_2.length c0_2]) (t := 41) ?hr ?_; (case hd => rfl); (case hg => rfl); (case hr => first | (go_simp; done) | (go_simp; rfl)); intro gb841 hg w25 hbox hb; have n0_ := Aside0.mk (below_step hB_ hb); have n1_ := Aside0.mk (hbox); have n2_ := Aside0.mk ((sz_ hg (below_size hB_) : w.heap.size ≤ gb841)); have n3_ := Aside0.mk ((sz_ hg (below_size hB_) : w.heap.size ≤ gb841)); clear HB; have HB := n0_; have BK841 := n1_; have GW841 := n2_; have GE841 := n3_; clear n0_ n1_ n2_ n3_; clear hb hbox hg) | ((with_reducible refine gate_dst (N := 3) rfl ?_); refine box_event ?hg (N := 3) ?hd (cs := #[.slice A1_0 l1_0.length c1_0, .int .i64 a1_1, .slice A1_2 l1_2.length c1_2]) (t := 41) ?hr ?_; (case hd => rfl); (case hg => rfl); (case hr => first | (go_simp; done) | (go_simp; rfl)); intro gb842 hg w26 hbox hb; have n0_ := Aside0.mk (blk_below (g := gb841) (o := .cells #[.slice A0_0 l0_0.length c0_0, .int .i64 a0_1, .slice A0_2 l0_2.length c0_2] 41 (0, 0)) bK841_ hb); have n1_ := Aside0.mk (below_step hS_ hb); have n2_ := Aside0.mk (hbox); have n3_ := Aside0.mk ((sz_ hg (below_size hS_) : w.heap.size ≤ gb842)); have n4_ := Aside0.mk ((sz_ hg (below_size hS_) : w.heap.size ≤ gb842)); have n5_ := Aside0.mk ((by rw [hg]; exact Nat.ne_of_lt (blk_lt (g := gb841) (o := .cells #[.slice A0_0 l0_0.length c0_0, .int .i64 a0_1, .slice A0_2 l0_2.length c0_2] 41 (0, 0)) bK841_) : gb841 ≠ gb842)); have n6_ := Aside0.mk ((by rw [hg]; exact Nat.ne_of_gt (blk_lt (g := gb841) (o := .cells #[.slice A0_0 l0_0.length c0_0, .int .i64 a0_1, .slice A0_2 l0_2.length c0_2] 41 (0, 0)) bK841_) : gb842 ≠ gb841)); clear BK841; clear HB; have BK841 := n0_; have HB := n1_; have BK842 := n2_; have GW842 := n3_; have GE842 := n4_; have NB841_842 := n5_; have NB842_841 := n6_; clear n0_ n1_ n2_ n3_ n4_ n5_ n6_; clear hb hbox hg; have hnb27 := NB841_842.out; have hnc27 := NB842_841.out; obtain ⟨hcz28_0, hcz28_1, hcz28_2, hfz28_0, hfz28_1, hfz28_2⟩ := blkc3_ BK841.out; obtain ⟨hcz29_0, hcz29_1, hcz29_2, hfz29_0, hfz29_1, hfz29_2⟩ := blkc3_ BK842.out) | ((with_reducible refine gate_callee (f := 18) rfl ?_); refine gL_ (some 9) Try.func18 #[.slice A0_0 l0_0.length c0_0, .slice A1_0 l1_0.length c1_0] ?_; (with_reducible refine (laws_eqInt64S.calls k _ _ l0_0 _ _ l1_0 false _ ?side1 ?side2 ?side3 ?side4 A3.out).mono ?_); (case side1 => exact cHR0_0_); (case side2 => exact HC0_0.out); (case side3 => exact cHR1_0_); (case side4 => exact HC1_0.out); rintro e w' ⟨rfl, ⟨nd, rfl⟩⟩; refine ⟨_, rfl, ?_⟩))
  go_ret
  exact ⟨rG_, hS_⟩
/-! ### spec_l2Place: function 83 -/
def spec_l2Place.l0 : Nat → Int → Int → List Int → Int → List (S88) → Option (Int × Int)
 | 0, _, _, _, _, _ => none
 | k + 1, x1, x6, x873000, x873001, x873002 => if x6 < (x873002.length : Int) then (if 0 ≤ x6 then (if x1 < (wrap64 ((((rd_T88 x873002 x6).f0).length : Int) + (((rd_T88 x873002 x6).f1).length : Int))) then (some (x6, x1)) else (spec_l2Place.l0 k (wrap64 (x1 - (wrap64 ((((rd_T88 x873002 x6).f0).length : Int) + (((rd_T88 x873002 x6).f1).length : Int))))) (wrap64 (x6 + 1)) x873000 x873001 x873002)) else (none)) else (some ((-2), 0))
def spec_l2Place.f (k : Nat) (l0_0 : List Int) (a0_1 : Int) (l0_2 : List (S88)) (a1 : Int) : Option (Int × Int) := if a1 < 0 then (some ((-2), 0)) else (if a1 < (l0_0.length : Int) then (some ((-1), a1)) else (spec_l2Place.l0 k (wrap64 (a1 - (l0_0.length : Int))) 0 l0_0 a0_1 l0_2))
theorem spec_l2Place.mono_l : ∀ k, (∀ y0 y1 y2 y3 y4, LeO (spec_l2Place.l0 k y0 y1 y2 y3 y4) (spec_l2Place.l0 (k + 1) y0 y1 y2 y3 y4))
 | 0 => fun _ _ _ _ _ r h => by simp [spec_l2Place.l0] at h
 | k + 1 => by
  have ih0 := spec_l2Place.mono_l k
  ·intro y0 y1 y2 y3 y4
   unfold spec_l2Place.l0
   repeat' first
   | (with_reducible exact ih0 _ _ _ _ _)
   | (with_reducible exact LeO.refl _)
   | (with_reducible exact LeO.none _)
   | (with_reducible refine LeO.ite ?_ ?_)
   | (with_reducible refine LeO.bind ?_ (fun _ => ?_))
   | exact ih0 _ _ _ _ _
   | exact LeO.none _
   | refine LeO.ite ?_ ?_
   | refine LeO.bind ?_ (fun _ => ?_)
theorem spec_l2Place.mono : ∀ a0 a1 a2 a3 k, LeO (spec_l2Place.f k a0 a1 a2 a3) (spec_l2Place.f (k + 1) a0 a1 a2 a3) := by
 intro a0 a1 a2 a3 k
 have ih0 := spec_l2Place.mono_l k
 unfold spec_l2Place.f
 repeat' first
   | (with_reducible exact ih0 _ _ _ _ _)
   | (with_reducible exact LeO.refl _)
   | (with_reducible exact LeO.none _)
   | (with_reducible refine LeO.ite ?_ ?_)
   | (with_reducible refine LeO.bind ?_ (fun _ => ?_))
   | exact ih0 _ _ _ _ _
   | exact LeO.none _
   | refine LeO.ite ?_ ?_
   | refine LeO.bind ?_ (fun _ => ?_)
set_option maxHeartbeats 8000000 in
set_option maxRecDepth 100000 in
theorem spec_l2Place.calls (k : Nat) (A0_0 : Option Addr) (c0_0 : Nat) (l0_0 : List Int) (a0_1 : Int) (A0_2 : Option Addr) (c0_2 : Nat) (l0_2 : List (S88)) (a1 : Int) (r1 : Int) (r2 : Int) (w : World) (hr0_0 : Kd.C (Kd.int .i64) w A0_0 l0_0.length l0_0) (hc0_0 : l0_0.length ≤ c0_0) (hr0_2 : Kd.C k88 w A0_2 l0_2.length l0_2) (hc0_2 : l0_2.length ≤ c0_2) (h : spec_l2Place.f k l0_0 a0_1 l0_2 a1 = some (r1, r2)) :
  Calls Try.prog 83 #[.agg #[.slice A0_0 l0_0.length c0_0, .int .i64 a0_1, .slice A0_2 l0_2.length c0_2], .int .i64 a1] w fun e w' => e = .returned (.tuple #[.int .i64 r1, .int .i64 r2]) ∧ Below w.heap.size w w' := by
 have hu41 := Try.underlying41
 have HR0_0 := Aside0.mk hr0_0
 have HC0_0 := Aside0.mk hc0_0
 clear hr0_0 hc0_0
 have HR0_2 := Aside0.mk hr0_2
 have HC0_2 := Aside0.mk hc0_2
 clear hr0_2 hc0_2
 have HB := Aside0.mk (Below.refl w.heap.size w)
 have H : (if a1 < 0 then (some ((-2), 0)) else (if a1 < (l0_0.length : Int) then (some ((-1), a1)) else (spec_l2Place.l0 k (wrap64 (a1 - (l0_0.length : Int))) 0 l0_0 a0_1 l0_2))) = some (r1, r2) := h
 clear h
 by_cases c3 : a1 < 0
 ·rw [if_pos c3] at H
  have c3b0 : decide (a1 < 0) = true := decide_eq_true c3
  clear c3
  simp only [Option.some.injEq, Prod.mk.injEq] at H
  obtain ⟨rfl, rfl⟩ := H
  go_enter Try.func83, Try.ntmps83
  go_wp2_with (first | ((with_reducible refine gate_dst (N := 2) rfl ?_); refine box_event ?hg (N := 2) ?hd (cs := #[.slice A0_0 l0_0.length c0_0, .int .i64 a0_1, .slice A0_2 l0_2.length c0_2]) (t := 41) ?hr ?_; (case hd => rfl); (case hg => rfl); (case hr => first | (go_simp; done) | (go_simp; rfl)); intro gb872 hg w4 hbox hb; have n0_ := Aside0.mk (below_step hB_ hb); have n1_ := Aside0.mk (hbox); have n2_ := Aside0.mk ((sz_ hg (below_size hB_) : w.heap.size ≤ gb872)); have n3_ := Aside0.mk ((sz_ hg (below_size hB_) : w.heap.size ≤ gb872)); clear HB; have HB := n0_; have BK872 := n1_; have GW872 := n2_; have GE872 := n3_; clear n0_ n1_ n2_ n3_; clear hb hbox hg))
  repeat (go_quiet (first | ((with_reducible refine gate_dst (N := 2) rfl ?_); refine box_event ?hg (N := 2) ?hd (cs := #[.slice A0_0 l0_0.length c0_0, .int .i64 a0_1, .slice A0_2 l0_2.length c0_2]) (t := 41) ?hr ?_; (case hd => rfl); (case hg => rfl); (case hr => first | (go_simp; done) | (go_simp; rfl)); intro gb872 hg w4 hbox hb; have n0_ := Aside0.mk (below_step hB_ hb); have n1_ := Aside0.mk (hbox); have n2_ := Aside0.mk ((sz_ hg (below_size hB_) : w.heap.size ≤ gb872)); have n3_ := Aside0.mk ((sz_ hg (below_size hB_) : w.heap.size ≤ gb872)); clear HB; have HB := n0_; have BK872 := n1_; have GW872 := n2_; have GE872 := n3_; clear n0_ n1_ n2_ n3_; clear hb hbox hg)); try go_wp2_with (first | ((with_reducible refine gate_dst (N := 2) rfl ?_); refine box_event ?hg (N := 2) ?hd (cs := #[.slice A0_0 l0_0.length c0_0, .int .i64 a0_1, .slice A0_2 l0_2.length c0_2]) (t := 41) ?hr ?_; (case hd => rfl); (case hg => rfl); (case hr => first | (go_simp; done) | (go_simp; rfl)); intro gb872 hg w4 hbox hb; have n0_ := Aside0.mk (below_step hB_ hb); have n1_ := Aside0.mk (hbox); have n2_ := Aside0.mk ((sz_ hg (below_size hB_) : w.heap.size ≤ gb872)); have n3_ := Aside0.mk ((sz_ hg (below_size hB_) : w.heap.size ≤ gb872)); clear HB; have HB := n0_; have BK872 := n1_; have GW872 := n2_; have GE872 := n3_; clear n0_ n1_ n2_ n3_; clear hb hbox hg)))
  go_ret2
  exact ⟨rG_, hS_⟩
 ·rw [if_neg c3] at H
  have c3b0 : decide (a1 < 0) = false := decide_eq_false c3
  clear c3
  by_cases c5 : a1 < (l0_0.length : Int)
  ·rw [if_pos c5] at H
   have c5b0 : decide (a1 < (l0_0.length : Int)) = true := decide_eq_true c5
   clear c5
   simp only [Option.some.injEq, Prod.mk.injEq] at H
   obtain ⟨rfl, rfl⟩ := H
   go_enter Try.func83, Try.ntmps83
   go_wp2_with (first | ((with_reducible refine gate_dst (N := 2) rfl ?_); refine box_event ?hg (N := 2) ?hd (cs := #[.slice A0_0 l0_0.length c0_0, .int .i64 a0_1, .slice A0_2 l0_2.length c0_2]) (t := 41) ?hr ?_; (case hd => rfl); (case hg => rfl); (case hr => first | (go_simp; done) | (go_simp; rfl)); intro gb872 hg w6 hbox hb; have n0_ := Aside0.mk (below_step hB_ hb); have n1_ := Aside0.mk (hbox); have n2_ := Aside0.mk ((sz_ hg (below_size hB_) : w.heap.size ≤ gb872)); have n3_ := Aside0.mk ((sz_ hg (below_size hB_) : w.heap.size ≤ gb872)); clear HB; have HB := n0_; have BK872 := n1_; have GW872 := n2_; have GE872 := n3_; clear n0_ n1_ n2_ n3_; clear hb hbox hg; obtain ⟨hcz7_0, hcz7_1, hcz7_2, hfz7_0, hfz7_1, hfz7_2⟩ := blkc3_ BK872.out))
   repeat (go_quiet (first | ((with_reducible refine gate_dst (N := 2) rfl ?_); refine box_event ?hg (N := 2) ?hd (cs := #[.slice A0_0 l0_0.length c0_0, .int .i64 a0_1, .slice A0_2 l0_2.length c0_2]) (t := 41) ?hr ?_; (case hd => rfl); (case hg => rfl); (case hr => first | (go_simp; done) | (go_simp; rfl)); intro gb872 hg w6 hbox hb; have n0_ := Aside0.mk (below_step hB_ hb); have n1_ := Aside0.mk (hbox); have n2_ := Aside0.mk ((sz_ hg (below_size hB_) : w.heap.size ≤ gb872)); have n3_ := Aside0.mk ((sz_ hg (below_size hB_) : w.heap.size ≤ gb872)); clear HB; have HB := n0_; have BK872 := n1_; have GW872 := n2_; have GE872 := n3_; clear n0_ n1_ n2_ n3_; clear hb hbox hg; obtain ⟨hcz7_0, hcz7_1, hcz7_2, hfz7_0, hfz7_1, hfz7_2⟩ := blkc3_ BK872.out)); try go_wp2_with (first | ((with_reducible refine gate_dst (N := 2) rfl ?_); refine box_event ?hg (N := 2) ?hd (cs := #[.slice A0_0 l0_0.length c0_0, .int .i64 a0_1, .slice A0_2 l0_2.length c0_2]) (t := 41) ?hr ?_; (case hd => rfl); (case hg => rfl); (case hr => first | (go_simp; done) | (go_simp; rfl)); intro gb872 hg w6 hbox hb; have n0_ := Aside0.mk (below_step hB_ hb); have n1_ := Aside0.mk (hbox); have n2_ := Aside0.mk ((sz_ hg (below_size hB_) : w.heap.size ≤ gb872)); have n3_ := Aside0.mk ((sz_ hg (below_size hB_) : w.heap.size ≤ gb872)); clear HB; have HB := n0_; have BK872 := n1_; have GW872 := n2_; have GE872 := n3_; clear n0_ n1_ n2_ n3_; clear hb hbox hg; obtain ⟨hcz7_0, hcz7_1, hcz7_2, hfz7_0, hfz7_1, hfz7_2⟩ := blkc3_ BK872.out)))
   go_ret2
   exact ⟨rG_, hS_⟩
  ·rw [if_neg c5] at H
   have c5b0 : decide (a1 < (l0_0.length : Int)) = false := decide_eq_false c5
   clear c5
   have H' := Aside0.mk H
   clear H
   go_enter Try.func83, Try.ntmps83
   go_wp2_with (first | ((with_reducible refine gate_dst (N := 2) rfl ?_); refine box_event ?hg (N := 2) ?hd (cs := #[.slice A0_0 l0_0.length c0_0, .int .i64 a0_1, .slice A0_2 l0_2.length c0_2]) (t := 41) ?hr ?_; (case hd => rfl); (case hg => rfl); (case hr => first | (go_simp; done) | (go_simp; rfl)); intro gb872 hg w8 hbox hb; have n0_ := Aside0.mk (below_step hB_ hb); have n1_ := Aside0.mk (hbox); have n2_ := Aside0.mk ((sz_ hg (below_size hB_) : w.heap.size ≤ gb872)); have n3_ := Aside0.mk ((sz_ hg (below_size hB_) : w.heap.size ≤ gb872)); clear HB; have HB := n0_; have BK872 := n1_; have GW872 := n2_; have GE872 := n3_; clear n0_ n1_ n2_ n3_; clear hb hbox hg; obtain ⟨hcz9_0, hcz9_1, hcz9_2, hfz9_0, hfz9_1, hfz9_2⟩ := blkc3_ BK872.out))
   repeat (go_quiet (first | ((with_reducible refine gate_dst (N := 2) rfl ?_); refine box_event ?hg (N := 2) ?hd (cs := #[.slice A0_0 l0_0.length c0_0, .int .i64 a0_1, .slice A0_2 l0_2.length c0_2]) (t := 41) ?hr ?_; (case hd => rfl); (case hg => rfl); (case hr => first | (go_simp; done) | (go_simp; rfl)); intro gb872 hg w8 hbox hb; have n0_ := Aside0.mk (below_step hB_ hb); have n1_ := Aside0.mk (hbox); have n2_ := Aside0.mk ((sz_ hg (below_size hB_) : w.heap.size ≤ gb872)); have n3_ := Aside0.mk ((sz_ hg (below_size hB_) : w.heap.size ≤ gb872)); clear HB; have HB := n0_; have BK872 := n1_; have GW872 := n2_; have GE872 := n3_; clear n0_ n1_ n2_ n3_; clear hb hbox hg; obtain ⟨hcz9_0, hcz9_1, hcz9_2, hfz9_0, hfz9_1, hfz9_2⟩ := blkc3_ BK872.out)); try go_wp2_with (first | ((with_reducible refine gate_dst (N := 2) rfl ?_); refine box_event ?hg (N := 2) ?hd (cs := #[.slice A0_0 l0_0.length c0_0, .int .i64 a0_1, .slice A0_2 l0_2.length c0_2]) (t := 41) ?hr ?_; (case hd => rfl); (case hg => rfl); (case hr => first | (go_simp; done) | (go_simp; rfl)); intro gb872 hg w8 hbox hb; have n0_ := Aside0.mk (below_step hB_ hb); have n1_ := Aside0.mk (hbox); have n2_ := Aside0.mk ((sz_ hg (below_size hB_) : w.heap.size ≤ gb872)); have n3_ := Aside0.mk ((sz_ hg (below_size hB_) : w.heap.size ≤ gb872)); clear HB; have HB := n0_; have BK872 := n1_; have GW872 := n2_; have GE872 := n3_; clear n0_ n1_ n2_ n3_; clear hb hbox hg; obtain ⟨hcz9_0, hcz9_1, hcz9_2, hfz9_0, hfz9_1, hfz9_2⟩ := blkc3_ BK872.out)))
   go_loopg [1, 6] k (fun kq v1 v6 w' => ∃ (x1_1 : Int) (x6_1 : Int), v1 = .int .i64 x1_1 ∧ v6 = .int .i64 x6_1 ∧ Aside0 (spec_l2Place.l0 kq x1_1 x6_1 l0_0 a0_1 l0_2 = some (r1, r2)) ∧ Aside0 (kq ≤ k) ∧ Aside0 (w'.heap[gb872]? = some (.cells #[(.slice A0_0 l0_0.length c0_0), .int .i64 a0_1, (.slice A0_2 l0_2.length c0_2)] 41 (0, 0))) ∧ Aside0 (Below w.heap.size w w'))
   case atStart => exact ⟨(wrap64 (a1 - (l0_0.length : Int))), (0), rF_, rF_, H', ⟨Nat.le_refl _⟩, ⟨bK872_⟩, ⟨hS_⟩⟩
   case round =>
    clear H'
    try clear p2
    try clear c3
    try clear c3b0
    try clear c5
    try clear c5b0
    try clear p6
    try clear c8
    try clear hcz7_0 hcz7_1 hcz7_2 hfz7_0 hfz7_1 hfz7_2
    try clear hcz9_0 hcz9_1 hcz9_2 hfz9_0 hfz9_1 hfz9_2
    obtain ⟨x1_1, x6_1, rfl, rfl, HA, HK1, BK872, HB⟩ := hrel
    cases gk with
    | zero => exact absurd HA.out (by simp [spec_l2Place.l0])
    | succ k1 =>
     have H := HA.out
     clear HA
     simp only [spec_l2Place.l0] at H
     by_cases c10 : x6_1 < (l0_2.length : Int)
     ·rw [if_pos c10] at H
      have c10b0 : decide (x6_1 < (l0_2.length : Int)) = true := decide_eq_true c10
      clear c10
      by_cases c11 : 0 ≤ x6_1
      ·rw [if_pos c11] at H
       have c11b0 : decide (0 ≤ x6_1) = true := decide_eq_true c11
       clear c11
       by_cases c12 : x1_1 < (wrap64 ((((rd_T88 l0_2 x6_1).f0).length : Int) + (((rd_T88 l0_2 x6_1).f1).length : Int)))
       ·rw [if_pos c12] at H
        have c12b0 : decide (x1_1 < (wrap64 ((((rd_T88 l0_2 x6_1).f0).length : Int) + (((rd_T88 l0_2 x6_1).f1).length : Int)))) = true := decide_eq_true c12
        clear c12
        simp only [Option.some.injEq, Prod.mk.injEq] at H
        obtain ⟨rfl, rfl⟩ := H
        obtain ⟨hcz13_0, hcz13_1, hcz13_2, hfz13_0, hfz13_1, hfz13_2⟩ := blkc3_ BK872.out
        have p873 : 0 ≤ (x6_1 : Int) := oD_
        have q873 : x6_1 < (l0_2.length : Int) := oD_
        obtain ⟨ad873, A873_0, c873_0, A873_1, c873_1, e873, hx873_0, hx873_1, hx873_2, hx873_3, hx873_4, hx873_5, hl873_0, hi873_0, hl873_1, hi873_1⟩ := at_T88 HR0_2.out x6_1 p873 q873
        cases e873
        replace hx873_0 := hx_ HB.out hx873_0
        replace hx873_1 := hx_ HB.out hx873_1
        replace hx873_2 := hx_ HB.out hx873_2
        replace hx873_3 := hx_ HB.out hx873_3
        replace hx873_4 := hx_ HB.out hx873_4
        replace hx873_5 := hx_ HB.out hx873_5
        have HR873_0 := Aside0.mk hi873_0
        have HC873_0 := Aside0.mk hl873_0
        clear hi873_0 hl873_0
        have HR873_1 := Aside0.mk hi873_1
        have HC873_1 := Aside0.mk hl873_1
        clear hi873_1 hl873_1
        replace p873 := eq_true p873
        replace q873 := eq_true q873
        have p874 : 0 ≤ (x6_1 : Int) := oD_
        have q874 : x6_1 < (l0_2.length : Int) := oD_
        obtain ⟨ad874, A874_0, c874_0, A874_1, c874_1, e874, hx874_0, hx874_1, hx874_2, hx874_3, hx874_4, hx874_5, hl874_0, hi874_0, hl874_1, hi874_1⟩ := at_T88 HR0_2.out x6_1 p874 q874
        obtain rfl : ad873 = ad874 := (by injection e874)
        replace hx874_0 := hx_ HB.out hx874_0
        replace hx874_1 := hx_ HB.out hx874_1
        replace hx874_2 := hx_ HB.out hx874_2
        replace hx874_3 := hx_ HB.out hx874_3
        replace hx874_4 := hx_ HB.out hx874_4
        replace hx874_5 := hx_ HB.out hx874_5
        have HR874_0 := Aside0.mk hi874_0
        have HC874_0 := Aside0.mk hl874_0
        clear hi874_0 hl874_0
        have HR874_1 := Aside0.mk hi874_1
        have HC874_1 := Aside0.mk hl874_1
        clear hi874_1 hl874_1
        replace p874 := eq_true p874
        replace q874 := eq_true q874
        have ea_ := Option.some.inj (hx873_0.symm.trans hx874_0)
        injection ea_ with ea_ en_ ec_
        subst ea_
        subst ec_
        clear en_
        have ea_ := Option.some.inj (hx873_1.symm.trans hx874_1)
        injection ea_ with ea_ en_ ec_
        subst ea_
        subst ec_
        clear en_
        go_wp2
        repeat (go_quiet (fail); try go_wp2)
        go_ret2
        exact ⟨rG_, hS_⟩
       ·rw [if_neg c12] at H
        have c12b0 : decide (x1_1 < (wrap64 ((((rd_T88 l0_2 x6_1).f0).length : Int) + (((rd_T88 l0_2 x6_1).f1).length : Int)))) = false := decide_eq_false c12
        clear c12
        have H' := Aside0.mk H
        clear H
        obtain ⟨hcz14_0, hcz14_1, hcz14_2, hfz14_0, hfz14_1, hfz14_2⟩ := blkc3_ BK872.out
        have p873 : 0 ≤ (x6_1 : Int) := oD_
        have q873 : x6_1 < (l0_2.length : Int) := oD_
        obtain ⟨ad873, A873_0, c873_0, A873_1, c873_1, e873, hx873_0, hx873_1, hx873_2, hx873_3, hx873_4, hx873_5, hl873_0, hi873_0, hl873_1, hi873_1⟩ := at_T88 HR0_2.out x6_1 p873 q873
        cases e873
        replace hx873_0 := hx_ HB.out hx873_0
        replace hx873_1 := hx_ HB.out hx873_1
        replace hx873_2 := hx_ HB.out hx873_2
        replace hx873_3 := hx_ HB.out hx873_3
        replace hx873_4 := hx_ HB.out hx873_4
        replace hx873_5 := hx_ HB.out hx873_5
        have HR873_0 := Aside0.mk hi873_0
        have HC873_0 := Aside0.mk hl873_0
        clear hi873_0 hl873_0
        have HR873_1 := Aside0.mk hi873_1
        have HC873_1 := Aside0.mk hl873_1
        clear hi873_1 hl873_1
        replace p873 := eq_true p873
        replace q873 := eq_true q873
        have p874 : 0 ≤ (x6_1 : Int) := oD_
        have q874 : x6_1 < (l0_2.length : Int) := oD_
        obtain ⟨ad874, A874_0, c874_0, A874_1, c874_1, e874, hx874_0, hx874_1, hx874_2, hx874_3, hx874_4, hx874_5, hl874_0, hi874_0, hl874_1, hi874_1⟩ := at_T88 HR0_2.out x6_1 p874 q874
        obtain rfl : ad873 = ad874 := (by injection e874)
        replace hx874_0 := hx_ HB.out hx874_0
        replace hx874_1 := hx_ HB.out hx874_1
        replace hx874_2 := hx_ HB.out hx874_2
        replace hx874_3 := hx_ HB.out hx874_3
        replace hx874_4 := hx_ HB.out hx874_4
        replace hx874_5 := hx_ HB.out hx874_5
        have HR874_0 := Aside0.mk hi874_0
        have HC874_0 := Aside0.mk hl874_0
        clear hi874_0 hl874_0
        have HR874_1 := Aside0.mk hi874_1
        have HC874_1 := Aside0.mk hl874_1
        clear hi874_1 hl874_1
        replace p874 := eq_true p874
        replace q874 := eq_true q874
        have ea_ := Option.some.inj (hx873_0.symm.trans hx874_0)
        injection ea_ with ea_ en_ ec_
        subst ea_
        subst ec_
        clear en_
        have ea_ := Option.some.inj (hx873_1.symm.trans hx874_1)
        injection ea_ with ea_ en_ ec_
        subst ea_
        subst ec_
        clear en_
        go_wp2
        repeat (go_quiet (fail); try go_wp2)
        go_roundg k1
        case measure => have := HK1.out; omega
        case rel => exact ⟨(wrap64 (x1_1 - (wrap64 ((((rd_T88 l0_2 x6_1).f0).length : Int) + (((rd_T88 l0_2 x6_1).f1).length : Int))))), (wrap64 (x6_1 + 1)), rF_, rF_, H', ⟨by have := HK1.out; omega⟩, ⟨bK872_⟩, ⟨hS_⟩⟩
      ·rw [if_neg c11] at H
       exact absurd H (by simp)
     ·rw [if_neg c10] at H
      have c10b0 : decide (x6_1 < (l0_2.length : Int)) = false := decide_eq_false c10
      clear c10
      simp only [Option.some.injEq, Prod.mk.injEq] at H
      obtain ⟨rfl, rfl⟩ := H
      obtain ⟨hcz15_0, hcz15_1, hcz15_2, hfz15_0, hfz15_1, hfz15_2⟩ := blkc3_ BK872.out
      go_wp2
      repeat (go_quiet (fail); try go_wp2)
      go_ret2
      exact ⟨rG_, hS_⟩
/-! ### spec_l9Inst: function 85 -/
def spec_l9Inst.f (k : Nat) (l0_0 : List Int) (a0_1 : Int) (l0_2 : List (S88)) (a1 : Int) : Option (Int × Int × Int × Int × Int × Int × List Int × Bool) := (spec_l2Place.f k l0_0 a0_1 l0_2 a1).bind fun bt916 => (if bt916.1 < 0 then (some (0, 0, 0, 0, 0, 0, ([] : List Int), false)) else (if 0 ≤ bt916.1 then (if bt916.1 < (l0_2.length : Int) then (if bt916.2 < (((rd_T88 l0_2 bt916.1).f0).length : Int) then (some (0, 0, 0, 0, 0, 0, ([] : List Int), false)) else (if 0 ≤ (wrap64 (bt916.2 - (((rd_T88 l0_2 bt916.1).f0).length : Int))) then (if (wrap64 (bt916.2 - (((rd_T88 l0_2 bt916.1).f0).length : Int))) < (((rd_T88 l0_2 bt916.1).f1).length : Int) then (some ((rd_T27 ((rd_T88 l0_2 bt916.1).f1) (wrap64 (bt916.2 - (((rd_T88 l0_2 bt916.1).f0).length : Int)))).f0, (rd_T27 ((rd_T88 l0_2 bt916.1).f1) (wrap64 (bt916.2 - (((rd_T88 l0_2 bt916.1).f0).length : Int)))).f1, (rd_T27 ((rd_T88 l0_2 bt916.1).f1) (wrap64 (bt916.2 - (((rd_T88 l0_2 bt916.1).f0).length : Int)))).f2, (rd_T27 ((rd_T88 l0_2 bt916.1).f1) (wrap64 (bt916.2 - (((rd_T88 l0_2 bt916.1).f0).length : Int)))).f3, (rd_T27 ((rd_T88 l0_2 bt916.1).f1) (wrap64 (bt916.2 - (((rd_T88 l0_2 bt916.1).f0).length : Int)))).f4, (rd_T27 ((rd_T88 l0_2 bt916.1).f1) (wrap64 (bt916.2 - (((rd_T88 l0_2 bt916.1).f0).length : Int)))).f5, (rd_T27 ((rd_T88 l0_2 bt916.1).f1) (wrap64 (bt916.2 - (((rd_T88 l0_2 bt916.1).f0).length : Int)))).f6, true)) else (none)) else (none))) else (none)) else (none)))
theorem spec_l9Inst.mono : ∀ a0 a1 a2 a3 k, LeO (spec_l9Inst.f k a0 a1 a2 a3) (spec_l9Inst.f (k + 1) a0 a1 a2 a3) := by
 intro a0 a1 a2 a3 k
 unfold spec_l9Inst.f
 repeat' first
   | (with_reducible exact spec_l2Place.mono _ _ _ _ _)
   | (with_reducible exact LeO.refl _)
   | (with_reducible exact LeO.none _)
   | (with_reducible refine LeO.ite ?_ ?_)
   | (with_reducible refine LeO.bind ?_ (fun _ => ?_))
   | exact spec_l2Place.mono _ _ _ _ _
   | exact LeO.none _
   | refine LeO.ite ?_ ?_
   | refine LeO.bind ?_ (fun _ => ?_)
set_option maxHeartbeats 8000000 in
set_option maxRecDepth 100000 in
theorem spec_l9Inst.calls (k : Nat) (A0_0 : Option Addr) (c0_0 : Nat) (l0_0 : List Int) (a0_1 : Int) (P0_2_ : Nat → Prop) (A0_2 : Option Addr) (c0_2 : Nat) (l0_2 : List (S88)) (a1 : Int) (r1 : Int) (r2 : Int) (r3 : Int) (r4 : Int) (r5 : Int) (r6 : Int) (r7 : List Int) (r8 : Bool) (w : World) (hr0_0 : Kd.C (Kd.int .i64) w A0_0 l0_0.length l0_0) (hc0_0 : l0_0.length ≤ c0_0) (hs0_2 : Kd.V k88 88 w w.heap.size (fun k_ => P0_2_ k_) (.slice A0_2 l0_2.length c0_2) l0_2) (h : spec_l9Inst.f k l0_0 a0_1 l0_2 a1 = some (r1, r2, r3, r4, r5, r6, r7, r8)) :
  Calls Try.prog 85 #[.agg #[.slice A0_0 l0_0.length c0_0, .int .i64 a0_1, .slice A0_2 l0_2.length c0_2], .int .i64 a1] w fun e w' => ∃ v6_ : Value, e = .returned (.tuple #[.agg #[.int .i64 r1, .int .i64 r2, .int .i64 r3, .int .i64 r4, .int .i64 r5, .int .i64 r6, v6_], .bool r8]) ∧ Kd.V (Kd.int .i64) 2 w' w.heap.size (fun k_ => (P0_2_ k_ ∨ w.heap.size ≤ k_)) v6_ r7 ∧ Below w.heap.size w w' := by
 have hu41 := Try.underlying41
 have hu27 := Try.underlying27
 have HR0_0 := Aside0.mk hr0_0
 have HC0_0 := Aside0.mk hc0_0
 clear hr0_0 hc0_0
 have HO0_2 := Aside0.mk (show Kd.V k88 88 w w.heap.size (fun k_ => (P0_2_ k_ ∨ w.heap.size ≤ k_)) (.slice A0_2 l0_2.length c0_2) l0_2 from Kd.V_mono hs0_2 (fun k_ hk => .inl hk))
 have HB := Aside0.mk (Below.refl w.heap.size w)
 have H : ((spec_l2Place.f k l0_0 a0_1 l0_2 a1).bind fun bt916 => (if bt916.1 < 0 then (some (0, 0, 0, 0, 0, 0, ([] : List Int), false)) else (if 0 ≤ bt916.1 then (if bt916.1 < (l0_2.length : Int) then (if bt916.2 < (((rd_T88 l0_2 bt916.1).f0).length : Int) then (some (0, 0, 0, 0, 0, 0, ([] : List Int), false)) else (if 0 ≤ (wrap64 (bt916.2 - (((rd_T88 l0_2 bt916.1).f0).length : Int))) then (if (wrap64 (bt916.2 - (((rd_T88 l0_2 bt916.1).f0).length : Int))) < (((rd_T88 l0_2 bt916.1).f1).length : Int) then (some ((rd_T27 ((rd_T88 l0_2 bt916.1).f1) (wrap64 (bt916.2 - (((rd_T88 l0_2 bt916.1).f0).length : Int)))).f0, (rd_T27 ((rd_T88 l0_2 bt916.1).f1) (wrap64 (bt916.2 - (((rd_T88 l0_2 bt916.1).f0).length : Int)))).f1, (rd_T27 ((rd_T88 l0_2 bt916.1).f1) (wrap64 (bt916.2 - (((rd_T88 l0_2 bt916.1).f0).length : Int)))).f2, (rd_T27 ((rd_T88 l0_2 bt916.1).f1) (wrap64 (bt916.2 - (((rd_T88 l0_2 bt916.1).f0).length : Int)))).f3, (rd_T27 ((rd_T88 l0_2 bt916.1).f1) (wrap64 (bt916.2 - (((rd_T88 l0_2 bt916.1).f0).length : Int)))).f4, (rd_T27 ((rd_T88 l0_2 bt916.1).f1) (wrap64 (bt916.2 - (((rd_T88 l0_2 bt916.1).f0).length : Int)))).f5, (rd_T27 ((rd_T88 l0_2 bt916.1).f1) (wrap64 (bt916.2 - (((rd_T88 l0_2 bt916.1).f0).length : Int)))).f6, true)) else (none)) else (none))) else (none)) else (none)))) = some (r1, r2, r3, r4, r5, r6, r7, r8) := h
 clear h
 replace H := Option.bind_eq_some_iff.mp H
 obtain ⟨⟨t916, t917⟩, A30, H⟩ := H
 replace H : (if t916 < 0 then (some (0, 0, 0, 0, 0, 0, ([] : List Int), false)) else (if 0 ≤ t916 then (if t916 < (l0_2.length : Int) then (if t917 < (((rd_T88 l0_2 t916).f0).length : Int) then (some (0, 0, 0, 0, 0, 0, ([] : List Int), false)) else (if 0 ≤ (wrap64 (t917 - (((rd_T88 l0_2 t916).f0).length : Int))) then (if (wrap64 (t917 - (((rd_T88 l0_2 t916).f0).length : Int))) < (((rd_T88 l0_2 t916).f1).length : Int) then (some ((rd_T27 ((rd_T88 l0_2 t916).f1) (wrap64 (t917 - (((rd_T88 l0_2 t916).f0).length : Int)))).f0, (rd_T27 ((rd_T88 l0_2 t916).f1) (wrap64 (t917 - (((rd_T88 l0_2 t916).f0).length : Int)))).f1, (rd_T27 ((rd_T88 l0_2 t916).f1) (wrap64 (t917 - (((rd_T88 l0_2 t916).f0).length : Int)))).f2, (rd_T27 ((rd_T88 l0_2 t916).f1) (wrap64 (t917 - (((rd_T88 l0_2 t916).f0).length : Int)))).f3, (rd_T27 ((rd_T88 l0_2 t916).f1) (wrap64 (t917 - (((rd_T88 l0_2 t916).f0).length : Int)))).f4, (rd_T27 ((rd_T88 l0_2 t916).f1) (wrap64 (t917 - (((rd_T88 l0_2 t916).f0).length : Int)))).f5, (rd_T27 ((rd_T88 l0_2 t916).f1) (wrap64 (t917 - (((rd_T88 l0_2 t916).f0).length : Int)))).f6, true)) else (none)) else (none))) else (none)) else (none))) = some (r1, r2, r3, r4, r5, r6, r7, r8) := H
 have A3 := Aside0.mk A30
 clear A30
 by_cases c4 : t916 < 0
 ·rw [if_pos c4] at H
  have c4b0 : decide (t916 < 0) = true := decide_eq_true c4
  clear c4
  simp only [Option.some.injEq, Prod.mk.injEq] at H
  obtain ⟨rfl, rfl, rfl, rfl, rfl, rfl, rfl, rfl⟩ := H
  go_enter Try.func85, Try.ntmps85
  go_wp2_with (first | ((with_reducible refine gate_dst (N := 2) rfl ?_); refine box_event ?hg (N := 2) ?hd (cs := #[.slice A0_0 l0_0.length c0_0, .int .i64 a0_1, .slice A0_2 l0_2.length c0_2]) (t := 41) ?hr ?_; (case hd => rfl); (case hg => rfl); (case hr => first | (go_simp; done) | (go_simp; rfl)); intro gb914 hg w5 hbox hb; have n0_ := Aside0.mk (Kd.V_below (Kd.V_elderB (by (with_reducible repeat (first | apply Kd.V_alloc | apply Kd.V_drewN | apply Kd.V_drew)); exact HO0_2.out) gb914 (Nat.le_of_eq hg.symm)) hb); have n1_ := Aside0.mk (below_step hB_ hb); have n2_ := Aside0.mk (hbox); have n3_ := Aside0.mk ((sz_ hg (below_size hB_) : w.heap.size ≤ gb914)); have n4_ := Aside0.mk ((sz_ hg (below_size hB_) : w.heap.size ≤ gb914)); clear HO0_2; clear HB; have HO0_2 := n0_; have HB := n1_; have BK914 := n2_; have GW914 := n3_; have GE914 := n4_; clear n0_ n1_ n2_ n3_ n4_; clear hb hbox hg) | ((with_reducible refine gate_dst (N := 4) rfl ?_); refine box_event ?hg (N := 4) ?hd (cs := #[.int .i64 0, .int .i64 0, .int .i64 0, .int .i64 0, .int .i64 0, .int .i64 0, .slice none 0 0]) (t := 27) ?hr ?_; (case hd => rfl); (case hg => rfl); (case hr => first | (go_simp; done) | (go_simp; rfl)); intro gb915 hg w6 hbox hb; have n0_ := Aside0.mk (Kd.V_below (Kd.V_elderB (by (with_reducible repeat (first | apply Kd.V_alloc | apply Kd.V_drewN | apply Kd.V_drew)); exact HO0_2.out) gb915 (Nat.le_of_eq hg.symm)) hb); have n1_ := Aside0.mk (blk_below (g := gb914) (o := .cells #[.slice A0_0 l0_0.length c0_0, .int .i64 a0_1, .slice A0_2 l0_2.length c0_2] 41 (0, 0)) bK914_ hb); have n2_ := Aside0.mk (below_step hS_ hb); have n3_ := Aside0.mk (hbox); have n4_ := Aside0.mk ((sz_ hg (below_size hS_) : w.heap.size ≤ gb915)); have n5_ := Aside0.mk ((sz_ hg (below_size hS_) : w.heap.size ≤ gb915)); have n6_ := Aside0.mk ((by rw [hg]; exact Nat.ne_of_lt (blk_lt (g := gb914) (o := .cells #[.slice A0_0 l0_0.length c0_0, .int .i64 a0_1, .slice A0_2 l0_2.length c0_2] 41 (0, 0)) bK914_) : gb914 ≠ gb915)); have n7_ := Aside0.mk ((by rw [hg]; exact Nat.ne_of_gt (blk_lt (g := gb914) (o := .cells #[.slice A0_0 l0_0.length c0_0, .int .i64 a0_1, .slice A0_2 l0_2.length c0_2] 41 (0, 0)) bK914_) : gb915 ≠ gb914)); clear HO0_2; clear BK914; clear HB; have HO0_2 := n0_; have BK914 := n1_; have HB := n2_; have BK915 := n3_; have GW915 := n4_; have GE915 := n5_; have NB914_915 := n6_; have NB915_914 := n7_; clear n0_ n1_ n2_ n3_ n4_ n5_ n6_ n7_; clear hb hbox hg; have hnb7 := NB914_915.out; have hnc7 := NB915_914.out; obtain ⟨hcz8_0, hcz8_1, hcz8_2, hfz8_0, hfz8_1, hfz8_2⟩ := blkc3_ BK914.out) | ((with_reducible refine gate_callee (f := 83) rfl ?_); refine gL_ (some 12) Try.func83 #[.agg #[.slice A0_0 l0_0.length c0_0, .int .i64 a0_1, .slice A0_2 l0_2.length c0_2], .int .i64 a1] ?_; (with_reducible refine (spec_l2Place.calls k _ _ l0_0 a0_1 _ _ l0_2 a1 t916 t917 _ ?side1 ?side2 ?side3 ?side4 A3.out).mono ?_); (case side1 => exact cHR0_0_); (case side2 => exact HC0_0.out); (case side3 => repeat (first | exact (Kd.V_reads' HO0_2.out).2.2 | (with_reducible refine Kd.C_alloc ?_ _) | (with_reducible refine Kd.C_drewN ?_ _) | (with_reducible refine Kd.C_drew ?_))); (case side4 => exact (Kd.V_reads' HO0_2.out).2.1); rintro e w9 ⟨rfl, hb⟩; refine ⟨_, rfl, ?_⟩; have n0_ := Aside0.mk (Kd.V_below (by (with_reducible repeat (first | apply Kd.V_alloc | apply Kd.V_drewN | apply Kd.V_drew)); exact HO0_2.out) hb); have n1_ := Aside0.mk (blk_below (g := gb914) (o := .cells #[.slice A0_0 l0_0.length c0_0, .int .i64 a0_1, .slice A0_2 l0_2.length c0_2] 41 (0, 0)) bK914_ hb); have n2_ := Aside0.mk (blk_below (g := gb915) (o := .cells #[.int .i64 0, .int .i64 0, .int .i64 0, .int .i64 0, .int .i64 0, .int .i64 0, .slice none 0 0] 27 (0, 0)) bK915_ hb); have n3_ := Aside0.mk (below_step hS_ hb); clear HO0_2; clear BK914; clear BK915; clear HB; have HO0_2 := n0_; have BK914 := n1_; have BK915 := n2_; have HB := n3_; clear n0_ n1_ n2_ n3_; (try clear hb); (try clear hb2); (try clear hk); (try clear hi); obtain ⟨hcz10_0, hcz10_1, hcz10_2, hcz10_3, hcz10_4, hcz10_5, hcz10_6, hfz10_0, hfz10_1, hfz10_2, hfz10_3, hfz10_4, hfz10_5, hfz10_6⟩ := blkc7_ BK915.out))
  refine bodyPost_ret (results_ct rfl _ _ gb915 27 #[.int .i64 0, .int .i64 0, .int .i64 0, .int .i64 0, .int .i64 0, .int .i64 0, .slice none 0 0] (0, 0) _ rfl (by (with_reducible repeat (first | refine blk_drewN ?_ _ | refine blk_drew ?_ | refine blk_alloc ?_ _)); refine blk_put (cs := #[.int .i64 0, .int .i64 0, .int .i64 0, .int .i64 0, .int .i64 0, .int .i64 0, .slice none 0 0]) ?_ 6 _ rfl; (with_reducible repeat (first | refine blk_drewN ?_ _ | refine blk_drew ?_ | refine blk_alloc ?_ _)); refine blk_put (cs := #[.int .i64 0, .int .i64 0, .int .i64 0, .int .i64 0, .int .i64 0, .int .i64 0, .slice none 0 0]) ?_ 5 _ rfl; (with_reducible repeat (first | refine blk_drewN ?_ _ | refine blk_drew ?_ | refine blk_alloc ?_ _)); refine blk_put (cs := #[.int .i64 0, .int .i64 0, .int .i64 0, .int .i64 0, .int .i64 0, .int .i64 0, .slice none 0 0]) ?_ 4 _ rfl; (with_reducible repeat (first | refine blk_drewN ?_ _ | refine blk_drew ?_ | refine blk_alloc ?_ _)); refine blk_put (cs := #[.int .i64 0, .int .i64 0, .int .i64 0, .int .i64 0, .int .i64 0, .int .i64 0, .slice none 0 0]) ?_ 3 _ rfl; (with_reducible repeat (first | refine blk_drewN ?_ _ | refine blk_drew ?_ | refine blk_alloc ?_ _)); refine blk_put (cs := #[.int .i64 0, .int .i64 0, .int .i64 0, .int .i64 0, .int .i64 0, .int .i64 0, .slice none 0 0]) ?_ 2 _ rfl; (with_reducible repeat (first | refine blk_drewN ?_ _ | refine blk_drew ?_ | refine blk_alloc ?_ _)); refine blk_put (cs := #[.int .i64 0, .int .i64 0, .int .i64 0, .int .i64 0, .int .i64 0, .int .i64 0, .slice none 0 0]) ?_ 1 _ rfl; (with_reducible repeat (first | refine blk_drewN ?_ _ | refine blk_drew ?_ | refine blk_alloc ?_ _)); refine blk_put (cs := #[.int .i64 0, .int .i64 0, .int .i64 0, .int .i64 0, .int .i64 0, .int .i64 0, .slice none 0 0]) ?_ 0 _ rfl; (with_reducible repeat (first | refine blk_drewN ?_ _ | refine blk_drew ?_ | refine blk_alloc ?_ _)); exact BK915.out) Try.underlying27 rfl (by kernel_rfl)) rfl ?_
  exact ⟨_, rG_, (by first | exact Kd.V_nil _ _ _ _ _), hS_⟩
 ·rw [if_neg c4] at H
  have c4b0 : decide (t916 < 0) = false := decide_eq_false c4
  clear c4
  by_cases c11 : 0 ≤ t916
  ·rw [if_pos c11] at H
   have c11b0 : decide (0 ≤ t916) = true := decide_eq_true c11
   clear c11
   by_cases c12 : t916 < (l0_2.length : Int)
   ·rw [if_pos c12] at H
    have c12b0 : decide (t916 < (l0_2.length : Int)) = true := decide_eq_true c12
    clear c12
    by_cases c13 : t917 < (((rd_T88 l0_2 t916).f0).length : Int)
    ·rw [if_pos c13] at H
     have c13b0 : decide (t917 < (((rd_T88 l0_2 t916).f0).length : Int)) = true := decide_eq_true c13
     clear c13
     simp only [Option.some.injEq, Prod.mk.injEq] at H
     obtain ⟨rfl, rfl, rfl, rfl, rfl, rfl, rfl, rfl⟩ := H
     go_enter Try.func85, Try.ntmps85
     go_wp2_with (first | ((with_reducible refine gate_dst (N := 2) rfl ?_); refine box_event ?hg (N := 2) ?hd (cs := #[.slice A0_0 l0_0.length c0_0, .int .i64 a0_1, .slice A0_2 l0_2.length c0_2]) (t := 41) ?hr ?_; (case hd => rfl); (case hg => rfl); (case hr => first | (go_simp; done) | (go_simp; rfl)); intro gb914 hg w14 hbox hb; have n0_ := Aside0.mk (Kd.V_below (Kd.V_elderB (by (with_reducible repeat (first | apply Kd.V_alloc | apply Kd.V_drewN | apply Kd.V_drew)); exact HO0_2.out) gb914 (Nat.le_of_eq hg.symm)) hb); have n1_ := Aside0.mk (below_step hB_ hb); have n2_ := Aside0.mk (hbox); have n3_ := Aside0.mk ((sz_ hg (below_size hB_) : w.heap.size ≤ gb914)); have n4_ := Aside0.mk ((sz_ hg (below_size hB_) : w.heap.size ≤ gb914)); clear HO0_2; clear HB; have HO0_2 := n0_; have HB := n1_; have BK914 := n2_; have GW914 := n3_; have GE914 := n4_; clear n0_ n1_ n2_ n3_ n4_; clear hb hbox hg) | ((with_reducible refine gate_dst (N := 4) rfl ?_); refine box_event ?hg (N := 4) ?hd (cs := #[.int .i64 0, .int .i64 0, .int .i64 0, .int .i64 0, .int .i64 0, .int .i64 0, .slice none 0 0]) (t := 27) ?hr ?_; (case hd => rfl); (case hg => rfl); (case hr => first | (go_simp; done) | (go_simp; rfl)); intro gb915 hg w15 hbox hb; have n0_ := Aside0.mk (Kd.V_below (Kd.V_elderB (by (with_reducible repeat (first | apply Kd.V_alloc | apply Kd.V_drewN | apply Kd.V_drew)); exact HO0_2.out) gb915 (Nat.le_of_eq hg.symm)) hb); have n1_ := Aside0.mk (blk_below (g := gb914) (o := .cells #[.slice A0_0 l0_0.length c0_0, .int .i64 a0_1, .slice A0_2 l0_2.length c0_2] 41 (0, 0)) bK914_ hb); have n2_ := Aside0.mk (below_step hS_ hb); have n3_ := Aside0.mk (hbox); have n4_ := Aside0.mk ((sz_ hg (below_size hS_) : w.heap.size ≤ gb915)); have n5_ := Aside0.mk ((sz_ hg (below_size hS_) : w.heap.size ≤ gb915)); have n6_ := Aside0.mk ((by rw [hg]; exact Nat.ne_of_lt (blk_lt (g := gb914) (o := .cells #[.slice A0_0 l0_0.length c0_0, .int .i64 a0_1, .slice A0_2 l0_2.length c0_2] 41 (0, 0)) bK914_) : gb914 ≠ gb915)); have n7_ := Aside0.mk ((by rw [hg]; exact Nat.ne_of_gt (blk_lt (g := gb914) (o := .cells #[.slice A0_0 l0_0.length c0_0, .int .i64 a0_1, .slice A0_2 l0_2.length c0_2] 41 (0, 0)) bK914_) : gb915 ≠ gb914)); clear HO0_2; clear BK914; clear HB; have HO0_2 := n0_; have BK914 := n1_; have HB := n2_; have BK915 := n3_; have GW915 := n4_; have GE915 := n5_; have NB914_915 := n6_; have NB915_914 := n7_; clear n0_ n1_ n2_ n3_ n4_ n5_ n6_ n7_; clear hb hbox hg; have hnb16 := NB914_915.out; have hnc16 := NB915_914.out; obtain ⟨hcz17_0, hcz17_1, hcz17_2, hfz17_0, hfz17_1, hfz17_2⟩ := blkc3_ BK914.out) | ((with_reducible refine gate_callee (f := 83) rfl ?_); refine gL_ (some 12) Try.func83 #[.agg #[.slice A0_0 l0_0.length c0_0, .int .i64 a0_1, .slice A0_2 l0_2.length c0_2], .int .i64 a1] ?_; (with_reducible refine (spec_l2Place.calls k _ _ l0_0 a0_1 _ _ l0_2 a1 t916 t917 _ ?side1 ?side2 ?side3 ?side4 A3.out).mono ?_); (case side1 => exact cHR0_0_); (case side2 => exact HC0_0.out); (case side3 => repeat (first | exact (Kd.V_reads' HO0_2.out).2.2 | (with_reducible refine Kd.C_alloc ?_ _) | (with_reducible refine Kd.C_drewN ?_ _) | (with_reducible refine Kd.C_drew ?_))); (case side4 => exact (Kd.V_reads' HO0_2.out).2.1); rintro e w18 ⟨rfl, hb⟩; refine ⟨_, rfl, ?_⟩; have n0_ := Aside0.mk (Kd.V_below (by (with_reducible repeat (first | apply Kd.V_alloc | apply Kd.V_drewN | apply Kd.V_drew)); exact HO0_2.out) hb); have n1_ := Aside0.mk (blk_below (g := gb914) (o := .cells #[.slice A0_0 l0_0.length c0_0, .int .i64 a0_1, .slice A0_2 l0_2.length c0_2] 41 (0, 0)) bK914_ hb); have n2_ := Aside0.mk (blk_below (g := gb915) (o := .cells #[.int .i64 0, .int .i64 0, .int .i64 0, .int .i64 0, .int .i64 0, .int .i64 0, .slice none 0 0] 27 (0, 0)) bK915_ hb); have n3_ := Aside0.mk (below_step hS_ hb); clear HO0_2; clear BK914; clear BK915; clear HB; have HO0_2 := n0_; have BK914 := n1_; have BK915 := n2_; have HB := n3_; clear n0_ n1_ n2_ n3_; (try clear hb); (try clear hb2); (try clear hk); (try clear hi); obtain ⟨hcz19_0, hcz19_1, hcz19_2, hfz19_0, hfz19_1, hfz19_2⟩ := blkc3_ BK914.out; have p918 : 0 ≤ (t916 : Int) := oD_; have q918 : t916 < (l0_2.length : Int) := oD_; obtain ⟨ad918, A918_0, c918_0, A918_1, c918_1, e918, hx918_0, hx918_1, hx918_2, hx918_3, hx918_4, hx918_5, hl918_0, hi918_0, hl918_1, hi918_1⟩ := at_T88 (Kd.V_reads' HO0_2.out).2.2 t916 p918 q918; cases e918; obtain ⟨ce918, hce918, hMe918, hcc918⟩ := Kd.V_get HO0_2.out z88 t916 p918 (by first | exact q918 | exact oD_ | (have e_ := (Kd.V_reads' HO0_2.out).1; omega)); obtain ⟨ua918_0, uc918_0, ua918_1, uc918_1, rfl, ul918_0, ge918_0, ul918_1, ge918_1⟩ := k88_openF hMe918; have hv918_0 := hcc918 0 _ rfl; rw [Nat.add_zero] at hv918_0; replace hv918_0 := Option.some.inj (hv918_0.symm.trans hx918_0); injection hv918_0 with hva_ hvn_ hvc_; rw [hva_] at ge918_0; rw [hvc_] at ul918_0; have HL918_0 := Aside0.mk (show Kd.V k95 95 _ w.heap.size _ _ ((rd_T88 l0_2 t916).f0) from Kd.V_mk ul918_0 ge918_0); clear hva_ hvn_ hvc_ ge918_0 ul918_0; have hv918_1 := hcc918 1 _ rfl; rw [add_field _ _ 1 (by omega)] at hv918_1; replace hv918_1 := Option.some.inj (hv918_1.symm.trans hx918_1); injection hv918_1 with hva_ hvn_ hvc_; rw [hva_] at ge918_1; rw [hvc_] at ul918_1; have HL918_1 := Aside0.mk (show Kd.V k27 27 _ w.heap.size _ _ ((rd_T88 l0_2 t916).f1) from Kd.V_mk ul918_1 ge918_1); clear hva_ hvn_ hvc_ ge918_1 ul918_1; clear hcc918 hce918; have HR918_0 := Aside0.mk hi918_0; have HC918_0 := Aside0.mk hl918_0; clear hi918_0 hl918_0; have HR918_1 := Aside0.mk hi918_1; have HC918_1 := Aside0.mk hl918_1; clear hi918_1 hl918_1; replace p918 := eq_true p918; replace q918 := eq_true q918; obtain ⟨hcz20_0, hcz20_1, hcz20_2, hcz20_3, hcz20_4, hcz20_5, hcz20_6, hfz20_0, hfz20_1, hfz20_2, hfz20_3, hfz20_4, hfz20_5, hfz20_6⟩ := blkc7_ BK915.out))
     refine bodyPost_ret (results_ct rfl _ _ gb915 27 #[.int .i64 0, .int .i64 0, .int .i64 0, .int .i64 0, .int .i64 0, .int .i64 0, .slice none 0 0] (0, 0) _ rfl (by (with_reducible repeat (first | refine blk_drewN ?_ _ | refine blk_drew ?_ | refine blk_alloc ?_ _)); refine blk_put (cs := #[.int .i64 0, .int .i64 0, .int .i64 0, .int .i64 0, .int .i64 0, .int .i64 0, .slice none 0 0]) ?_ 6 _ rfl; (with_reducible repeat (first | refine blk_drewN ?_ _ | refine blk_drew ?_ | refine blk_alloc ?_ _)); refine blk_put (cs := #[.int .i64 0, .int .i64 0, .int .i64 0, .int .i64 0, .int .i64 0, .int .i64 0, .slice none 0 0]) ?_ 5 _ rfl; (with_reducible repeat (first | refine blk_drewN ?_ _ | refine blk_drew ?_ | refine blk_alloc ?_ _)); refine blk_put (cs := #[.int .i64 0, .int .i64 0, .int .i64 0, .int .i64 0, .int .i64 0, .int .i64 0, .slice none 0 0]) ?_ 4 _ rfl; (with_reducible repeat (first | refine blk_drewN ?_ _ | refine blk_drew ?_ | refine blk_alloc ?_ _)); refine blk_put (cs := #[.int .i64 0, .int .i64 0, .int .i64 0, .int .i64 0, .int .i64 0, .int .i64 0, .slice none 0 0]) ?_ 3 _ rfl; (with_reducible repeat (first | refine blk_drewN ?_ _ | refine blk_drew ?_ | refine blk_alloc ?_ _)); refine blk_put (cs := #[.int .i64 0, .int .i64 0, .int .i64 0, .int .i64 0, .int .i64 0, .int .i64 0, .slice none 0 0]) ?_ 2 _ rfl; (with_reducible repeat (first | refine blk_drewN ?_ _ | refine blk_drew ?_ | refine blk_alloc ?_ _)); refine blk_put (cs := #[.int .i64 0, .int .i64 0, .int .i64 0, .int .i64 0, .int .i64 0, .int .i64 0, .slice none 0 0]) ?_ 1 _ rfl; (with_reducible repeat (first | refine blk_drewN ?_ _ | refine blk_drew ?_ | refine blk_alloc ?_ _)); refine blk_put (cs := #[.int .i64 0, .int .i64 0, .int .i64 0, .int .i64 0, .int .i64 0, .int .i64 0, .slice none 0 0]) ?_ 0 _ rfl; (with_reducible repeat (first | refine blk_drewN ?_ _ | refine blk_drew ?_ | refine blk_alloc ?_ _)); exact BK915.out) Try.underlying27 rfl (by kernel_rfl)) rfl ?_
     exact ⟨_, rG_, (by first | exact Kd.V_nil _ _ _ _ _), hS_⟩
    ·rw [if_neg c13] at H
     have c13b0 : decide (t917 < (((rd_T88 l0_2 t916).f0).length : Int)) = false := decide_eq_false c13
     clear c13
     obtain ⟨ji21, hji21⟩ : ∃ j_ : Int, (wrap64 (t917 - (((rd_T88 l0_2 t916).f0).length : Int))) = j_ := ⟨_, rfl⟩
     replace H : (if 0 ≤ (ji21) then (if (ji21) < (((rd_T88 l0_2 t916).f1).length : Int) then (some ((rd_T27 ((rd_T88 l0_2 t916).f1) (ji21)).f0, (rd_T27 ((rd_T88 l0_2 t916).f1) (ji21)).f1, (rd_T27 ((rd_T88 l0_2 t916).f1) (ji21)).f2, (rd_T27 ((rd_T88 l0_2 t916).f1) (ji21)).f3, (rd_T27 ((rd_T88 l0_2 t916).f1) (ji21)).f4, (rd_T27 ((rd_T88 l0_2 t916).f1) (ji21)).f5, (rd_T27 ((rd_T88 l0_2 t916).f1) (ji21)).f6, true)) else (none)) else (none)) = some (r1, r2, r3, r4, r5, r6, r7, r8) := by first | (rw [hji21] at H; exact H) | (simp only [hji21] at H ⊢; exact H)
     (try rw [hji21] at A3)
     have hji21w : (IntKind.i64.wrap (t917 - (((rd_T88 l0_2 t916).f0).length : Int))) = ji21 := (i64_w _).trans hji21
     by_cases c22 : 0 ≤ (ji21)
     ·rw [if_pos c22] at H
      have c22b0 : decide (0 ≤ (ji21)) = true := decide_eq_true c22
      clear c22
      by_cases c23 : (ji21) < (((rd_T88 l0_2 t916).f1).length : Int)
      ·rw [if_pos c23] at H
       have c23b0 : decide ((ji21) < (((rd_T88 l0_2 t916).f1).length : Int)) = true := decide_eq_true c23
       clear c23
       simp only [Option.some.injEq, Prod.mk.injEq] at H
       obtain ⟨rfl, rfl, rfl, rfl, rfl, rfl, rfl, rfl⟩ := H
       go_enter Try.func85, Try.ntmps85
       go_wp2_with (first | ((with_reducible refine gate_dst (N := 2) rfl ?_); refine box_event ?hg (N := 2) ?hd (cs := #[.slice A0_0 l0_0.length c0_0, .int .i64 a0_1, .slice A0_2 l0_2.length c0_2]) (t := 41) ?hr ?_; (case hd => rfl); (case hg => rfl); (case hr => first | (go_simp; done) | (go_simp; rfl)); intro gb914 hg w24 hbox hb; have n0_ := Aside0.mk (Kd.V_below (Kd.V_elderB (by (with_reducible repeat (first | apply Kd.V_alloc | apply Kd.V_drewN | apply Kd.V_drew)); exact HO0_2.out) gb914 (Nat.le_of_eq hg.symm)) hb); have n1_ := Aside0.mk (below_step hB_ hb); have n2_ := Aside0.mk (hbox); have n3_ := Aside0.mk ((sz_ hg (below_size hB_) : w.heap.size ≤ gb914)); have n4_ := Aside0.mk ((sz_ hg (below_size hB_) : w.heap.size ≤ gb914)); clear HO0_2; clear HB; have HO0_2 := n0_; have HB := n1_; have BK914 := n2_; have GW914 := n3_; have GE914 := n4_; clear n0_ n1_ n2_ n3_ n4_; clear hb hbox hg) | ((with_reducible refine gate_dst (N := 4) rfl ?_); refine box_event ?hg (N := 4) ?hd (cs := #[.int .i64 0, .int .i64 0, .int .i64 0, .int .i64 0, .int .i64 0, .int .i64 0, .slice none 0 0]) (t := 27) ?hr ?_; (case hd => rfl); (case hg => rfl); (case hr => first | (go_simp; done) | (go_simp; rfl)); intro gb915 hg w25 hbox hb; have n0_ := Aside0.mk (Kd.V_below (Kd.V_elderB (by (with_reducible repeat (first | apply Kd.V_alloc | apply Kd.V_drewN | apply Kd.V_drew)); exact HO0_2.out) gb915 (Nat.le_of_eq hg.symm)) hb); have n1_ := Aside0.mk (blk_below (g := gb914) (o := .cells #[.slice A0_0 l0_0.length c0_0, .int .i64 a0_1, .slice A0_2 l0_2.length c0_2] 41 (0, 0)) bK914_ hb); have n2_ := Aside0.mk (below_step hS_ hb); have n3_ := Aside0.mk (hbox); have n4_ := Aside0.mk ((sz_ hg (below_size hS_) : w.heap.size ≤ gb915)); have n5_ := Aside0.mk ((sz_ hg (below_size hS_) : w.heap.size ≤ gb915)); have n6_ := Aside0.mk ((by rw [hg]; exact Nat.ne_of_lt (blk_lt (g := gb914) (o := .cells #[.slice A0_0 l0_0.length c0_0, .int .i64 a0_1, .slice A0_2 l0_2.length c0_2] 41 (0, 0)) bK914_) : gb914 ≠ gb915)); have n7_ := Aside0.mk ((by rw [hg]; exact Nat.ne_of_gt (blk_lt (g := gb914) (o := .cells #[.slice A0_0 l0_0.length c0_0, .int .i64 a0_1, .slice A0_2 l0_2.length c0_2] 41 (0, 0)) bK914_) : gb915 ≠ gb914)); clear HO0_2; clear BK914; clear HB; have HO0_2 := n0_; have BK914 := n1_; have HB := n2_; have BK915 := n3_; have GW915 := n4_; have GE915 := n5_; have NB914_915 := n6_; have NB915_914 := n7_; clear n0_ n1_ n2_ n3_ n4_ n5_ n6_ n7_; clear hb hbox hg; have hnb26 := NB914_915.out; have hnc26 := NB915_914.out; obtain ⟨hcz27_0, hcz27_1, hcz27_2, hfz27_0, hfz27_1, hfz27_2⟩ := blkc3_ BK914.out) | ((with_reducible refine gate_callee (f := 83) rfl ?_); refine gL_ (some 12) Try.func83 #[.agg #[.slice A0_0 l0_0.length c0_0, .int .i64 a0_1, .slice A0_2 l0_2.length c0_2], .int .i64 a1] ?_; (with_reducible refine (spec_l2Place.calls k _ _ l0_0 a0_1 _ _ l0_2 a1 t916 t917 _ ?side1 ?side2 ?side3 ?side4 A3.out).mono ?_); (case side1 => exact cHR0_0_); (case side2 => exact HC0_0.out); (case side3 => repeat (first | exact (Kd.V_reads' HO0_2.out).2.2 | (with_reducible refine Kd.C_alloc ?_ _) | (with_reducible refine Kd.C_drewN ?_ _) | (with_reducible refine Kd.C_drew ?_))); (case side4 => exact (Kd.V_reads' HO0_2.out).2.1); rintro e w28 ⟨rfl, hb⟩; refine ⟨_, rfl, ?_⟩; have n0_ := Aside0.mk (Kd.V_below (by (with_reducible repeat (first | apply Kd.V_alloc | apply Kd.V_drewN | apply Kd.V_drew)); exact HO0_2.out) hb); have n1_ := Aside0.mk (blk_below (g := gb914) (o := .cells #[.slice A0_0 l0_0.length c0_0, .int .i64 a0_1, .slice A0_2 l0_2.length c0_2] 41 (0, 0)) bK914_ hb); have n2_ := Aside0.mk (blk_below (g := gb915) (o := .cells #[.int .i64 0, .int .i64 0, .int .i64 0, .int .i64 0, .int .i64 0, .int .i64 0, .slice none 0 0] 27 (0, 0)) bK915_ hb); have n3_ := Aside0.mk (below_step hS_ hb); clear HO0_2; clear BK914; clear BK915; clear HB; have HO0_2 := n0_; have BK914 := n1_; have BK915 := n2_; have HB := n3_; clear n0_ n1_ n2_ n3_; (try clear hb); (try clear hb2); (try clear hk); (try clear hi); obtain ⟨hcz29_0, hcz29_1, hcz29_2, hfz29_0, hfz29_1, hfz29_2⟩ := blkc3_ BK914.out; have p918 : 0 ≤ (t916 : Int) := oD_; have q918 : t916 < (l0_2.length : Int) := oD_; obtain ⟨ad918, A918_0, c918_0, A918_1, c918_1, e918, hx918_0, hx918_1, hx918_2, hx918_3, hx918_4, hx918_5, hl918_0, hi918_0, hl918_1, hi918_1⟩ := at_T88 (Kd.V_reads' HO0_2.out).2.2 t916 p918 q918; cases e918; obtain ⟨ce918, hce918, hMe918, hcc918⟩ := Kd.V_get HO0_2.out z88 t916 p918 (by first | exact q918 | exact oD_ | (have e_ := (Kd.V_reads' HO0_2.out).1; omega)); obtain ⟨ua918_0, uc918_0, ua918_1, uc918_1, rfl, ul918_0, ge918_0, ul918_1, ge918_1⟩ := k88_openF hMe918; have hv918_0 := hcc918 0 _ rfl; rw [Nat.add_zero] at hv918_0; replace hv918_0 := Option.some.inj (hv918_0.symm.trans hx918_0); injection hv918_0 with hva_ hvn_ hvc_; rw [hva_] at ge918_0; rw [hvc_] at ul918_0; have HL918_0 := Aside0.mk (show Kd.V k95 95 _ w.heap.size _ _ ((rd_T88 l0_2 t916).f0) from Kd.V_mk ul918_0 ge918_0); clear hva_ hvn_ hvc_ ge918_0 ul918_0; have hv918_1 := hcc918 1 _ rfl; rw [add_field _ _ 1 (by omega)] at hv918_1; replace hv918_1 := Option.some.inj (hv918_1.symm.trans hx918_1); injection hv918_1 with hva_ hvn_ hvc_; rw [hva_] at ge918_1; rw [hvc_] at ul918_1; have HL918_1 := Aside0.mk (show Kd.V k27 27 _ w.heap.size _ _ ((rd_T88 l0_2 t916).f1) from Kd.V_mk ul918_1 ge918_1); clear hva_ hvn_ hvc_ ge918_1 ul918_1; clear hcc918 hce918; have HR918_0 := Aside0.mk hi918_0; have HC918_0 := Aside0.mk hl918_0; clear hi918_0 hl918_0; have HR918_1 := Aside0.mk hi918_1; have HC918_1 := Aside0.mk hl918_1; clear hi918_1 hl918_1; replace p918 := eq_true p918; replace q918 := eq_true q918; have p919 : 0 ≤ (t916 : Int) := oD_; have q919 : t916 < (l0_2.length : Int) := oD_; obtain ⟨ad919, A919_0, c919_0, A919_1, c919_1, e919, hx919_0, hx919_1, hx919_2, hx919_3, hx919_4, hx919_5, hl919_0, hi919_0, hl919_1, hi919_1⟩ := at_T88 (Kd.V_reads' HO0_2.out).2.2 t916 p919 q919; obtain rfl : ad918 = ad919 := (by injection e919); obtain ⟨ce919, hce919, hMe919, hcc919⟩ := Kd.V_get HO0_2.out z88 t916 p919 (by first | exact q919 | exact oD_ | (have e_ := (Kd.V_reads' HO0_2.out).1; omega)); obtain ⟨ua919_0, uc919_0, ua919_1, uc919_1, rfl, ul919_0, ge919_0, ul919_1, ge919_1⟩ := k88_openF hMe919; have hv919_0 := hcc919 0 _ rfl; rw [Nat.add_zero] at hv919_0; replace hv919_0 := Option.some.inj (hv919_0.symm.trans hx919_0); injection hv919_0 with hva_ hvn_ hvc_; rw [hva_] at ge919_0; rw [hvc_] at ul919_0; have HL919_0 := Aside0.mk (show Kd.V k95 95 _ w.heap.size _ _ ((rd_T88 l0_2 t916).f0) from Kd.V_mk ul919_0 ge919_0); clear hva_ hvn_ hvc_ ge919_0 ul919_0; have hv919_1 := hcc919 1 _ rfl; rw [add_field _ _ 1 (by omega)] at hv919_1; replace hv919_1 := Option.some.inj (hv919_1.symm.trans hx919_1); injection hv919_1 with hva_ hvn_ hvc_; rw [hva_] at ge919_1; rw [hvc_] at ul919_1; have HL919_1 := Aside0.mk (show Kd.V k27 27 _ w.heap.size _ _ ((rd_T88 l0_2 t916).f1) from Kd.V_mk ul919_1 ge919_1); clear hva_ hvn_ hvc_ ge919_1 ul919_1; clear hcc919 hce919; have HR919_0 := Aside0.mk hi919_0; have HC919_0 := Aside0.mk hl919_0; clear hi919_0 hl919_0; have HR919_1 := Aside0.mk hi919_1; have HC919_1 := Aside0.mk hl919_1; clear hi919_1 hl919_1; replace p919 := eq_true p919; replace q919 := eq_true q919; have ea_ := Option.some.inj (hx918_0.symm.trans hx919_0); injection ea_ with ea_ en_ ec_; subst ea_; subst ec_; clear en_; have ea_ := Option.some.inj (hx918_1.symm.trans hx919_1); injection ea_ with ea_ en_ ec_; subst ea_; subst ec_; clear en_; have p920 : 0 ≤ ((ji21) : Int) := oD_; have q920 : (ji21) < (((rd_T88 l0_2 t916).f1).length : Int) := oD_; obtain ⟨ad920, A920_6, c920_6, e920, hx920_0, hx920_1, hx920_2, hx920_3, hx920_4, hx920_5, hx920_6, hl920_6, hi920_6⟩ := at_T27 (by repeat (first | (with_reducible exact HR919_1.out) | (with_reducible refine Kd.C_alloc ?_ _) | (with_reducible refine Kd.C_drewN ?_ _) | (with_reducible refine Kd.C_drew ?_) | exact HR919_1.out)) (ji21) p920 q920; cases e920; obtain ⟨ce920, hce920, hMe920, hcc920⟩ := Kd.V_get HL919_1.out z27 (ji21) p920 (by first | exact q920 | exact oD_ | (have e_ := (Kd.V_reads' HL919_1.out).1; omega)); obtain ⟨ua920_6, uc920_6, rfl, ul920_6, ge920_6⟩ := k27_openF hMe920; have hv920_6 := hcc920 6 _ rfl; rw [add_field _ _ 6 (by omega)] at hv920_6; replace hv920_6 := Option.some.inj (hv920_6.symm.trans hx920_6); injection hv920_6 with hva_ hvn_ hvc_; rw [hva_] at ge920_6; rw [hvc_] at ul920_6; have HL920_6 := Aside0.mk (show Kd.V (Kd.int .i64) 2 _ w.heap.size _ _ ((rd_T27 ((rd_T88 l0_2 t916).f1) (ji21)).f6) from Kd.V_mk ul920_6 ge920_6); clear hva_ hvn_ hvc_ ge920_6 ul920_6; clear hcc920 hce920; have HR920_6 := Aside0.mk hi920_6; have HC920_6 := Aside0.mk hl920_6; clear hi920_6 hl920_6; replace p920 := eq_true p920; replace q920 := eq_true q920; obtain ⟨hcz30_0, hcz30_1, hcz30_2, hcz30_3, hcz30_4, hcz30_5, hcz30_6, hfz30_0, hfz30_1, hfz30_2, hfz30_3, hfz30_4, hfz30_5, hfz30_6⟩ := blkc7_ BK915.out))
       refine bodyPost_ret (results_ct rfl _ _ gb915 27 #[.int .i64 ((rd_T27 ((rd_T88 l0_2 t916).f1) (ji21)).f0), .int .i64 ((rd_T27 ((rd_T88 l0_2 t916).f1) (ji21)).f1), .int .i64 ((rd_T27 ((rd_T88 l0_2 t916).f1) (ji21)).f2), .int .i64 ((rd_T27 ((rd_T88 l0_2 t916).f1) (ji21)).f3), .int .i64 ((rd_T27 ((rd_T88 l0_2 t916).f1) (ji21)).f4), .int .i64 ((rd_T27 ((rd_T88 l0_2 t916).f1) (ji21)).f5), .slice A920_6 ((rd_T27 ((rd_T88 l0_2 t916).f1) (ji21)).f6).length c920_6] (0, 0) _ rfl (by (with_reducible repeat (first | refine blk_drewN ?_ _ | refine blk_drew ?_ | refine blk_alloc ?_ _)); refine blk_put (cs := #[.int .i64 ((rd_T27 ((rd_T88 l0_2 t916).f1) (ji21)).f0), .int .i64 ((rd_T27 ((rd_T88 l0_2 t916).f1) (ji21)).f1), .int .i64 ((rd_T27 ((rd_T88 l0_2 t916).f1) (ji21)).f2), .int .i64 ((rd_T27 ((rd_T88 l0_2 t916).f1) (ji21)).f3), .int .i64 ((rd_T27 ((rd_T88 l0_2 t916).f1) (ji21)).f4), .int .i64 ((rd_T27 ((rd_T88 l0_2 t916).f1) (ji21)).f5), .slice none 0 0]) ?_ 6 _ rfl; (with_reducible repeat (first | refine blk_drewN ?_ _ | refine blk_drew ?_ | refine blk_alloc ?_ _)); refine blk_put (cs := #[.int .i64 ((rd_T27 ((rd_T88 l0_2 t916).f1) (ji21)).f0), .int .i64 ((rd_T27 ((rd_T88 l0_2 t916).f1) (ji21)).f1), .int .i64 ((rd_T27 ((rd_T88 l0_2 t916).f1) (ji21)).f2), .int .i64 ((rd_T27 ((rd_T88 l0_2 t916).f1) (ji21)).f3), .int .i64 ((rd_T27 ((rd_T88 l0_2 t916).f1) (ji21)).f4), .int .i64 0, .slice none 0 0]) ?_ 5 _ rfl; (with_reducible repeat (first | refine blk_drewN ?_ _ | refine blk_drew ?_ | refine blk_alloc ?_ _)); refine blk_put (cs := #[.int .i64 ((rd_T27 ((rd_T88 l0_2 t916).f1) (ji21)).f0), .int .i64 ((rd_T27 ((rd_T88 l0_2 t916).f1) (ji21)).f1), .int .i64 ((rd_T27 ((rd_T88 l0_2 t916).f1) (ji21)).f2), .int .i64 ((rd_T27 ((rd_T88 l0_2 t916).f1) (ji21)).f3), .int .i64 0, .int .i64 0, .slice none 0 0]) ?_ 4 _ rfl; (with_reducible repeat (first | refine blk_drewN ?_ _ | refine blk_drew ?_ | refine blk_alloc ?_ _)); refine blk_put (cs := #[.int .i64 ((rd_T27 ((rd_T88 l0_2 t916).f1) (ji21)).f0), .int .i64 ((rd_T27 ((rd_T88 l0_2 t916).f1) (ji21)).f1), .int .i64 ((rd_T27 ((rd_T88 l0_2 t916).f1) (ji21)).f2), .int .i64 0, .int .i64 0, .int .i64 0, .slice none 0 0]) ?_ 3 _ rfl; (with_reducible repeat (first | refine blk_drewN ?_ _ | refine blk_drew ?_ | refine blk_alloc ?_ _)); refine blk_put (cs := #[.int .i64 ((rd_T27 ((rd_T88 l0_2 t916).f1) (ji21)).f0), .int .i64 ((rd_T27 ((rd_T88 l0_2 t916).f1) (ji21)).f1), .int .i64 0, .int .i64 0, .int .i64 0, .int .i64 0, .slice none 0 0]) ?_ 2 _ rfl; (with_reducible repeat (first | refine blk_drewN ?_ _ | refine blk_drew ?_ | refine blk_alloc ?_ _)); refine blk_put (cs := #[.int .i64 ((rd_T27 ((rd_T88 l0_2 t916).f1) (ji21)).f0), .int .i64 0, .int .i64 0, .int .i64 0, .int .i64 0, .int .i64 0, .slice none 0 0]) ?_ 1 _ rfl; (with_reducible repeat (first | refine blk_drewN ?_ _ | refine blk_drew ?_ | refine blk_alloc ?_ _)); refine blk_put (cs := #[.int .i64 0, .int .i64 0, .int .i64 0, .int .i64 0, .int .i64 0, .int .i64 0, .slice none 0 0]) ?_ 0 _ rfl; (with_reducible repeat (first | refine blk_drewN ?_ _ | refine blk_drew ?_ | refine blk_alloc ?_ _)); exact BK915.out) Try.underlying27 rfl (by kernel_rfl)) rfl ?_
       exact ⟨_, by first | rfl | (simp [errW_none, errW_some] <;> rfl) | (simp only [← hji21]; first | rfl | (simp [errW_none, errW_some] <;> rfl)) | (simp [*, errW_none, errW_some] <;> rfl), by (with_reducible repeat (first | apply Kd.V_alloc | apply Kd.V_drewN | apply Kd.V_drew)); exact Kd.V_mono (Kd.V_far (p := ⟨gb915, 6, none⟩) (Kd.V_far (p := ⟨gb915, 5, none⟩) (Kd.V_far (p := ⟨gb915, 4, none⟩) (Kd.V_far (p := ⟨gb915, 3, none⟩) (Kd.V_far (p := ⟨gb915, 2, none⟩) (Kd.V_far (p := ⟨gb915, 1, none⟩) (Kd.V_far (p := ⟨gb915, 0, none⟩) (Kd.V_mono HL920_6.out (fun k_ hk => (⟨hk, hk.2⟩ : _ ∧ k_ ≠ gb915))) (fun _ hk => hk.2) (.int .i64 ((rd_T27 ((rd_T88 l0_2 t916).f1) (ji21)).f0))) (fun _ hk => hk.2) (.int .i64 ((rd_T27 ((rd_T88 l0_2 t916).f1) (ji21)).f1))) (fun _ hk => hk.2) (.int .i64 ((rd_T27 ((rd_T88 l0_2 t916).f1) (ji21)).f2))) (fun _ hk => hk.2) (.int .i64 ((rd_T27 ((rd_T88 l0_2 t916).f1) (ji21)).f3))) (fun _ hk => hk.2) (.int .i64 ((rd_T27 ((rd_T88 l0_2 t916).f1) (ji21)).f4))) (fun _ hk => hk.2) (.int .i64 ((rd_T27 ((rd_T88 l0_2 t916).f1) (ji21)).f5))) (fun _ hk => hk.2) (.slice A920_6 ((rd_T27 ((rd_T88 l0_2 t916).f1) (ji21)).f6).length c920_6)) (fun _ hk => hk.1.1.1), hS_⟩
      ·rw [if_neg c23] at H
       exact absurd H (by simp)
     ·rw [if_neg c22] at H
      exact absurd H (by simp)
   ·rw [if_neg c12] at H
    exact absurd H (by simp)
  ·rw [if_neg c11] at H
   exact absurd H (by simp)
/-! ### spec_ConstOf: function 47 -/
def spec_ConstOf.f (k : Nat) (l0_0 : List Int) (a0_1 : Int) (l0_2 : List (S88)) (a1 : Int) : Option (Int × Bool) := (spec_l9Inst.f k l0_0 a0_1 l0_2 a1).bind fun bt922 => (if bt922.2.2.2.2.2.2.2 = true then (if bt922.1 = 21 then (some (bt922.2.2.2.2.2.1, true)) else (some (0, false))) else (some (0, false)))
theorem spec_ConstOf.mono : ∀ a0 a1 a2 a3 k, LeO (spec_ConstOf.f k a0 a1 a2 a3) (spec_ConstOf.f (k + 1) a0 a1 a2 a3) := by
 intro a0 a1 a2 a3 k
 unfold spec_ConstOf.f
 repeat' first
   | (with_reducible exact spec_l9Inst.mono _ _ _ _ _)
   | (with_reducible exact LeO.refl _)
   | (with_reducible exact LeO.none _)
   | (with_reducible refine LeO.ite ?_ ?_)
   | (with_reducible refine LeO.bind ?_ (fun _ => ?_))
   | exact spec_l9Inst.mono _ _ _ _ _
   | exact LeO.none _
   | refine LeO.ite ?_ ?_
   | refine LeO.bind ?_ (fun _ => ?_)
set_option maxHeartbeats 8000000 in
set_option maxRecDepth 100000 in
theorem spec_ConstOf.calls (k : Nat) (A0_0 : Option Addr) (c0_0 : Nat) (l0_0 : List Int) (a0_1 : Int) (A0_2 : Option Addr) (c0_2 : Nat) (l0_2 : List (S88)) (a1 : Int) (r1 : Int) (r2 : Bool) (w : World) (hr0_0 : Kd.C (Kd.int .i64) w A0_0 l0_0.length l0_0) (hc0_0 : l0_0.length ≤ c0_0) (hr0_2 : Kd.C k88 w A0_2 l0_2.length l0_2) (hc0_2 : l0_2.length ≤ c0_2) (h : spec_ConstOf.f k l0_0 a0_1 l0_2 a1 = some (r1, r2)) :
  Calls Try.prog 47 #[.agg #[.slice A0_0 l0_0.length c0_0, .int .i64 a0_1, .slice A0_2 l0_2.length c0_2], .int .i64 a1] w fun e w' => e = .returned (.tuple #[.int .i64 r1, .bool r2]) ∧ Below w.heap.size w w' := by
 have hu41 := Try.underlying41
 have hu27 := Try.underlying27
 have HR0_0 := Aside0.mk hr0_0
 have HC0_0 := Aside0.mk hc0_0
 clear hr0_0 hc0_0
 have HR0_2 := Aside0.mk hr0_2
 have HC0_2 := Aside0.mk hc0_2
 clear hr0_2 hc0_2
 have HB := Aside0.mk (Below.refl w.heap.size w)
 have H : ((spec_l9Inst.f k l0_0 a0_1 l0_2 a1).bind fun bt922 => (if bt922.2.2.2.2.2.2.2 = true then (if bt922.1 = 21 then (some (bt922.2.2.2.2.2.1, true)) else (some (0, false))) else (some (0, false)))) = some (r1, r2) := h
 clear h
 replace H := Option.bind_eq_some_iff.mp H
 obtain ⟨⟨t922, t923, t924, t925, t926, t927, t928, t931⟩, A30, H⟩ := H
 replace H : (if t931 = true then (if t922 = 21 then (some (t927, true)) else (some (0, false))) else (some (0, false))) = some (r1, r2) := H
 have A3 := Aside0.mk A30
 clear A30
 by_cases c4 : t931 = true
 ·subst c4
  have H1 := (if_pos rfl).symm.trans H
  clear H
  have H := H1
  clear H1
  by_cases c5 : t922 = 21
  ·rw [if_pos c5] at H
   have c5b0 : (t922 == 21) = true := beq_iff_eq.mpr c5
   have c5b1 : (t922 != 21) = false := bne_eq_false_iff_eq.mpr c5
   clear c5
   simp only [Option.some.injEq, Prod.mk.injEq] at H
   obtain ⟨rfl, rfl⟩ := H
   go_enter Try.func47, Try.ntmps47
   go_wp2_with (first | ((with_reducible refine gate_dst (N := 2) rfl ?_); refine box_event ?hg (N := 2) ?hd (cs := #[.slice A0_0 l0_0.length c0_0, .int .i64 a0_1, .slice A0_2 l0_2.length c0_2]) (t := 41) ?hr ?_; (case hd => rfl); (case hg => rfl); (case hr => first | (go_simp; done) | (go_simp; rfl)); intro gb921 hg w6 hbox hb; have n0_ := Aside0.mk (below_step hB_ hb); have n1_ := Aside0.mk (hbox); have n2_ := Aside0.mk ((sz_ hg (below_size hB_) : w.heap.size ≤ gb921)); have n3_ := Aside0.mk ((sz_ hg (below_size hB_) : w.heap.size ≤ gb921)); clear HB; have HB := n0_; have BK921 := n1_; have GW921 := n2_; have GE921 := n3_; clear n0_ n1_ n2_ n3_; clear hb hbox hg; obtain ⟨hcz7_0, hcz7_1, hcz7_2, hfz7_0, hfz7_1, hfz7_2⟩ := blkc3_ BK921.out) | ((with_reducible refine gate_callee (f := 85) rfl ?_); refine gL_ (some 11) Try.func85 #[.agg #[.slice A0_0 l0_0.length c0_0, .int .i64 a0_1, .slice A0_2 l0_2.length c0_2], .int .i64 a1] ?_; (with_reducible refine (spec_l9Inst.calls k _ _ l0_0 a0_1 (fun k_ => k_ < w.heap.size) _ _ l0_2 a1 t922 t923 t924 t925 t926 t927 t928 true _ ?side1 ?side2 ?side3 A3.out).mono ?_); (case side1 => exact cHR0_0_); (case side2 => exact HC0_0.out); (case side3 => exact Kd.V_mk HC0_2.out (Kd.F_below (Kd.C_F k88_heap HR0_2.out) hS_)); rintro e w8 ⟨v929, rfl, ho0, hb⟩; refine ⟨_, rfl, ?_⟩; have n0_ := Aside0.mk (Kd.V_lower (Kd.V_mono (ok' := fun k_ => k_ ≠ gb921) ho0 (fun k_ hk_ => Or.elim hk_ (fun hs_ => fun e_ => Nat.not_le.2 hs_ (by rw [e_]; exact GW921.out)) (fun hn_ => (Kd.freshB (g := gb921) (o := .cells #[.slice A0_0 l0_0.length c0_0, .int .i64 a0_1, .slice A0_2 l0_2.length c0_2] 41 (0, 0)) bK921_ k_ hn_)))) (below_size hS_)); have n1_ := Aside0.mk (blk_below (g := gb921) (o := .cells #[.slice A0_0 l0_0.length c0_0, .int .i64 a0_1, .slice A0_2 l0_2.length c0_2] 41 (0, 0)) bK921_ hb); have n2_ := Aside0.mk (below_step hS_ hb); clear BK921; clear HB; have HO930 := n0_; have BK921 := n1_; have HB := n2_; clear n0_ n1_ n2_; (try clear hb); (try clear hb2); (try clear hk); (try clear hi); (try clear ho0)) | ((with_reducible refine gate_dst (N := 6) rfl ?_); refine box_event ?hg (N := 6) ?hd (cs := #[.int .i64 0, .int .i64 0, .int .i64 0, .int .i64 0, .int .i64 0, .int .i64 0, .slice none 0 0]) (t := 27) ?hr ?_; (case hd => rfl); (case hg => rfl); (case hr => first | (go_simp; done) | (go_simp; rfl)); intro gb932 hg w9 hbox hb; have n0_ := Aside0.mk (Kd.V_below (Kd.V_elderB (by (with_reducible repeat (first | apply Kd.V_alloc | apply Kd.V_drewN | apply Kd.V_drew)); exact HO930.out) gb932 (Nat.le_of_eq hg.symm)) hb); have n1_ := Aside0.mk (blk_below (g := gb921) (o := .cells #[.slice A0_0 l0_0.length c0_0, .int .i64 a0_1, .slice A0_2 l0_2.length c0_2] 41 (0, 0)) bK921_ hb); have n2_ := Aside0.mk (below_step hS_ hb); have n3_ := Aside0.mk (hbox); have n4_ := Aside0.mk ((sz_ hg (below_size hS_) : w.heap.size ≤ gb932)); have n5_ := Aside0.mk ((sz_ hg (below_size hS_) : w.heap.size ≤ gb932)); have n6_ := Aside0.mk ((by rw [hg]; exact Nat.ne_of_lt (blk_lt (g := gb921) (o := .cells #[.slice A0_0 l0_0.length c0_0, .int .i64 a0_1, .slice A0_2 l0_2.length c0_2] 41 (0, 0)) bK921_) : gb921 ≠ gb932)); have n7_ := Aside0.mk ((by rw [hg]; exact Nat.ne_of_gt (blk_lt (g := gb921) (o := .cells #[.slice A0_0 l0_0.length c0_0, .int .i64 a0_1, .slice A0_2 l0_2.length c0_2] 41 (0, 0)) bK921_) : gb932 ≠ gb921)); clear HO930; clear BK921; clear HB; have HO930 := n0_; have BK921 := n1_; have HB := n2_; have BK932 := n3_; have GW932 := n4_; have GE932 := n5_; have NB921_932 := n6_; have NB932_921 := n7_; clear n0_ n1_ n2_ n3_ n4_ n5_ n6_ n7_; clear hb hbox hg; have hnb10 := NB932_921.out; have hnc10 := NB921_932.out; obtain ⟨hcz11_0, hcz11_1, hcz11_2, hcz11_3, hcz11_4, hcz11_5, hcz11_6, hfz11_0, hfz11_1, hfz11_2, hfz11_3, hfz11_4, hfz11_5, hfz11_6⟩ := blkc7_ BK932.out; obtain ⟨Ao12, co12, eo12⟩ := Kd.V_slice HO930.out; subst eo12))
   go_ret2
   exact ⟨rG_, hS_⟩
  ·rw [if_neg c5] at H
   have c5b0 : (t922 == 21) = false := beq_eq_false_iff_ne.mpr c5
   have c5b1 : (t922 != 21) = true := bne_iff_ne.mpr c5
   simp only [Option.some.injEq, Prod.mk.injEq] at H
   obtain ⟨rfl, rfl⟩ := H
   go_enter Try.func47, Try.ntmps47
   go_wp2_with (first | ((with_reducible refine gate_dst (N := 2) rfl ?_); refine box_event ?hg (N := 2) ?hd (cs := #[.slice A0_0 l0_0.length c0_0, .int .i64 a0_1, .slice A0_2 l0_2.length c0_2]) (t := 41) ?hr ?_; (case hd => rfl); (case hg => rfl); (case hr => first | (go_simp; done) | (go_simp; rfl)); intro gb921 hg w13 hbox hb; have n0_ := Aside0.mk (below_step hB_ hb); have n1_ := Aside0.mk (hbox); have n2_ := Aside0.mk ((sz_ hg (below_size hB_) : w.heap.size ≤ gb921)); have n3_ := Aside0.mk ((sz_ hg (below_size hB_) : w.heap.size ≤ gb921)); clear HB; have HB := n0_; have BK921 := n1_; have GW921 := n2_; have GE921 := n3_; clear n0_ n1_ n2_ n3_; clear hb hbox hg; obtain ⟨hcz14_0, hcz14_1, hcz14_2, hfz14_0, hfz14_1, hfz14_2⟩ := blkc3_ BK921.out) | ((with_reducible refine gate_callee (f := 85) rfl ?_); refine gL_ (some 11) Try.func85 #[.agg #[.slice A0_0 l0_0.length c0_0, .int .i64 a0_1, .slice A0_2 l0_2.length c0_2], .int .i64 a1] ?_; (with_reducible refine (spec_l9Inst.calls k _ _ l0_0 a0_1 (fun k_ => k_ < w.heap.size) _ _ l0_2 a1 t922 t923 t924 t925 t926 t927 t928 true _ ?side1 ?side2 ?side3 A3.out).mono ?_); (case side1 => exact cHR0_0_); (case side2 => exact HC0_0.out); (case side3 => exact Kd.V_mk HC0_2.out (Kd.F_below (Kd.C_F k88_heap HR0_2.out) hS_)); rintro e w15 ⟨v929, rfl, ho0, hb⟩; refine ⟨_, rfl, ?_⟩; have n0_ := Aside0.mk (Kd.V_lower (Kd.V_mono (ok' := fun k_ => k_ ≠ gb921) ho0 (fun k_ hk_ => Or.elim hk_ (fun hs_ => fun e_ => Nat.not_le.2 hs_ (by rw [e_]; exact GW921.out)) (fun hn_ => (Kd.freshB (g := gb921) (o := .cells #[.slice A0_0 l0_0.length c0_0, .int .i64 a0_1, .slice A0_2 l0_2.length c0_2] 41 (0, 0)) bK921_ k_ hn_)))) (below_size hS_)); have n1_ := Aside0.mk (blk_below (g := gb921) (o := .cells #[.slice A0_0 l0_0.length c0_0, .int .i64 a0_1, .slice A0_2 l0_2.length c0_2] 41 (0, 0)) bK921_ hb); have n2_ := Aside0.mk (below_step hS_ hb); clear BK921; clear HB; have HO930 := n0_; have BK921 := n1_; have HB := n2_; clear n0_ n1_ n2_; (try clear hb); (try clear hb2); (try clear hk); (try clear hi); (try clear ho0)) | ((with_reducible refine gate_dst (N := 6) rfl ?_); refine box_event ?hg (N := 6) ?hd (cs := #[.int .i64 0, .int .i64 0, .int .i64 0, .int .i64 0, .int .i64 0, .int .i64 0, .slice none 0 0]) (t := 27) ?hr ?_; (case hd => rfl); (case hg => rfl); (case hr => first | (go_simp; done) | (go_simp; rfl)); intro gb932 hg w16 hbox hb; have n0_ := Aside0.mk (Kd.V_below (Kd.V_elderB (by (with_reducible repeat (first | apply Kd.V_alloc | apply Kd.V_drewN | apply Kd.V_drew)); exact HO930.out) gb932 (Nat.le_of_eq hg.symm)) hb); have n1_ := Aside0.mk (blk_below (g := gb921) (o := .cells #[.slice A0_0 l0_0.length c0_0, .int .i64 a0_1, .slice A0_2 l0_2.length c0_2] 41 (0, 0)) bK921_ hb); have n2_ := Aside0.mk (below_step hS_ hb); have n3_ := Aside0.mk (hbox); have n4_ := Aside0.mk ((sz_ hg (below_size hS_) : w.heap.size ≤ gb932)); have n5_ := Aside0.mk ((sz_ hg (below_size hS_) : w.heap.size ≤ gb932)); have n6_ := Aside0.mk ((by rw [hg]; exact Nat.ne_of_lt (blk_lt (g := gb921) (o := .cells #[.slice A0_0 l0_0.length c0_0, .int .i64 a0_1, .slice A0_2 l0_2.length c0_2] 41 (0, 0)) bK921_) : gb921 ≠ gb932)); have n7_ := Aside0.mk ((by rw [hg]; exact Nat.ne_of_gt (blk_lt (g := gb921) (o := .cells #[.slice A0_0 l0_0.length c0_0, .int .i64 a0_1, .slice A0_2 l0_2.length c0_2] 41 (0, 0)) bK921_) : gb932 ≠ gb921)); clear HO930; clear BK921; clear HB; have HO930 := n0_; have BK921 := n1_; have HB := n2_; have BK932 := n3_; have GW932 := n4_; have GE932 := n5_; have NB921_932 := n6_; have NB932_921 := n7_; clear n0_ n1_ n2_ n3_ n4_ n5_ n6_ n7_; clear hb hbox hg; have hnb17 := NB932_921.out; have hnc17 := NB921_932.out; obtain ⟨hcz18_0, hcz18_1, hcz18_2, hcz18_3, hcz18_4, hcz18_5, hcz18_6, hfz18_0, hfz18_1, hfz18_2, hfz18_3, hfz18_4, hfz18_5, hfz18_6⟩ := blkc7_ BK932.out; obtain ⟨Ao19, co19, eo19⟩ := Kd.V_slice HO930.out; subst eo19))
   go_ret2
   exact ⟨rG_, hS_⟩
 ·replace c4 := Bool.eq_false_iff.mpr c4
  subst c4
  have H1 := (if_neg (show ¬ (false = true) by decide)).symm.trans H
  clear H
  have H := H1
  clear H1
  simp only [Option.some.injEq, Prod.mk.injEq] at H
  obtain ⟨rfl, rfl⟩ := H
  go_enter Try.func47, Try.ntmps47
  go_wp2_with (first | ((with_reducible refine gate_dst (N := 2) rfl ?_); refine box_event ?hg (N := 2) ?hd (cs := #[.slice A0_0 l0_0.length c0_0, .int .i64 a0_1, .slice A0_2 l0_2.length c0_2]) (t := 41) ?hr ?_; (case hd => rfl); (case hg => rfl); (case hr => first | (go_simp; done) | (go_simp; rfl)); intro gb921 hg w20 hbox hb; have n0_ := Aside0.mk (below_step hB_ hb); have n1_ := Aside0.mk (hbox); have n2_ := Aside0.mk ((sz_ hg (below_size hB_) : w.heap.size ≤ gb921)); have n3_ := Aside0.mk ((sz_ hg (below_size hB_) : w.heap.size ≤ gb921)); clear HB; have HB := n0_; have BK921 := n1_; have GW921 := n2_; have GE921 := n3_; clear n0_ n1_ n2_ n3_; clear hb hbox hg; obtain ⟨hcz21_0, hcz21_1, hcz21_2, hfz21_0, hfz21_1, hfz21_2⟩ := blkc3_ BK921.out) | ((with_reducible refine gate_callee (f := 85) rfl ?_); refine gL_ (some 11) Try.func85 #[.agg #[.slice A0_0 l0_0.length c0_0, .int .i64 a0_1, .slice A0_2 l0_2.length c0_2], .int .i64 a1] ?_; (with_reducible refine (spec_l9Inst.calls k _ _ l0_0 a0_1 (fun k_ => k_ < w.heap.size) _ _ l0_2 a1 t922 t923 t924 t925 t926 t927 t928 false _ ?side1 ?side2 ?side3 A3.out).mono ?_); (case side1 => exact cHR0_0_); (case side2 => exact HC0_0.out); (case side3 => exact Kd.V_mk HC0_2.out (Kd.F_below (Kd.C_F k88_heap HR0_2.out) hS_)); rintro e w22 ⟨v929, rfl, ho0, hb⟩; refine ⟨_, rfl, ?_⟩; have n0_ := Aside0.mk (Kd.V_lower (Kd.V_mono (ok' := fun k_ => k_ ≠ gb921) ho0 (fun k_ hk_ => Or.elim hk_ (fun hs_ => fun e_ => Nat.not_le.2 hs_ (by rw [e_]; exact GW921.out)) (fun hn_ => (Kd.freshB (g := gb921) (o := .cells #[.slice A0_0 l0_0.length c0_0, .int .i64 a0_1, .slice A0_2 l0_2.length c0_2] 41 (0, 0)) bK921_ k_ hn_)))) (below_size hS_)); have n1_ := Aside0.mk (blk_below (g := gb921) (o := .cells #[.slice A0_0 l0_0.length c0_0, .int .i64 a0_1, .slice A0_2 l0_2.length c0_2] 41 (0, 0)) bK921_ hb); have n2_ := Aside0.mk (below_step hS_ hb); clear BK921; clear HB; have HO930 := n0_; have BK921 := n1_; have HB := n2_; clear n0_ n1_ n2_; (try clear hb); (try clear hb2); (try clear hk); (try clear hi); (try clear ho0)) | ((with_reducible refine gate_dst (N := 6) rfl ?_); refine box_event ?hg (N := 6) ?hd (cs := #[.int .i64 0, .int .i64 0, .int .i64 0, .int .i64 0, .int .i64 0, .int .i64 0, .slice none 0 0]) (t := 27) ?hr ?_; (case hd => rfl); (case hg => rfl); (case hr => first | (go_simp; done) | (go_simp; rfl)); intro gb932 hg w23 hbox hb; have n0_ := Aside0.mk (Kd.V_below (Kd.V_elderB (by (with_reducible repeat (first | apply Kd.V_alloc | apply Kd.V_drewN | apply Kd.V_drew)); exact HO930.out) gb932 (Nat.le_of_eq hg.symm)) hb); have n1_ := Aside0.mk (blk_below (g := gb921) (o := .cells #[.slice A0_0 l0_0.length c0_0, .int .i64 a0_1, .slice A0_2 l0_2.length c0_2] 41 (0, 0)) bK921_ hb); have n2_ := Aside0.mk (below_step hS_ hb); have n3_ := Aside0.mk (hbox); have n4_ := Aside0.mk ((sz_ hg (below_size hS_) : w.heap.size ≤ gb932)); have n5_ := Aside0.mk ((sz_ hg (below_size hS_) : w.heap.size ≤ gb932)); have n6_ := Aside0.mk ((by rw [hg]; exact Nat.ne_of_lt (blk_lt (g := gb921) (o := .cells #[.slice A0_0 l0_0.length c0_0, .int .i64 a0_1, .slice A0_2 l0_2.length c0_2] 41 (0, 0)) bK921_) : gb921 ≠ gb932)); have n7_ := Aside0.mk ((by rw [hg]; exact Nat.ne_of_gt (blk_lt (g := gb921) (o := .cells #[.slice A0_0 l0_0.length c0_0, .int .i64 a0_1, .slice A0_2 l0_2.length c0_2] 41 (0, 0)) bK921_) : gb932 ≠ gb921)); clear HO930; clear BK921; clear HB; have HO930 := n0_; have BK921 := n1_; have HB := n2_; have BK932 := n3_; have GW932 := n4_; have GE932 := n5_; have NB921_932 := n6_; have NB932_921 := n7_; clear n0_ n1_ n2_ n3_ n4_ n5_ n6_ n7_; clear hb hbox hg; have hnb24 := NB932_921.out; have hnc24 := NB921_932.out; obtain ⟨hcz25_0, hcz25_1, hcz25_2, hcz25_3, hcz25_4, hcz25_5, hcz25_6, hfz25_0, hfz25_1, hfz25_2, hfz25_3, hfz25_4, hfz25_5, hfz25_6⟩ := blkc7_ BK932.out; obtain ⟨Ao26, co26, eo26⟩ := Kd.V_slice HO930.out; subst eo26))
  go_ret2
  exact ⟨rG_, hS_⟩
/-! ### impl_within: function 91 -/
def impl_within.f (a0 : Int) (a1 : Int) (a2 : Int) : Option (Bool) := if a0 ≥ a1 then (some (decide (a0 ≤ a2))) else (some false)
set_option maxHeartbeats 8000000 in
set_option maxRecDepth 100000 in
theorem impl_within.calls (a0 : Int) (a1 : Int) (a2 : Int) (r : Bool) (w : World) (h : impl_within.f a0 a1 a2 = some r) :
  Calls Try.prog 91 #[.int .i64 a0, .int .i64 a1, .int .i64 a2] w fun e w' => e = .returned (.bool r) ∧ Drawn0 w w' := by
 have H : (if a0 ≥ a1 then (some (decide (a0 ≤ a2))) else (some false)) = some r := h
 clear h
 by_cases c4 : a0 ≥ a1
 ·rw [if_pos c4] at H
  have c4b0 : decide (a1 ≤ a0) = true := decide_eq_true c4
  clear c4
  obtain rfl := Option.some.inj H
  go_enter Try.func91, Try.ntmps91
  go_wp2
  go_ret
  exact ⟨rF_, by repeat (first | exact Drawn0.refl _ | apply Drawn0.step)⟩
 ·rw [if_neg c4] at H
  have c4b0 : decide (a1 ≤ a0) = false := decide_eq_false c4
  clear c4
  obtain rfl := Option.some.inj H
  go_enter Try.func91, Try.ntmps91
  go_wp2
  go_ret
  exact ⟨rF_, by repeat (first | exact Drawn0.refl _ | apply Drawn0.step)⟩
/-! ### impl_CountOf: function 43 -/
def impl_CountOf.l0 : Nat → Int → List (S88) → Int → Int → Option (Int)
 | 0, _, _, _, _ => none
 | k + 1, x3, x10, x11, x12 => if x12 < x11 then (if 0 ≤ x12 then (if x12 < (x10.length : Int) then (impl_CountOf.l0 k (wrap64 (x3 + (wrap64 ((((rd_T88 x10 x12).f0).length : Int) + (((rd_T88 x10 x12).f1).length : Int))))) x10 x11 (wrap64 (x12 + 1))) else (none)) else (none)) else (some x3)
def impl_CountOf.f (k : Nat) (l0_0 : List Int) (a0_1 : Int) (l0_2 : List (S88)) : Option (Int) := impl_CountOf.l0 k (l0_0.length : Int) l0_2 (l0_2.length : Int) 0
theorem impl_CountOf.mono_l : ∀ k, (∀ y0 y1 y2 y3, LeO (impl_CountOf.l0 k y0 y1 y2 y3) (impl_CountOf.l0 (k + 1) y0 y1 y2 y3))
 | 0 => fun _ _ _ _ r h => by simp [impl_CountOf.l0] at h
 | k + 1 => by
  have ih0 := impl_CountOf.mono_l k
  ·intro y0 y1 y2 y3
   unfold impl_CountOf.l0
   repeat' first
   | (with_reducible exact ih0 _ _ _ _)
   | (with_reducible exact LeO.refl _)
   | (with_reducible exact LeO.none _)
   | (with_reducible refine LeO.ite ?_ ?_)
   | (with_reducible refine LeO.bind ?_ (fun _ => ?_))
   | exact ih0 _ _ _ _
   | exact LeO.none _
   | refine LeO.ite ?_ ?_
   | refine LeO.bind ?_ (fun _ => ?_)
theorem impl_CountOf.mono : ∀ a0 a1 a2 k, LeO (impl_CountOf.f k a0 a1 a2) (impl_CountOf.f (k + 1) a0 a1 a2) := by
 intro a0 a1 a2 k
 have ih0 := impl_CountOf.mono_l k
 unfold impl_CountOf.f
 repeat' first
   | (with_reducible exact ih0 _ _ _ _)
   | (with_reducible exact LeO.refl _)
   | (with_reducible exact LeO.none _)
   | (with_reducible refine LeO.ite ?_ ?_)
   | (with_reducible refine LeO.bind ?_ (fun _ => ?_))
   | exact ih0 _ _ _ _
   | exact LeO.none _
   | refine LeO.ite ?_ ?_
   | refine LeO.bind ?_ (fun _ => ?_)
set_option maxHeartbeats 8000000 in
set_option maxRecDepth 100000 in
theorem impl_CountOf.calls (k : Nat) (A0_0 : Option Addr) (c0_0 : Nat) (l0_0 : List Int) (a0_1 : Int) (A0_2 : Option Addr) (c0_2 : Nat) (l0_2 : List (S88)) (r : Int) (w : World) (hr0_0 : Kd.C (Kd.int .i64) w A0_0 l0_0.length l0_0) (hc0_0 : l0_0.length ≤ c0_0) (hr0_2 : Kd.C k88 w A0_2 l0_2.length l0_2) (hc0_2 : l0_2.length ≤ c0_2) (h : impl_CountOf.f k l0_0 a0_1 l0_2 = some r) :
  Calls Try.prog 43 #[.agg #[.slice A0_0 l0_0.length c0_0, .int .i64 a0_1, .slice A0_2 l0_2.length c0_2]] w fun e w' => e = .returned (.int .i64 r) ∧ Below w.heap.size w w' := by
 have hu41 := Try.underlying41
 have hu88 := Try.underlying88
 have HR0_0 := Aside0.mk hr0_0
 have HC0_0 := Aside0.mk hc0_0
 clear hr0_0 hc0_0
 have HR0_2 := Aside0.mk hr0_2
 have HC0_2 := Aside0.mk hc0_2
 clear hr0_2 hc0_2
 have HB := Aside0.mk (Below.refl w.heap.size w)
 have H : (impl_CountOf.l0 k (l0_0.length : Int) l0_2 (l0_2.length : Int) 0) = some r := h
 clear h
 have H' := Aside0.mk H
 clear H
 go_enter Try.func43, Try.ntmps43
 go_wp2_with (first | ((with_reducible refine gate_dst (N := 1) rfl ?_); refine box_event ?hg (N := 1) ?hd (cs := #[.slice A0_0 l0_0.length c0_0, .int .i64 a0_1, .slice A0_2 l0_2.length c0_2]) (t := 41) ?hr ?_; (case hd => rfl); (case hg => rfl); (case hr => first | (go_simp; done) | (go_simp; rfl)); intro gb819 hg w2 hbox hb; have n0_ := Aside0.mk (below_step hB_ hb); have n1_ := Aside0.mk (hbox); have n2_ := Aside0.mk ((sz_ hg (below_size hB_) : w.heap.size ≤ gb819)); have n3_ := Aside0.mk ((sz_ hg (below_size hB_) : w.heap.size ≤ gb819)); clear HB; have HB := n0_; have BK819 := n1_; have GW819 := n2_; have GE819 := n3_; clear n0_ n1_ n2_ n3_; clear hb hbox hg; obtain ⟨hcz3_0, hcz3_1, hcz3_2, hfz3_0, hfz3_1, hfz3_2⟩ := blkc3_ BK819.out))
 go_loopg [3, 12] k (fun kq v3 v12 w' => ∃ (x3_1 : Int) (x12_1 : Int), v3 = .int .i64 x3_1 ∧ v12 = .int .i64 x12_1 ∧ Aside0 (impl_CountOf.l0 kq x3_1 l0_2 (l0_2.length : Int) x12_1 = some r) ∧ Aside0 (kq ≤ k) ∧ Aside0 (w'.heap[gb819]? = some (.cells #[(.slice A0_0 l0_0.length c0_0), .int .i64 a0_1, (.slice A0_2 l0_2.length c0_2)] 41 (0, 0))) ∧ Aside0 (Below w.heap.size w w'))
 case atStart => exact ⟨((l0_0.length : Int)), (0), rF_, rF_, H', ⟨Nat.le_refl _⟩, ⟨bK819_⟩, ⟨hS_⟩⟩
 case round =>
  clear H'
  try clear p2
  try clear hcz3_0 hcz3_1 hcz3_2 hfz3_0 hfz3_1 hfz3_2
  obtain ⟨x3_1, x12_1, rfl, rfl, HA, HK1, BK819, HB⟩ := hrel
  cases gk with
  | zero => exact absurd HA.out (by simp [impl_CountOf.l0])
  | succ k1 =>
   have H := HA.out
   clear HA
   simp only [impl_CountOf.l0] at H
   by_cases c4 : x12_1 < (l0_2.length : Int)
   ·rw [if_pos c4] at H
    have c4b0 : decide (x12_1 < (l0_2.length : Int)) = true := decide_eq_true c4
    clear c4
    by_cases c5 : 0 ≤ x12_1
    ·rw [if_pos c5] at H
     have c5b0 : decide (0 ≤ x12_1) = true := decide_eq_true c5
     clear c5
     by_cases c6 : x12_1 < (l0_2.length : Int)
     ·rw [if_pos c6] at H
      have c6b0 : decide (x12_1 < (l0_2.length : Int)) = true := decide_eq_true c6
      clear c6
      have H' := Aside0.mk H
      clear H
      have p820 : 0 ≤ (x12_1 : Int) := oD_
      have q820 : x12_1 < (l0_2.length : Int) := oD_
      obtain ⟨ad820, A820_0, c820_0, A820_1, c820_1, e820, hx820_0, hx820_1, hx820_2, hx820_3, hx820_4, hx820_5, hl820_0, hi820_0, hl820_1, hi820_1⟩ := at_T88 HR0_2.out x12_1 p820 q820
      cases e820
      replace hx820_0 := hx_ HB.out hx820_0
      replace hx820_1 := hx_ HB.out hx820_1
      replace hx820_2 := hx_ HB.out hx820_2
      replace hx820_3 := hx_ HB.out hx820_3
      replace hx820_4 := hx_ HB.out hx820_4
      replace hx820_5 := hx_ HB.out hx820_5
      have HR820_0 := Aside0.mk hi820_0
      have HC820_0 := Aside0.mk hl820_0
      clear hi820_0 hl820_0
      have HR820_1 := Aside0.mk hi820_1
      have HC820_1 := Aside0.mk hl820_1
      clear hi820_1 hl820_1
      replace p820 := eq_true p820
      replace q820 := eq_true q820
      go_wp2_with (first | ((with_reducible refine gate_dst (N := 5) rfl ?_); refine box_event ?hg (N := 5) ?hd (cs := #[.slice none 0 0, .slice none 0 0, .int .i64 0, .int .i64 0, .int .i64 0, .int .i64 0]) (t := 88) ?hr ?_; (case hd => rfl); (case hg => rfl); (case hr => first | (go_simp; done) | (go_simp; rfl)); intro gb821 hg w7 hbox hb; have n0_ := Aside0.mk (blk_below (g := gb819) (o := .cells #[.slice A0_0 l0_0.length c0_0, .int .i64 a0_1, .slice (some ad820) l0_2.length c0_2] 41 (0, 0)) bK819_ hb); have n1_ := Aside0.mk (below_step hS_ hb); have n2_ := Aside0.mk (hbox); have n3_ := Aside0.mk ((sz_ hg (below_size hS_) : w.heap.size ≤ gb821)); have n4_ := Aside0.mk ((sz_ hg (below_size hS_) : w.heap.size ≤ gb821)); have n5_ := Aside0.mk ((by rw [hg]; exact Nat.ne_of_lt (blk_lt (g := gb819) (o := .cells #[.slice A0_0 l0_0.length c0_0, .int .i64 a0_1, .slice (some ad820) l0_2.length c0_2] 41 (0, 0)) bK819_) : gb819 ≠ gb821)); have n6_ := Aside0.mk ((by rw [hg]; exact Nat.ne_of_gt (blk_lt (g := gb819) (o := .cells #[.slice A0_0 l0_0.length c0_0, .int .i64 a0_1, .slice (some ad820) l0_2.length c0_2] 41 (0, 0)) bK819_) : gb821 ≠ gb819)); clear BK819; clear HB; have BK819 := n0_; have HB := n1_; have BK821 := n2_; have GW821 := n3_; have GE821 := n4_; have NB819_821 := n5_; have NB821_819 := n6_; clear n0_ n1_ n2_ n3_ n4_ n5_ n6_; clear hb hbox hg; have hnb8 := NB821_819.out; have hnc8 := NB819_821.out; obtain ⟨hcz9_0, hcz9_1, hcz9_2, hcz9_3, hcz9_4, hcz9_5, hfz9_0, hfz9_1, hfz9_2, hfz9_3, hfz9_4, hfz9_5⟩ := blkc6_ BK821.out))
      go_roundg k1
      case measure => have := HK1.out; omega
      case rel => exact ⟨(wrap64 (x3_1 + (wrap64 ((((rd_T88 l0_2 x12_1).f0).length : Int) + (((rd_T88 l0_2 x12_1).f1).length : Int))))), (wrap64 (x12_1 + 1)), rF_, rF_, H', ⟨by have := HK1.out; omega⟩, ⟨fK819_⟩, ⟨hS_⟩⟩
     ·rw [if_neg c6] at H
      exact absurd H (by simp)
    ·rw [if_neg c5] at H
     exact absurd H (by simp)
   ·rw [if_neg c4] at H
    have c4b0 : decide (x12_1 < (l0_2.length : Int)) = false := decide_eq_false c4
    clear c4
    obtain rfl := Option.some.inj H
    go_wp2
    go_ret
    exact ⟨rG_, hS_⟩
/-! ### impl_isId: function 84 -/
def impl_isId.f (k : Nat) (l0_0 : List Int) (a0_1 : Int) (l0_2 : List (S88)) (a1 : Int) : Option (Bool) := (impl_CountOf.f k l0_0 a0_1 l0_2).bind fun t879 => ((impl_within.f a1 0 (wrap64 (t879 - 1))).bind fun t880 => (some t880))
theorem impl_isId.mono : ∀ a0 a1 a2 a3 k, LeO (impl_isId.f k a0 a1 a2 a3) (impl_isId.f (k + 1) a0 a1 a2 a3) := by
 intro a0 a1 a2 a3 k
 unfold impl_isId.f
 repeat' first
   | (with_reducible exact impl_CountOf.mono _ _ _ _)
   | (with_reducible exact LeO.refl _)
   | (with_reducible exact LeO.none _)
   | (with_reducible refine LeO.ite ?_ ?_)
   | (with_reducible refine LeO.bind ?_ (fun _ => ?_))
   | exact impl_CountOf.mono _ _ _ _
   | exact LeO.none _
   | refine LeO.ite ?_ ?_
   | refine LeO.bind ?_ (fun _ => ?_)
set_option maxHeartbeats 8000000 in
set_option maxRecDepth 100000 in
theorem impl_isId.calls (k : Nat) (A0_0 : Option Addr) (c0_0 : Nat) (l0_0 : List Int) (a0_1 : Int) (A0_2 : Option Addr) (c0_2 : Nat) (l0_2 : List (S88)) (a1 : Int) (r : Bool) (w : World) (hr0_0 : Kd.C (Kd.int .i64) w A0_0 l0_0.length l0_0) (hc0_0 : l0_0.length ≤ c0_0) (hr0_2 : Kd.C k88 w A0_2 l0_2.length l0_2) (hc0_2 : l0_2.length ≤ c0_2) (h : impl_isId.f k l0_0 a0_1 l0_2 a1 = some r) :
  Calls Try.prog 84 #[.agg #[.slice A0_0 l0_0.length c0_0, .int .i64 a0_1, .slice A0_2 l0_2.length c0_2], .int .i64 a1] w fun e w' => e = .returned (.bool r) ∧ Below w.heap.size w w' := by
 have hu41 := Try.underlying41
 have HR0_0 := Aside0.mk hr0_0
 have HC0_0 := Aside0.mk hc0_0
 clear hr0_0 hc0_0
 have HR0_2 := Aside0.mk hr0_2
 have HC0_2 := Aside0.mk hc0_2
 clear hr0_2 hc0_2
 have HB := Aside0.mk (Below.refl w.heap.size w)
 have H : ((impl_CountOf.f k l0_0 a0_1 l0_2).bind fun t879 => ((impl_within.f a1 0 (wrap64 (t879 - 1))).bind fun t880 => (some t880))) = some r := h
 clear h
 replace H := Option.bind_eq_some_iff.mp H
 obtain ⟨t879, A30, H⟩ := H
 replace H : ((impl_within.f a1 0 (wrap64 (t879 - 1))).bind fun t880 => (some t880)) = some r := H
 have A3 := Aside0.mk A30
 clear A30
 replace H := Option.bind_eq_some_iff.mp H
 obtain ⟨t880, A40, H⟩ := H
 replace H : (some t880) = some r := H
 have A4 := Aside0.mk A40
 clear A40
 obtain rfl := Option.some.inj H
 go_enter Try.func84, Try.ntmps84
 go_wp2_with (first | ((with_reducible refine gate_dst (N := 2) rfl ?_); refine box_event ?hg (N := 2) ?hd (cs := #[.slice A0_0 l0_0.length c0_0, .int .i64 a0_1, .slice A0_2 l0_2.length c0_2]) (t := 41) ?hr ?_; (case hd => rfl); (case hg => rfl); (case hr => first | (go_simp; done) | (go_simp; rfl)); intro gb878 hg w5 hbox hb; have n0_ := Aside0.mk (below_step hB_ hb); have n1_ := Aside0.mk (hbox); have n2_ := Aside0.mk ((sz_ hg (below_size hB_) : w.heap.size ≤ gb878)); have n3_ := Aside0.mk ((sz_ hg (below_size hB_) : w.heap.size ≤ gb878)); clear HB; have HB := n0_; have BK878 := n1_; have GW878 := n2_; have GE878 := n3_; clear n0_ n1_ n2_ n3_; clear hb hbox hg; obtain ⟨hcz6_0, hcz6_1, hcz6_2, hfz6_0, hfz6_1, hfz6_2⟩ := blkc3_ BK878.out) | ((with_reducible refine gate_callee (f := 43) rfl ?_); refine gL_ (some 7) Try.func43 #[.agg #[.slice A0_0 l0_0.length c0_0, .int .i64 a0_1, .slice A0_2 l0_2.length c0_2]] ?_; (with_reducible refine (impl_CountOf.calls k _ _ l0_0 a0_1 _ _ l0_2 t879 _ ?side1 ?side2 ?side3 ?side4 A3.out).mono ?_); (case side1 => exact cHR0_0_); (case side2 => exact HC0_0.out); (case side3 => exact cHR0_2_); (case side4 => exact HC0_2.out); rintro e w7 ⟨rfl, hb⟩; refine ⟨_, rfl, ?_⟩; have n0_ := Aside0.mk (blk_below (g := gb878) (o := .cells #[.slice A0_0 l0_0.length c0_0, .int .i64 a0_1, .slice A0_2 l0_2.length c0_2] 41 (0, 0)) bK878_ hb); have n1_ := Aside0.mk (below_step hS_ hb); clear BK878; clear HB; have BK878 := n0_; have HB := n1_; clear n0_ n1_; (try clear hb); (try clear hb2); (try clear hk); (try clear hi)) | ((with_reducible refine gate_callee (f := 91) rfl ?_); refine gL_ (some 9) Try.func91 #[.int .i64 a1, .int .i64 0, .int .i64 (wrap64 (t879 - 1))] ?_; (with_reducible refine (impl_within.calls a1 0 (wrap64 (t879 - 1)) t880 _ A4.out).mono ?_); rintro e w' ⟨rfl, ⟨nd, rfl⟩⟩; refine ⟨_, rfl, ?_⟩))
 go_ret
 exact ⟨rG_, hS_⟩
/-! ### impl_PlaceOf: function 46 -/
def impl_PlaceOf.l0 : Nat → Int → Int → List (S88) → Int → Int → Option (Int × Int)
 | 0, _, _, _, _, _ => none
 | k + 1, x1, x6, x22, x23, x24 => if x24 < x23 then (if 0 ≤ x24 then (if x24 < (x22.length : Int) then (if x1 < (wrap64 (x6 + (wrap64 ((((rd_T88 x22 x24).f0).length : Int) + (((rd_T88 x22 x24).f1).length : Int))))) then (some (x24, wrap64 (x1 - x6))) else (impl_PlaceOf.l0 k x1 (wrap64 (x6 + (wrap64 ((((rd_T88 x22 x24).f0).length : Int) + (((rd_T88 x22 x24).f1).length : Int))))) x22 x23 (wrap64 (x24 + 1)))) else (none)) else (none)) else (some ((-2), 0))
def impl_PlaceOf.f (k : Nat) (l0_0 : List Int) (a0_1 : Int) (l0_2 : List (S88)) (a1 : Int) : Option (Int × Int) := (impl_isId.f k l0_0 a0_1 l0_2 a1).bind fun t882 => (if t882 = true then (if a1 < (l0_0.length : Int) then (some ((-1), a1)) else (impl_PlaceOf.l0 k a1 (l0_0.length : Int) l0_2 (l0_2.length : Int) 0)) else (some ((-2), 0)))
theorem impl_PlaceOf.mono_l : ∀ k, (∀ y0 y1 y2 y3 y4, LeO (impl_PlaceOf.l0 k y0 y1 y2 y3 y4) (impl_PlaceOf.l0 (k + 1) y0 y1 y2 y3 y4))
 | 0 => fun _ _ _ _ _ r h => by simp [impl_PlaceOf.l0] at h
 | k + 1 => by
  have ih0 := impl_PlaceOf.mono_l k
  ·intro y0 y1 y2 y3 y4
   unfold impl_PlaceOf.l0
   repeat' first
   | (with_reducible exact ih0 _ _ _ _ _)
   | (with_reducible exact impl_isId.mono _ _ _ _ _)
   | (with_reducible exact LeO.refl _)
   | (with_reducible exact LeO.none _)
   | (with_reducible refine LeO.ite ?_ ?_)
   | (with_reducible refine LeO.bind ?_ (fun _ => ?_))
   | exact ih0 _ _ _ _ _
   | exact impl_isId.mono _ _ _ _ _
   | exact LeO.none _
   | refine LeO.ite ?_ ?_
   | refine LeO.bind ?_ (fun _ => ?_)
theorem impl_PlaceOf.mono : ∀ a0 a1 a2 a3 k, LeO (impl_PlaceOf.f k a0 a1 a2 a3) (impl_PlaceOf.f (k + 1) a0 a1 a2 a3) := by
 intro a0 a1 a2 a3 k
 have ih0 := impl_PlaceOf.mono_l k
 unfold impl_PlaceOf.f
 repeat' first
   | (with_reducible exact ih0 _ _ _ _ _)
   | (with_reducible exact impl_isId.mono _ _ _ _ _)
   | (with_reducible exact LeO.refl _)
   | (with_reducible exact LeO.none _)
   | (with_reducible refine LeO.ite ?_ ?_)
   | (with_reducible refine LeO.bind ?_ (fun _ => ?_))
   | exact ih0 _ _ _ _ _
   | exact impl_isId.mono _ _ _ _ _
   | exact LeO.none _
   | refine LeO.ite ?_ ?_
   | refine LeO.bind ?_ (fun _ => ?_)
set_option maxHeartbeats 8000000 in
set_option maxRecDepth 100000 in
theorem impl_PlaceOf.calls (k : Nat) (A0_0 : Option Addr) (c0_0 : Nat) (l0_0 : List Int) (a0_1 : Int) (A0_2 : Option Addr) (c0_2 : Nat) (l0_2 : List (S88)) (a1 : Int) (r1 : Int) (r2 : Int) (w : World) (hr0_0 : Kd.C (Kd.int .i64) w A0_0 l0_0.length l0_0) (hc0_0 : l0_0.length ≤ c0_0) (hr0_2 : Kd.C k88 w A0_2 l0_2.length l0_2) (hc0_2 : l0_2.length ≤ c0_2) (h : impl_PlaceOf.f k l0_0 a0_1 l0_2 a1 = some (r1, r2)) :
  Calls Try.prog 46 #[.agg #[.slice A0_0 l0_0.length c0_0, .int .i64 a0_1, .slice A0_2 l0_2.length c0_2], .int .i64 a1] w fun e w' => e = .returned (.tuple #[.int .i64 r1, .int .i64 r2]) ∧ Below w.heap.size w w' := by
 have hu41 := Try.underlying41
 have hu88 := Try.underlying88
 have HR0_0 := Aside0.mk hr0_0
 have HC0_0 := Aside0.mk hc0_0
 clear hr0_0 hc0_0
 have HR0_2 := Aside0.mk hr0_2
 have HC0_2 := Aside0.mk hc0_2
 clear hr0_2 hc0_2
 have HB := Aside0.mk (Below.refl w.heap.size w)
 have H : ((impl_isId.f k l0_0 a0_1 l0_2 a1).bind fun t882 => (if t882 = true then (if a1 < (l0_0.length : Int) then (some ((-1), a1)) else (impl_PlaceOf.l0 k a1 (l0_0.length : Int) l0_2 (l0_2.length : Int) 0)) else (some ((-2), 0)))) = some (r1, r2) := h
 clear h
 replace H := Option.bind_eq_some_iff.mp H
 obtain ⟨t882, A30, H⟩ := H
 replace H : (if t882 = true then (if a1 < (l0_0.length : Int) then (some ((-1), a1)) else (impl_PlaceOf.l0 k a1 (l0_0.length : Int) l0_2 (l0_2.length : Int) 0)) else (some ((-2), 0))) = some (r1, r2) := H
 have A3 := Aside0.mk A30
 clear A30
 by_cases c4 : t882 = true
 ·subst c4
  have H1 := (if_pos rfl).symm.trans H
  clear H
  have H := H1
  clear H1
  by_cases c5 : a1 < (l0_0.length : Int)
  ·rw [if_pos c5] at H
   have c5b0 : decide (a1 < (l0_0.length : Int)) = true := decide_eq_true c5
   clear c5
   simp only [Option.some.injEq, Prod.mk.injEq] at H
   obtain ⟨rfl, rfl⟩ := H
   go_enter Try.func46, Try.ntmps46
   go_wp2_with (first | ((with_reducible refine gate_dst (N := 2) rfl ?_); refine box_event ?hg (N := 2) ?hd (cs := #[.slice A0_0 l0_0.length c0_0, .int .i64 a0_1, .slice A0_2 l0_2.length c0_2]) (t := 41) ?hr ?_; (case hd => rfl); (case hg => rfl); (case hr => first | (go_simp; done) | (go_simp; rfl)); intro gb881 hg w6 hbox hb; have n0_ := Aside0.mk (below_step hB_ hb); have n1_ := Aside0.mk (hbox); have n2_ := Aside0.mk ((sz_ hg (below_size hB_) : w.heap.size ≤ gb881)); have n3_ := Aside0.mk ((sz_ hg (below_size hB_) : w.heap.size ≤ gb881)); clear HB; have HB := n0_; have BK881 := n1_; have GW881 := n2_; have GE881 := n3_; clear n0_ n1_ n2_ n3_; clear hb hbox hg; obtain ⟨hcz7_0, hcz7_1, hcz7_2, hfz7_0, hfz7_1, hfz7_2⟩ := blkc3_ BK881.out) | ((with_reducible refine gate_callee (f := 84) rfl ?_); refine gL_ (some 12) Try.func84 #[.agg #[.slice A0_0 l0_0.length c0_0, .int .i64 a0_1, .slice A0_2 l0_2.length c0_2], .int .i64 a1] ?_; (with_reducible refine (impl_isId.calls k _ _ l0_0 a0_1 _ _ l0_2 a1 true _ ?side1 ?side2 ?side3 ?side4 A3.out).mono ?_); (case side1 => exact cHR0_0_); (case side2 => exact HC0_0.out); (case side3 => exact cHR0_2_); (case side4 => exact HC0_2.out); rintro e w8 ⟨rfl, hb⟩; refine ⟨_, rfl, ?_⟩; have n0_ := Aside0.mk (blk_below (g := gb881) (o := .cells #[.slice A0_0 l0_0.length c0_0, .int .i64 a0_1, .slice A0_2 l0_2.length c0_2] 41 (0, 0)) bK881_ hb); have n1_ := Aside0.mk (below_step hS_ hb); clear BK881; clear HB; have BK881 := n0_; have HB := n1_; clear n0_ n1_; (try clear hb); (try clear hb2); (try clear hk); (try clear hi); obtain ⟨hcz9_0, hcz9_1, hcz9_2, hfz9_0, hfz9_1, hfz9_2⟩ := blkc3_ BK881.out))
   go_ret2
   exact ⟨rG_, hS_⟩
  ·rw [if_neg c5] at H
   have c5b0 : decide (a1 < (l0_0.length : Int)) = false := decide_eq_false c5
   clear c5
   have H' := Aside0.mk H
   clear H
   go_enter Try.func46, Try.ntmps46
   go_wp2_with (first | ((with_reducible refine gate_dst (N := 2) rfl ?_); refine box_event ?hg (N := 2) ?hd (cs := #[.slice A0_0 l0_0.length c0_0, .int .i64 a0_1, .slice A0_2 l0_2.length c0_2]) (t := 41) ?hr ?_; (case hd => rfl); (case hg => rfl); (case hr => first | (go_simp; done) | (go_simp; rfl)); intro gb881 hg w10 hbox hb; have n0_ := Aside0.mk (below_step hB_ hb); have n1_ := Aside0.mk (hbox); have n2_ := Aside0.mk ((sz_ hg (below_size hB_) : w.heap.size ≤ gb881)); have n3_ := Aside0.mk ((sz_ hg (below_size hB_) : w.heap.size ≤ gb881)); clear HB; have HB := n0_; have BK881 := n1_; have GW881 := n2_; have GE881 := n3_; clear n0_ n1_ n2_ n3_; clear hb hbox hg; obtain ⟨hcz11_0, hcz11_1, hcz11_2, hfz11_0, hfz11_1, hfz11_2⟩ := blkc3_ BK881.out) | ((with_reducible refine gate_callee (f := 84) rfl ?_); refine gL_ (some 12) Try.func84 #[.agg #[.slice A0_0 l0_0.length c0_0, .int .i64 a0_1, .slice A0_2 l0_2.length c0_2], .int .i64 a1] ?_; (with_reducible refine (impl_isId.calls k _ _ l0_0 a0_1 _ _ l0_2 a1 true _ ?side1 ?side2 ?side3 ?side4 A3.out).mono ?_); (case side1 => exact cHR0_0_); (case side2 => exact HC0_0.out); (case side3 => exact cHR0_2_); (case side4 => exact HC0_2.out); rintro e w12 ⟨rfl, hb⟩; refine ⟨_, rfl, ?_⟩; have n0_ := Aside0.mk (blk_below (g := gb881) (o := .cells #[.slice A0_0 l0_0.length c0_0, .int .i64 a0_1, .slice A0_2 l0_2.length c0_2] 41 (0, 0)) bK881_ hb); have n1_ := Aside0.mk (below_step hS_ hb); clear BK881; clear HB; have BK881 := n0_; have HB := n1_; clear n0_ n1_; (try clear hb); (try clear hb2); (try clear hk); (try clear hi); obtain ⟨hcz13_0, hcz13_1, hcz13_2, hfz13_0, hfz13_1, hfz13_2⟩ := blkc3_ BK881.out))
   go_loopg [6, 24] k (fun kq v6 v24 w' => ∃ (x6_1 : Int) (x24_1 : Int), v6 = .int .i64 x6_1 ∧ v24 = .int .i64 x24_1 ∧ Aside0 (impl_PlaceOf.l0 kq a1 x6_1 l0_2 (l0_2.length : Int) x24_1 = some (r1, r2)) ∧ Aside0 (kq ≤ k) ∧ Aside0 (w'.heap[gb881]? = some (.cells #[(.slice A0_0 l0_0.length c0_0), .int .i64 a0_1, (.slice A0_2 l0_2.length c0_2)] 41 (0, 0))) ∧ Aside0 (Below w.heap.size w w'))
   case atStart => exact ⟨((l0_0.length : Int)), (0), rF_, rF_, H', ⟨Nat.le_refl _⟩, ⟨bK881_⟩, ⟨hS_⟩⟩
   case round =>
    clear H'
    try clear p2
    try clear c4
    try clear c5
    try clear c5b0
    try clear c8
    try clear hcz11_0 hcz11_1 hcz11_2 hfz11_0 hfz11_1 hfz11_2
    try clear hcz13_0 hcz13_1 hcz13_2 hfz13_0 hfz13_1 hfz13_2
    try clear hcz7_0 hcz7_1 hcz7_2 hfz7_0 hfz7_1 hfz7_2
    try clear hcz9_0 hcz9_1 hcz9_2 hfz9_0 hfz9_1 hfz9_2
    obtain ⟨x6_1, x24_1, rfl, rfl, HA, HK1, BK881, HB⟩ := hrel
    cases gk with
    | zero => exact absurd HA.out (by simp [impl_PlaceOf.l0])
    | succ k1 =>
     have H := HA.out
     clear HA
     simp only [impl_PlaceOf.l0] at H
     by_cases c14 : x24_1 < (l0_2.length : Int)
     ·rw [if_pos c14] at H
      have c14b0 : decide (x24_1 < (l0_2.length : Int)) = true := decide_eq_true c14
      clear c14
      by_cases c15 : 0 ≤ x24_1
      ·rw [if_pos c15] at H
       have c15b0 : decide (0 ≤ x24_1) = true := decide_eq_true c15
       clear c15
       by_cases c16 : x24_1 < (l0_2.length : Int)
       ·rw [if_pos c16] at H
        have c16b0 : decide (x24_1 < (l0_2.length : Int)) = true := decide_eq_true c16
        clear c16
        by_cases c17 : a1 < (wrap64 (x6_1 + (wrap64 ((((rd_T88 l0_2 x24_1).f0).length : Int) + (((rd_T88 l0_2 x24_1).f1).length : Int)))))
        ·rw [if_pos c17] at H
         have c17b0 : decide (a1 < (wrap64 (x6_1 + (wrap64 ((((rd_T88 l0_2 x24_1).f0).length : Int) + (((rd_T88 l0_2 x24_1).f1).length : Int)))))) = true := decide_eq_true c17
         clear c17
         simp only [Option.some.injEq, Prod.mk.injEq] at H
         obtain ⟨rfl, rfl⟩ := H
         have p883 : 0 ≤ (x24_1 : Int) := oD_
         have q883 : x24_1 < (l0_2.length : Int) := oD_
         obtain ⟨ad883, A883_0, c883_0, A883_1, c883_1, e883, hx883_0, hx883_1, hx883_2, hx883_3, hx883_4, hx883_5, hl883_0, hi883_0, hl883_1, hi883_1⟩ := at_T88 HR0_2.out x24_1 p883 q883
         cases e883
         replace hx883_0 := hx_ HB.out hx883_0
         replace hx883_1 := hx_ HB.out hx883_1
         replace hx883_2 := hx_ HB.out hx883_2
         replace hx883_3 := hx_ HB.out hx883_3
         replace hx883_4 := hx_ HB.out hx883_4
         replace hx883_5 := hx_ HB.out hx883_5
         have HR883_0 := Aside0.mk hi883_0
         have HC883_0 := Aside0.mk hl883_0
         clear hi883_0 hl883_0
         have HR883_1 := Aside0.mk hi883_1
         have HC883_1 := Aside0.mk hl883_1
         clear hi883_1 hl883_1
         replace p883 := eq_true p883
         replace q883 := eq_true q883
         go_wp2_with (first | ((with_reducible refine gate_dst (N := 8) rfl ?_); refine box_event ?hg (N := 8) ?hd (cs := #[.slice none 0 0, .slice none 0 0, .int .i64 0, .int .i64 0, .int .i64 0, .int .i64 0]) (t := 88) ?hr ?_; (case hd => rfl); (case hg => rfl); (case hr => first | (go_simp; done) | (go_simp; rfl)); intro gb884 hg w18 hbox hb; have n0_ := Aside0.mk (blk_below (g := gb881) (o := .cells #[.slice A0_0 l0_0.length c0_0, .int .i64 a0_1, .slice (some ad883) l0_2.length c0_2] 41 (0, 0)) bK881_ hb); have n1_ := Aside0.mk (below_step hS_ hb); have n2_ := Aside0.mk (hbox); have n3_ := Aside0.mk ((sz_ hg (below_size hS_) : w.heap.size ≤ gb884)); have n4_ := Aside0.mk ((sz_ hg (below_size hS_) : w.heap.size ≤ gb884)); have n5_ := Aside0.mk ((by rw [hg]; exact Nat.ne_of_lt (blk_lt (g := gb881) (o := .cells #[.slice A0_0 l0_0.length c0_0, .int .i64 a0_1, .slice (some ad883) l0_2.length c0_2] 41 (0, 0)) bK881_) : gb881 ≠ gb884)); have n6_ := Aside0.mk ((by rw [hg]; exact Nat.ne_of_gt (blk_lt (g := gb881) (o := .cells #[.slice A0_0 l0_0.length c0_0, .int .i64 a0_1, .slice (some ad883) l0_2.length c0_2] 41 (0, 0)) bK881_) : gb884 ≠ gb881)); clear BK881; clear HB; have BK881 := n0_; have HB := n1_; have BK884 := n2_; have GW884 := n3_; have GE884 := n4_; have NB881_884 := n5_; have NB884_881 := n6_; clear n0_ n1_ n2_ n3_ n4_ n5_ n6_; clear hb hbox hg; have hnb19 := NB884_881.out; have hnc19 := NB881_884.out; obtain ⟨hcz20_0, hcz20_1, hcz20_2, hcz20_3, hcz20_4, hcz20_5, hfz20_0, hfz20_1, hfz20_2, hfz20_3, hfz20_4, hfz20_5⟩ := blkc6_ BK884.out))
         go_ret2
         exact ⟨rG_, hS_⟩
        ·rw [if_neg c17] at H
         have c17b0 : decide (a1 < (wrap64 (x6_1 + (wrap64 ((((rd_T88 l0_2 x24_1).f0).length : Int) + (((rd_T88 l0_2 x24_1).f1).length : Int)))))) = false := decide_eq_false c17
         clear c17
         have H' := Aside0.mk H
         clear H
         have p883 : 0 ≤ (x24_1 : Int) := oD_
         have q883 : x24_1 < (l0_2.length : Int) := oD_
         obtain ⟨ad883, A883_0, c883_0, A883_1, c883_1, e883, hx883_0, hx883_1, hx883_2, hx883_3, hx883_4, hx883_5, hl883_0, hi883_0, hl883_1, hi883_1⟩ := at_T88 HR0_2.out x24_1 p883 q883
         cases e883
         replace hx883_0 := hx_ HB.out hx883_0
         replace hx883_1 := hx_ HB.out hx883_1
         replace hx883_2 := hx_ HB.out hx883_2
         replace hx883_3 := hx_ HB.out hx883_3
         replace hx883_4 := hx_ HB.out hx883_4
         replace hx883_5 := hx_ HB.out hx883_5
         have HR883_0 := Aside0.mk hi883_0
         have HC883_0 := Aside0.mk hl883_0
         clear hi883_0 hl883_0
         have HR883_1 := Aside0.mk hi883_1
         have HC883_1 := Aside0.mk hl883_1
         clear hi883_1 hl883_1
         replace p883 := eq_true p883
         replace q883 := eq_true q883
         go_wp2_with (first | ((with_reducible refine gate_dst (N := 8) rfl ?_); refine box_event ?hg (N := 8) ?hd (cs := #[.slice none 0 0, .slice none 0 0, .int .i64 0, .int .i64 0, .int .i64 0, .int .i64 0]) (t := 88) ?hr ?_; (case hd => rfl); (case hg => rfl); (case hr => first | (go_simp; done) | (go_simp; rfl)); intro gb884 hg w21 hbox hb; have n0_ := Aside0.mk (blk_below (g := gb881) (o := .cells #[.slice A0_0 l0_0.length c0_0, .int .i64 a0_1, .slice (some ad883) l0_2.length c0_2] 41 (0, 0)) bK881_ hb); have n1_ := Aside0.mk (below_step hS_ hb); have n2_ := Aside0.mk (hbox); have n3_ := Aside0.mk ((sz_ hg (below_size hS_) : w.heap.size ≤ gb884)); have n4_ := Aside0.mk ((sz_ hg (below_size hS_) : w.heap.size ≤ gb884)); have n5_ := Aside0.mk ((by rw [hg]; exact Nat.ne_of_lt (blk_lt (g := gb881) (o := .cells #[.slice A0_0 l0_0.length c0_0, .int .i64 a0_1, .slice (some ad883) l0_2.length c0_2] 41 (0, 0)) bK881_) : gb881 ≠ gb884)); have n6_ := Aside0.mk ((by rw [hg]; exact Nat.ne_of_gt (blk_lt (g := gb881) (o := .cells #[.slice A0_0 l0_0.length c0_0, .int .i64 a0_1, .slice (some ad883) l0_2.length c0_2] 41 (0, 0)) bK881_) : gb884 ≠ gb881)); clear BK881; clear HB; have BK881 := n0_; have HB := n1_; have BK884 := n2_; have GW884 := n3_; have GE884 := n4_; have NB881_884 := n5_; have NB884_881 := n6_; clear n0_ n1_ n2_ n3_ n4_ n5_ n6_; clear hb hbox hg; have hnb22 := NB884_881.out; have hnc22 := NB881_884.out; obtain ⟨hcz23_0, hcz23_1, hcz23_2, hcz23_3, hcz23_4, hcz23_5, hfz23_0, hfz23_1, hfz23_2, hfz23_3, hfz23_4, hfz23_5⟩ := blkc6_ BK884.out))
         go_roundg k1
         case measure => have := HK1.out; omega
         case rel => exact ⟨(wrap64 (x6_1 + (wrap64 ((((rd_T88 l0_2 x24_1).f0).length : Int) + (((rd_T88 l0_2 x24_1).f1).length : Int))))), (wrap64 (x24_1 + 1)), rF_, rF_, H', ⟨by have := HK1.out; omega⟩, ⟨fK881_⟩, ⟨hS_⟩⟩
       ·rw [if_neg c16] at H
        exact absurd H (by simp)
      ·rw [if_neg c15] at H
       exact absurd H (by simp)
     ·rw [if_neg c14] at H
      have c14b0 : decide (x24_1 < (l0_2.length : Int)) = false := decide_eq_false c14
      clear c14
      simp only [Option.some.injEq, Prod.mk.injEq] at H
      obtain ⟨rfl, rfl⟩ := H
      go_wp2
      go_ret2
      exact ⟨rG_, hS_⟩
 ·replace c4 := Bool.eq_false_iff.mpr c4
  subst c4
  have H1 := (if_neg (show ¬ (false = true) by decide)).symm.trans H
  clear H
  have H := H1
  clear H1
  simp only [Option.some.injEq, Prod.mk.injEq] at H
  obtain ⟨rfl, rfl⟩ := H
  go_enter Try.func46, Try.ntmps46
  go_wp2_with (first | ((with_reducible refine gate_dst (N := 2) rfl ?_); refine box_event ?hg (N := 2) ?hd (cs := #[.slice A0_0 l0_0.length c0_0, .int .i64 a0_1, .slice A0_2 l0_2.length c0_2]) (t := 41) ?hr ?_; (case hd => rfl); (case hg => rfl); (case hr => first | (go_simp; done) | (go_simp; rfl)); intro gb881 hg w24 hbox hb; have n0_ := Aside0.mk (below_step hB_ hb); have n1_ := Aside0.mk (hbox); have n2_ := Aside0.mk ((sz_ hg (below_size hB_) : w.heap.size ≤ gb881)); have n3_ := Aside0.mk ((sz_ hg (below_size hB_) : w.heap.size ≤ gb881)); clear HB; have HB := n0_; have BK881 := n1_; have GW881 := n2_; have GE881 := n3_; clear n0_ n1_ n2_ n3_; clear hb hbox hg; obtain ⟨hcz25_0, hcz25_1, hcz25_2, hfz25_0, hfz25_1, hfz25_2⟩ := blkc3_ BK881.out) | ((with_reducible refine gate_callee (f := 84) rfl ?_); refine gL_ (some 12) Try.func84 #[.agg #[.slice A0_0 l0_0.length c0_0, .int .i64 a0_1, .slice A0_2 l0_2.length c0_2], .int .i64 a1] ?_; (with_reducible refine (impl_isId.calls k _ _ l0_0 a0_1 _ _ l0_2 a1 false _ ?side1 ?side2 ?side3 ?side4 A3.out).mono ?_); (case side1 => exact cHR0_0_); (case side2 => exact HC0_0.out); (case side3 => exact cHR0_2_); (case side4 => exact HC0_2.out); rintro e w26 ⟨rfl, hb⟩; refine ⟨_, rfl, ?_⟩; have n0_ := Aside0.mk (blk_below (g := gb881) (o := .cells #[.slice A0_0 l0_0.length c0_0, .int .i64 a0_1, .slice A0_2 l0_2.length c0_2] 41 (0, 0)) bK881_ hb); have n1_ := Aside0.mk (below_step hS_ hb); clear BK881; clear HB; have BK881 := n0_; have HB := n1_; clear n0_ n1_; (try clear hb); (try clear hb2); (try clear hk); (try clear hi)))
  go_ret2
  exact ⟨rG_, hS_⟩
end Go.Proofs.Ytjkbafcepblacaa.X
