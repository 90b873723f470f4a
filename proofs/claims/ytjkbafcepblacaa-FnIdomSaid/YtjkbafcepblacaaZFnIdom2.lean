/- PROVED HERE: what the functions that the law FnIdom reaches do in memory, each as a plain Lean function, and what these tell: part 3 of 4 of the proof of that law; no condition beyond those written out at each theorem. -/
import Derived.Test.YtjkbafcepblacaaZFnIdom0
import Derived.Test.YtjkbafcepblacaaZFnIdom1
namespace Go.Proofs.Ytjkbafcepblacaa.X
open Go.RowKit Go.Proofs.YtjkbafcepblacaaW.PrintWords Go.Proofs.YtjkbafcepblacaaW.PrintLast Go.Proofs.YtjkbafcepblacaaW.PrintMore
attribute [local go_sem] max2_int min2_int max_two min_two max_three min_three max_four min_four   -- for this text's walks alone
set_option linter.unusedVariables false
set_option linter.unusedSimpArgs false
/-! ### spec_Dominates: function 28 -/
def spec_Dominates.f (k : Nat) (l0_0 : List Int) (a0_1 : Int) (l0_2 : List (S88)) (a1 : Int) (a2 : Int) : Option (Bool) := (spec_l3There.f k l0_0 a0_1 l0_2 a1).bind fun t491 => (if t491 = true then ((spec_l3There.f k l0_0 a0_1 l0_2 a2).bind fun t492 => (if t492 = true then ((spec_l3Dom.f k l0_0 a0_1 l0_2 a1 a2).bind fun t493 => (some t493)) else (some false))) else (some false))
theorem spec_Dominates.mono : ∀ a0 a1 a2 a3 a4 k, LeO (spec_Dominates.f k a0 a1 a2 a3 a4) (spec_Dominates.f (k + 1) a0 a1 a2 a3 a4) := by
 intro a0 a1 a2 a3 a4 k
 unfold spec_Dominates.f
 repeat' first
   | (with_reducible exact spec_l3Dom.mono _ _ _ _ _ _)
   | (with_reducible exact spec_l3There.mono _ _ _ _ _)
   | (with_reducible exact LeO.refl _)
   | (with_reducible exact LeO.none _)
   | (with_reducible refine LeO.ite ?_ ?_)
   | (with_reducible refine LeO.bind ?_ (fun _ => ?_))
   | exact spec_l3Dom.mono _ _ _ _ _ _
   | exact spec_l3There.mono _ _ _ _ _
   | exact LeO.none _
   | refine LeO.ite ?_ ?_
   | refine LeO.bind ?_ (fun _ => ?_)
set_option maxHeartbeats 8000000 in
set_option maxRecDepth 100000 in
theorem spec_Dominates.calls (k : Nat) (A0_0 : Option Addr) (c0_0 : Nat) (l0_0 : List Int) (a0_1 : Int) (A0_2 : Option Addr) (c0_2 : Nat) (l0_2 : List (S88)) (a1 : Int) (a2 : Int) (r : Bool) (w : World) (hr0_0 : Kd.C (Kd.int .i64) w A0_0 l0_0.length l0_0) (hc0_0 : l0_0.length ≤ c0_0) (hr0_2 : Kd.C k88 w A0_2 l0_2.length l0_2) (hc0_2 : l0_2.length ≤ c0_2) (h : spec_Dominates.f k l0_0 a0_1 l0_2 a1 a2 = some r) :
  Calls Try.prog 28 #[.agg #[.slice A0_0 l0_0.length c0_0, .int .i64 a0_1, .slice A0_2 l0_2.length c0_2], .int .i64 a1, .int .i64 a2] w fun e w' => e = .returned (.bool r) ∧ Below w.heap.size w w' := by
 have hu41 := Try.underlying41
 have HR0_0 := Aside0.mk hr0_0
 have HC0_0 := Aside0.mk hc0_0
 clear hr0_0 hc0_0
 have HR0_2 := Aside0.mk hr0_2
 have HC0_2 := Aside0.mk hc0_2
 clear hr0_2 hc0_2
 have HB := Aside0.mk (Below.refl w.heap.size w)
 have H : ((spec_l3There.f k l0_0 a0_1 l0_2 a1).bind fun t491 => (if t491 = true then ((spec_l3There.f k l0_0 a0_1 l0_2 a2).bind fun t492 => (if t492 = true then ((spec_l3Dom.f k l0_0 a0_1 l0_2 a1 a2).bind fun t493 => (some t493)) else (some false))) else (some false))) = some r := h
 clear h
 replace H := Option.bind_eq_some_iff.mp H
 obtain ⟨t491, A40, H⟩ := H
 replace H : (if t491 = true then ((spec_l3There.f k l0_0 a0_1 l0_2 a2).bind fun t492 => (if t492 = true then ((spec_l3Dom.f k l0_0 a0_1 l0_2 a1 a2).bind fun t493 => (some t493)) else (some false))) else (some false)) = some r := H
 have A4 := Aside0.mk A40
 clear A40
 by_cases c5 : t491 = true
 ·subst c5
  have H1 := (if_pos rfl).symm.trans H
  clear H
  have H := H1
  clear H1
  replace H := Option.bind_eq_some_iff.mp H
  obtain ⟨t492, A60, H⟩ := H
  replace H : (if t492 = true then ((spec_l3Dom.f k l0_0 a0_1 l0_2 a1 a2).bind fun t493 => (some t493)) else (some false)) = some r := H
  have A6 := Aside0.mk A60
  clear A60
  by_cases c7 : t492 = true
  ·subst c7
   have H1 := (if_pos rfl).symm.trans H
   clear H
   have H := H1
   clear H1
   replace H := Option.bind_eq_some_iff.mp H
   obtain ⟨t493, A80, H⟩ := H
   replace H : (some t493) = some r := H
   have A8 := Aside0.mk A80
   clear A80
   obtain rfl := Option.some.inj H
   go_enter Try.func28, Try.ntmps28
   go_wp2_with (first | ((with_reducible refine gate_dst (N := 3) rfl ?_); refine box_event ?hg (N := 3) ?hd (cs := #[.slice A0_0 l0_0.length c0_0, .int .i64 a0_1, .slice A0_2 l0_2.length c0_2]) (t := 41) ?hr ?_; (case hd => rfl); (case hg => rfl); (case hr => first | (go_simp; done) | (go_simp; rfl)); intro gb490 hg w9 hbox hb; have n0_ := Aside0.mk (below_step hB_ hb); have n1_ := Aside0.mk (hbox); have n2_ := Aside0.mk ((sz_ hg (below_size hB_) : w.heap.size ≤ gb490)); have n3_ := Aside0.mk ((sz_ hg (below_size hB_) : w.heap.size ≤ gb490)); clear HB; have HB := n0_; have BK490 := n1_; have GW490 := n2_; have GE490 := n3_; clear n0_ n1_ n2_ n3_; clear hb hbox hg; obtain ⟨hcz10_0, hcz10_1, hcz10_2, hfz10_0, hfz10_1, hfz10_2⟩ := blkc3_ BK490.out) | ((with_reducible refine gate_callee (f := 71) rfl ?_); refine gL_ (some 9) Try.func71 #[.agg #[.slice A0_0 l0_0.length c0_0, .int .i64 a0_1, .slice A0_2 l0_2.length c0_2], .int .i64 a1] ?_; (with_reducible refine (spec_l3There.calls k _ _ l0_0 a0_1 _ _ l0_2 a1 true _ ?side1 ?side2 ?side3 ?side4 A4.out).mono ?_); (case side1 => exact cHR0_0_); (case side2 => exact HC0_0.out); (case side3 => exact cHR0_2_); (case side4 => exact HC0_2.out); rintro e w11 ⟨rfl, hb⟩; refine ⟨_, rfl, ?_⟩; have n0_ := Aside0.mk (blk_below (g := gb490) (o := .cells #[.slice A0_0 l0_0.length c0_0, .int .i64 a0_1, .slice A0_2 l0_2.length c0_2] 41 (0, 0)) bK490_ hb); have n1_ := Aside0.mk (below_step hS_ hb); clear BK490; clear HB; have BK490 := n0_; have HB := n1_; clear n0_ n1_; (try clear hb); (try clear hb2); (try clear hk); (try clear hi); obtain ⟨hcz12_0, hcz12_1, hcz12_2, hfz12_0, hfz12_1, hfz12_2⟩ := blkc3_ BK490.out) | (go_at_call 71; (with_reducible refine (spec_l3There.calls k _ _ l0_0 a0_1 _ _ l0_2 a2 true _ ?side1 ?side2 ?side3 ?side4 A6.out).mono ?_); (case side1 => exact cHR0_0_); (case side2 => exact HC0_0.out); (case side3 => exact cHR0_2_); (case side4 => exact HC0_2.out); rintro e w13 ⟨rfl, hb⟩; have n0_ := Aside0.mk (blk_below (g := gb490) (o := .cells #[.slice A0_0 l0_0.length c0_0, .int .i64 a0_1, .slice A0_2 l0_2.length c0_2] 41 (0, 0)) bK490_ hb); have n1_ := Aside0.mk (below_step hS_ hb); clear BK490; clear HB; have BK490 := n0_; have HB := n1_; clear n0_ n1_; (try clear hb); (try clear hb2); (try clear hk); (try clear hi); obtain ⟨hcz14_0, hcz14_1, hcz14_2, hfz14_0, hfz14_1, hfz14_2⟩ := blkc3_ BK490.out) | (go_at_call 72; (with_reducible refine (spec_l3Dom.calls k _ _ l0_0 a0_1 _ _ l0_2 a1 a2 t493 _ ?side1 ?side2 ?side3 ?side4 A8.out).mono ?_); (case side1 => exact cHR0_0_); (case side2 => exact HC0_0.out); (case side3 => exact cHR0_2_); (case side4 => exact HC0_2.out); rintro e w15 ⟨rfl, hb⟩; have n0_ := Aside0.mk (blk_below (g := gb490) (o := .cells #[.slice A0_0 l0_0.length c0_0, .int .i64 a0_1, .slice A0_2 l0_2.length c0_2] 41 (0, 0)) bK490_ hb); have n1_ := Aside0.mk (below_step hS_ hb); clear BK490; clear HB; have BK490 := n0_; have HB := n1_; clear n0_ n1_; (try clear hb); (try clear hb2); (try clear hk); (try clear hi)))
   go_ret
   exact ⟨rG_, hS_⟩
  ·replace c7 := Bool.eq_false_iff.mpr c7
   subst c7
   have H1 := (if_neg (show ¬ (false = true) by decide)).symm.trans H
   clear H
   have H := H1
   clear H1
   obtain rfl := Option.some.inj H
   go_enter Try.func28, Try.ntmps28
   go_wp2_with (first | ((with_reducible refine gate_dst (N := 3) rfl ?_); refine box_event ?hg (N := 3) ?hd (cs := #[.slice A0_0 l0_0.length c0_0, .int .i64 a0_1, .slice A0_2 l0_2.length c0_2]) (t := 41) ?hr ?_; (case hd => rfl); (case hg => rfl); (case hr => first | (go_simp; done) | (go_simp; rfl)); intro gb490 hg w16 hbox hb; have n0_ := Aside0.mk (below_step hB_ hb); have n1_ := Aside0.mk (hbox); have n2_ := Aside0.mk ((sz_ hg (below_size hB_) : w.heap.size ≤ gb490)); have n3_ := Aside0.mk ((sz_ hg (below_size hB_) : w.heap.size ≤ gb490)); clear HB; have HB := n0_; have BK490 := n1_; have GW490 := n2_; have GE490 := n3_; clear n0_ n1_ n2_ n3_; clear hb hbox hg; obtain ⟨hcz17_0, hcz17_1, hcz17_2, hfz17_0, hfz17_1, hfz17_2⟩ := blkc3_ BK490.out) | ((with_reducible refine gate_callee (f := 71) rfl ?_); refine gL_ (some 9) Try.func71 #[.agg #[.slice A0_0 l0_0.length c0_0, .int .i64 a0_1, .slice A0_2 l0_2.length c0_2], .int .i64 a1] ?_; (with_reducible refine (spec_l3There.calls k _ _ l0_0 a0_1 _ _ l0_2 a1 true _ ?side1 ?side2 ?side3 ?side4 A4.out).mono ?_); (case side1 => exact cHR0_0_); (case side2 => exact HC0_0.out); (case side3 => exact cHR0_2_); (case side4 => exact HC0_2.out); rintro e w18 ⟨rfl, hb⟩; refine ⟨_, rfl, ?_⟩; have n0_ := Aside0.mk (blk_below (g := gb490) (o := .cells #[.slice A0_0 l0_0.length c0_0, .int .i64 a0_1, .slice A0_2 l0_2.length c0_2] 41 (0, 0)) bK490_ hb); have n1_ := Aside0.mk (below_step hS_ hb); clear BK490; clear HB; have BK490 := n0_; have HB := n1_; clear n0_ n1_; (try clear hb); (try clear hb2); (try clear hk); (try clear hi); obtain ⟨hcz19_0, hcz19_1, hcz19_2, hfz19_0, hfz19_1, hfz19_2⟩ := blkc3_ BK490.out) | (go_at_call 71; (with_reducible refine (spec_l3There.calls k _ _ l0_0 a0_1 _ _ l0_2 a2 false _ ?side1 ?side2 ?side3 ?side4 A6.out).mono ?_); (case side1 => exact cHR0_0_); (case side2 => exact HC0_0.out); (case side3 => exact cHR0_2_); (case side4 => exact HC0_2.out); rintro e w20 ⟨rfl, hb⟩; have n0_ := Aside0.mk (blk_below (g := gb490) (o := .cells #[.slice A0_0 l0_0.length c0_0, .int .i64 a0_1, .slice A0_2 l0_2.length c0_2] 41 (0, 0)) bK490_ hb); have n1_ := Aside0.mk (below_step hS_ hb); clear BK490; clear HB; have BK490 := n0_; have HB := n1_; clear n0_ n1_; (try clear hb); (try clear hb2); (try clear hk); (try clear hi)))
   go_ret
   exact ⟨rG_, hS_⟩
 ·replace c5 := Bool.eq_false_iff.mpr c5
  subst c5
  have H1 := (if_neg (show ¬ (false = true) by decide)).symm.trans H
  clear H
  have H := H1
  clear H1
  obtain rfl := Option.some.inj H
  go_enter Try.func28, Try.ntmps28
  go_wp2_with (first | ((with_reducible refine gate_dst (N := 3) rfl ?_); refine box_event ?hg (N := 3) ?hd (cs := #[.slice A0_0 l0_0.length c0_0, .int .i64 a0_1, .slice A0_2 l0_2.length c0_2]) (t := 41) ?hr ?_; (case hd => rfl); (case hg => rfl); (case hr => first | (go_simp; done) | (go_simp; rfl)); intro gb490 hg w21 hbox hb; have n0_ := Aside0.mk (below_step hB_ hb); have n1_ := Aside0.mk (hbox); have n2_ := Aside0.mk ((sz_ hg (below_size hB_) : w.heap.size ≤ gb490)); have n3_ := Aside0.mk ((sz_ hg (below_size hB_) : w.heap.size ≤ gb490)); clear HB; have HB := n0_; have BK490 := n1_; have GW490 := n2_; have GE490 := n3_; clear n0_ n1_ n2_ n3_; clear hb hbox hg; obtain ⟨hcz22_0, hcz22_1, hcz22_2, hfz22_0, hfz22_1, hfz22_2⟩ := blkc3_ BK490.out) | ((with_reducible refine gate_callee (f := 71) rfl ?_); refine gL_ (some 9) Try.func71 #[.agg #[.slice A0_0 l0_0.length c0_0, .int .i64 a0_1, .slice A0_2 l0_2.length c0_2], .int .i64 a1] ?_; (with_reducible refine (spec_l3There.calls k _ _ l0_0 a0_1 _ _ l0_2 a1 false _ ?side1 ?side2 ?side3 ?side4 A4.out).mono ?_); (case side1 => exact cHR0_0_); (case side2 => exact HC0_0.out); (case side3 => exact cHR0_2_); (case side4 => exact HC0_2.out); rintro e w23 ⟨rfl, hb⟩; refine ⟨_, rfl, ?_⟩; have n0_ := Aside0.mk (blk_below (g := gb490) (o := .cells #[.slice A0_0 l0_0.length c0_0, .int .i64 a0_1, .slice A0_2 l0_2.length c0_2] 41 (0, 0)) bK490_ hb); have n1_ := Aside0.mk (below_step hS_ hb); clear BK490; clear HB; have BK490 := n0_; have HB := n1_; clear n0_ n1_; (try clear hb); (try clear hb2); (try clear hk); (try clear hi)))
  go_ret
  exact ⟨rG_, hS_⟩
end Go.Proofs.Ytjkbafcepblacaa.X
namespace Go.Proofs.Ytjkbafcepblacaa.X
set_option linter.unusedVariables false
set_option linter.unusedSimpArgs false
open Go.RowKit Go.Proofs.YtjkbafcepblacaaW.PrintWords Go.Proofs.YtjkbafcepblacaaW.PrintLast Go.Proofs.YtjkbafcepblacaaW.PrintMore
theorem implDom_ev (p : List Int) (r : Int) (l : List Block) (ht : There l) (a b : Int) (h0 : 0 ≤ b) (h1 : b < l.length) : Ev (fun k => impl_dominates.f k p r l a b) (domB l a b) := by
  have hl := reachB_length l (-1)
  have hl' := reachB_length l a
  refine Ev.bind (implReach_ev p r l (-1) ht (by omega)) (Ev.ipos h0 (Ev.ipos (by omega) ?_))
  unfold domB
  by_cases hv : (reachB l (-1)).getD b.toNat false = true
  · refine Ev.ipos hv (Ev.bind (implReach_ev p r l a ht (by omega)) (Ev.ipos (by omega) (Ev.rw (Ev.now _) ?_)))
    rw [hv]; rfl
  · refine Ev.ineg hv (Ev.rw (Ev.now _) ?_)
    rw [show (reachB l (-1)).getD b.toNat false = false by simpa using hv]; rfl
theorem specDom_ev (p : List Int) (r : Int) (l : List Block) (ht : There l) (a b : Int) (h0 : 0 ≤ b) (h1 : b < l.length) : Ev (fun k => spec_l3Dom.f k p r l a b) (domB l a b) := by
  have ht10 := ht.1
  have hs : ∀ w, smI (idx (reachB l w) 0) := fun w => smI_small (by have := idx_length (reachB l w) 0; rw [reachB_length] at this; omega)
  refine Ev.bind (specReach_ev p r l (-1) ht (by omega)) (Ev.bind (has_ev _ b (hs _)) ?_)
  unfold domB
  by_cases hv : (reachB l (-1)).getD b.toNat false = true
  · refine Ev.ipos (decide_eq_true ((mem_idx0 _ b h0).2 hv)) (Ev.bind (specReach_ev p r l a ht (by omega)) (Ev.bind (has_ev _ b (hs _)) (Ev.rw (Ev.now _) ?_)))
    rw [hv, Bool.true_and]
    by_cases hw : (reachB l a).getD b.toNat false = true
    · rw [decide_eq_true ((mem_idx0 _ b h0).2 hw), hw]
    · rw [decide_eq_false (fun h => hw ((mem_idx0 _ b h0).1 h)), show (reachB l a).getD b.toNat false = false by simpa using hw]
  · refine Ev.ineg (by rw [decide_eq_false (fun h => hv ((mem_idx0 _ b h0).1 h))]; decide) (Ev.rw (Ev.now _) ?_)
    rw [show (reachB l (-1)).getD b.toNat false = false by simpa using hv]; rfl
def dominatesB (l : List Block) (a b : Int) : Bool := decide ((0 ≤ a ∧ a < (l.length : Int)) ∧ There l) && (decide ((0 ≤ b ∧ b < (l.length : Int)) ∧ There l) && domB l a b)
theorem implDominates_ev (p : List Int) (r : Int) (l : List Block) (a b : Int) (h : l.length ≤ 1048576) : Ev (fun k => impl_Dominates.f k p r l a b) (dominatesB l a b) := by
  unfold dominatesB
  refine Ev.bind (Ev.cst (implBlockOf_eq p r l a h)) ?_
  by_cases ca : (0 ≤ a ∧ a < (l.length : Int)) ∧ There l
  · rw [decide_eq_true ca, Bool.true_and]
    refine Ev.ipos rfl (Ev.bind (Ev.cst (implBlockOf_eq p r l b h)) ?_)
    by_cases cb : (0 ≤ b ∧ b < (l.length : Int)) ∧ There l
    · rw [decide_eq_true cb, Bool.true_and]
      exact Ev.ipos rfl (Ev.bind (implDom_ev p r l ca.2 a b cb.1.1 cb.1.2) (Ev.now _))
    · rw [decide_eq_false cb]; exact Ev.ineg (by decide) (Ev.now _)
  · rw [decide_eq_false ca]; exact Ev.ineg (by decide) (Ev.now _)
theorem idom_l (p : List Int) (r : Int) (l : List Block) (b : Int) (ht : There l) (h0 : 0 ≤ b) (h1 : b < (l.length : Int)) : ∀ (d i : Nat) (best : Int), i + d = l.length →
    ∃ R, Ev (fun k => impl_IdomOf.l0 k b best (l.length : Int) i p r l) R ∧ Ev (fun k => spec_IdomOf.l0 k b best i p r l) R := by
  have ht10 := ht.1
  intro d
  induction d with
  | zero =>
    intro i best hi
    exact ⟨best, Ev.step (fun k => rfl) (Ev.ineg (by omega) (Ev.now _)), Ev.step (fun k => rfl) (Ev.ineg (by omega) (Ev.now _))⟩
  | succ d ih =>
    intro i best hi
    have hw : wrap64 ((i : Int) + 1) = ((i + 1 : Nat) : Int) := by rw [w64 (by omega) (by omega)]; rfl
    obtain ⟨R0, a0, c0⟩ := ih (i + 1) best (by omega)
    obtain ⟨R1, a1, c1⟩ := ih (i + 1) i (by omega)
    by_cases hb : (i : Int) = b
    · refine ⟨R0, Ev.step (fun k => rfl) (Ev.ipos (by omega) (Ev.ipos hb ?_)), Ev.step (fun k => rfl) (Ev.ipos (by omega) (Ev.ipos hb ?_))⟩
      · rw [hw]; exact a0
      · rw [hw]; exact c0
    · have d1 := implDom_ev p r l ht i b h0 h1
      have d2 := specDom_ev p r l ht i b h0 h1
      by_cases hd : domB l i b = true
      · by_cases hn : best < 0
        · refine ⟨R1, Ev.step (fun k => rfl) (Ev.ipos (by omega) (Ev.ineg hb (Ev.bind d1 (Ev.ipos hd (Ev.ipos hn ?_))))), Ev.step (fun k => rfl) (Ev.ipos (by omega) (Ev.ineg hb (Ev.bind d2 (Ev.ipos hd (Ev.ipos hn ?_)))))⟩
          · rw [hw]; exact a1
          · rw [hw]; exact c1
        · have e1 := implDom_ev p r l ht best i (by omega) (by omega)
          have e2 := specDom_ev p r l ht best i (by omega) (by omega)
          by_cases he : domB l best i = true
          · refine ⟨R1, Ev.step (fun k => rfl) (Ev.ipos (by omega) (Ev.ineg hb (Ev.bind d1 (Ev.ipos hd (Ev.ineg hn (Ev.bind e1 (Ev.ipos he ?_))))))), Ev.step (fun k => rfl) (Ev.ipos (by omega) (Ev.ineg hb (Ev.bind d2 (Ev.ipos hd (Ev.ineg hn (Ev.bind e2 (Ev.ipos he ?_)))))))⟩
            · rw [hw]; exact a1
            · rw [hw]; exact c1
          · refine ⟨R0, Ev.step (fun k => rfl) (Ev.ipos (by omega) (Ev.ineg hb (Ev.bind d1 (Ev.ipos hd (Ev.ineg hn (Ev.bind e1 (Ev.ineg he ?_))))))), Ev.step (fun k => rfl) (Ev.ipos (by omega) (Ev.ineg hb (Ev.bind d2 (Ev.ipos hd (Ev.ineg hn (Ev.bind e2 (Ev.ineg he ?_)))))))⟩
            · rw [hw]; exact a0
            · rw [hw]; exact c0
      · refine ⟨R0, Ev.step (fun k => rfl) (Ev.ipos (by omega) (Ev.ineg hb (Ev.bind d1 (Ev.ineg hd ?_)))), Ev.step (fun k => rfl) (Ev.ipos (by omega) (Ev.ineg hb (Ev.bind d2 (Ev.ineg hd ?_))))⟩
        · rw [hw]; exact a0
        · rw [hw]; exact c0
theorem idomOf_ev (p : List Int) (r : Int) (l : List Block) (b : Int) (h : l.length ≤ 1048576) : ∃ R, Ev (fun k => impl_IdomOf.f k p r l b) R ∧ Ev (fun k => spec_IdomOf.f k p r l b) R := by
  by_cases cb : (0 ≤ b ∧ b < (l.length : Int)) ∧ There l
  · obtain ⟨R, e1, e2⟩ := idom_l p r l b cb.2 cb.1.1 cb.1.2 l.length 0 (-1) (by omega)
    exact ⟨R, Ev.bind (Ev.cst (implBlockOf_eq p r l b h)) (Ev.ipos (decide_eq_true cb) e1), Ev.bind (specThere_ev p r l b h) (Ev.ipos (decide_eq_true cb) e2)⟩
  · exact ⟨-1, Ev.bind (Ev.cst (implBlockOf_eq p r l b h)) (Ev.ineg (by rw [decide_eq_false cb]; decide) (Ev.now _)), Ev.bind (specThere_ev p r l b h) (Ev.ineg (by rw [decide_eq_false cb]; decide) (Ev.now _))⟩
theorem dominatesB_iff {l : List Block} (ht : There l) {a b : Int} (ha : 0 ≤ a ∧ a < (l.length : Int)) (hb : 0 ≤ b ∧ b < (l.length : Int)) : dominatesB l a b = true ↔ Dm l a b := by
  unfold dominatesB
  rw [decide_eq_true ⟨ha, ht⟩, decide_eq_true ⟨hb, ht⟩, Bool.true_and, Bool.true_and]
  exact domB_iff l ht (by omega) a b hb.1
end Go.Proofs.Ytjkbafcepblacaa.X
namespace Go.Proofs.Ytjkbafcepblacaa.X
set_option linter.unusedVariables false
set_option linter.unusedSimpArgs false
open Go.RowKit Go.Proofs.YtjkbafcepblacaaW.PrintWords Go.Proofs.YtjkbafcepblacaaW.PrintLast Go.Proofs.YtjkbafcepblacaaW.PrintMore
theorem next_some (l : List Int) (hl : ∀ x ∈ l, 0 ≤ x ∧ x ≤ 255) (hn : l.length ≤ 1048576) (p : Int) (h0 : 0 ≤ p) (h1 : p ≤ l.length) :
    ∃ v p', spec_l1Rd_next.f l p = some (v, p') ∧ 0 ≤ v ∧ v ≤ 255 ∧ 0 ≤ p' ∧ p' ≤ l.length := by
  unfold spec_l1Rd_next.f
  by_cases c : p ≥ (l.length : Int)
  · rw [if_pos c]; exact ⟨0, p, rfl, by omega, by omega, h0, h1⟩
  · have e1 : wrap64 (p + 1) = p + 1 := by unfold wrap64; omega
    have e2 : wrap64 (p + 1 - 1) = p := by unfold wrap64; omega
    rw [if_neg c, e1, e2, if_pos h0, if_pos (by omega)]
    have hm : rd l p ∈ l := by
      unfold rd
      have hp : p.toNat < l.length := by omega
      rw [List.getD_eq_getElem?_getD, List.getElem?_eq_getElem hp]
      exact List.getElem_mem hp
    have hr := hl _ hm
    exact ⟨_, _, rfl, by unfold wrap64; omega, by unfold wrap64; omega, by omega, by omega⟩
theorem below_some (l : List Int) (hl : ∀ x ∈ l, 0 ≤ x ∧ x ≤ 255) (hn : l.length ≤ 1048576) (p : Int) (h0 : 0 ≤ p) (h1 : p ≤ l.length) (n : Int) (hn1 : 1 < n) :
    ∃ v p', spec_l1Rd_below.f l p n = some (v, p') ∧ 0 ≤ v ∧ v < n ∧ 0 ≤ p' ∧ p' ≤ l.length := by
  unfold spec_l1Rd_below.f
  rw [if_neg (by omega)]
  obtain ⟨v, p', e, a, b, c, d⟩ := next_some l hl hn p h0 h1
  rw [e]; simp only [Option.bind_some]
  by_cases c2 : n ≤ 256
  · rw [if_pos c2, if_neg (by omega)]
    have e1 : Int.tmod v n = v % n := Int.tmod_eq_emod_of_nonneg a
    exact ⟨_, _, rfl, by rw [e1]; exact Int.emod_nonneg _ (by omega), by rw [e1]; exact Int.emod_lt_of_pos _ (by omega), c, d⟩
  · rw [if_neg c2]
    obtain ⟨v2, p2, e2, a2, b2, c3, d2⟩ := next_some l hl hn p' c d
    rw [e2]; simp only [Option.bind_some]
    rw [if_neg (by omega)]
    have e0 : wrap64 (wrap64 (v * 256) + v2) = v * 256 + v2 := by unfold wrap64; omega
    have e1 : Int.tmod (v * 256 + v2) n = (v * 256 + v2) % n := Int.tmod_eq_emod_of_nonneg (by omega)
    exact ⟨_, _, rfl, by rw [e0, e1]; exact Int.emod_nonneg _ (by omega), by rw [e0, e1]; exact Int.emod_lt_of_pos _ (by omega), c3, d2⟩
theorem once_some (l : List Int) (hl : ∀ x ∈ l, 0 ≤ x ∧ x ≤ 255) (hn : l.length ≤ 1048576) (p : Int) (h0 : 0 ≤ p) (h1 : p ≤ l.length) (n : Int) (hn1 : 1 < n) :
    ∃ b p', spec_l1Rd_once.f l p n = some (b, p') ∧ 0 ≤ p' ∧ p' ≤ l.length := by
  unfold spec_l1Rd_once.f
  obtain ⟨v, p', e, -, -, c, d⟩ := below_some l hl hn p h0 h1 n hn1
  rw [e]; exact ⟨_, _, rfl, c, d⟩
theorem word_some_l (l : List Int) (hl : ∀ x ∈ l, 0 ≤ x ∧ x ≤ 255) (hn : l.length ≤ 1048576) (d : Nat) : ∀ (k : Nat) (x i p : Int), 0 ≤ i → i + d = 8 → d < k → 0 ≤ p → p ≤ l.length → ∃ v p', spec_l1Rd_word.l0 k x i l p = some (v, p') ∧ 0 ≤ p' ∧ p' ≤ l.length := by
  induction d with
  | zero =>
    intro k x i p hi0 hi hk h0 h1
    obtain ⟨k, rfl⟩ : ∃ m, k = m + 1 := ⟨k - 1, by omega⟩
    simp only [spec_l1Rd_word.l0]
    rw [if_neg (by omega)]; exact ⟨_, _, rfl, h0, h1⟩
  | succ d ih =>
    intro k x i p hi0 hi hk h0 h1
    obtain ⟨k, rfl⟩ : ∃ m, k = m + 1 := ⟨k - 1, by omega⟩
    obtain ⟨v, p', e, -, -, c, d'⟩ := next_some l hl hn p h0 h1
    simp only [spec_l1Rd_word.l0]
    rw [if_pos (by omega), e]; simp only [Option.bind_some]
    rw [show wrap64 (i + 1) = i + 1 by unfold wrap64; omega]
    exact ih k _ (i + 1) p' (by omega) (by omega) (by omega) c d'
theorem word_some (l : List Int) (hl : ∀ x ∈ l, 0 ≤ x ∧ x ≤ 255) (hn : l.length ≤ 1048576) (p : Int) (h0 : 0 ≤ p) (h1 : p ≤ l.length) (k : Nat) (hk : 8 < k) : ∃ v p', spec_l1Rd_word.f k l p = some (v, p') ∧ 0 ≤ p' ∧ p' ≤ l.length :=
  word_some_l l hl hn 8 k 0 0 p (by decide) (by decide) hk h0 h1
theorem off_some (l : List Int) (hl : ∀ x ∈ l, 0 ≤ x ∧ x ≤ 255) (hn : l.length ≤ 1048576) (p : Int) (h0 : 0 ≤ p) (h1 : p ≤ l.length) (k : Nat) (hk : 8 < k) (a b : Int) (hab : 0 ≤ b - a) (hab2 : b - a < 9223372036854775807) :
    ∃ v p', spec_l1Rd_off.f k l p a b = some (v, p') ∧ 0 ≤ p' ∧ p' ≤ l.length := by
  unfold spec_l1Rd_off.f
  obtain ⟨t, p1, e1, c1, d1⟩ := once_some l hl hn p h0 h1 24 (by decide)
  rw [e1]; simp only [Option.bind_some]
  cases t with
  | true =>
    obtain ⟨v, p2, e2, a2, b2, c2, d2⟩ := below_some l hl hn p1 c1 d1 4 (by decide)
    rw [if_pos rfl, e2]; simp only [Option.bind_some]
    rw [if_pos a2, if_pos (by simpa using b2)]
    exact ⟨_, _, rfl, c2, d2⟩
  | false =>
    rw [if_neg (by decide)]
    unfold spec_l1Rd_near.f
    obtain ⟨v, p2, e2, a2, b2, c2, d2⟩ := below_some l hl hn p1 c1 d1 8 (by decide)
    rw [e2]; simp only [Option.bind_some]
    by_cases q1 : v = 0
    · rw [if_pos q1]; exact ⟨_, _, rfl, c2, d2⟩
    · rw [if_neg q1]
      by_cases q2 : v = 1
      · rw [if_pos q2]; exact ⟨_, _, rfl, c2, d2⟩
      · rw [if_neg q2, if_neg (by omega)]
        obtain ⟨v3, p3, e3, c3, d3⟩ := word_some l hl hn p2 c2 d2 k hk
        rw [e3]; simp only [Option.bind_some]
        rw [if_neg]
        · exact ⟨_, _, rfl, c3, d3⟩
        · rw [IntKind.wrap_u64]; unfold wrap64; omega
/-- What one round tells, all later ones do. -/
theorem Ev.of_mono {α : Type} {g : Nat → Option α} (hm : ∀ k, LeO (g k) (g (k + 1))) {K : Nat} {r : α} (h : g K = some r) : Ev g r := by
  refine ⟨K, fun k hk => ?_⟩
  obtain ⟨d, rfl⟩ : ∃ d, k = K + d := ⟨k - K, by omega⟩
  clear hk
  induction d with
  | zero => exact h
  | succ d ih => exact hm (K + d) r ih
theorem below1_some (l : List Int) (hl : ∀ x ∈ l, 0 ≤ x ∧ x ≤ 255) (hn : l.length ≤ 1048576) (p : Int) (h0 : 0 ≤ p) (h1 : p ≤ l.length) (n : Int) (hn1 : 1 ≤ n) :
    ∃ v p', spec_l1Rd_below.f l p n = some (v, p') ∧ 0 ≤ v ∧ v < n ∧ 0 ≤ p' ∧ p' ≤ l.length := by
  by_cases c : n ≤ 1
  · unfold spec_l1Rd_below.f
    rw [if_pos c]
    exact ⟨0, p, rfl, by omega, by omega, h0, h1⟩
  · exact below_some l hl hn p h0 h1 n (by omega)
theorem off_ev (l : List Int) (hl : ∀ x ∈ l, 0 ≤ x ∧ x ≤ 255) (hn : l.length ≤ 1048576) (p : Int) (h0 : 0 ≤ p) (h1 : p ≤ l.length) (a b : Int) (hab : 0 ≤ b - a) (hab2 : b - a < 9223372036854775807) :
    ∃ v p', Ev (fun k => spec_l1Rd_off.f k l p a b) (v, p') ∧ 0 ≤ p' ∧ p' ≤ l.length := by
  obtain ⟨v, p', e, c, d⟩ := off_some l hl hn p h0 h1 9 (by decide) a b hab hab2
  exact ⟨v, p', Ev.of_mono (fun k => spec_l1Rd_off.mono l p a b k) e, c, d⟩
end Go.Proofs.Ytjkbafcepblacaa.X
namespace Go.Proofs.Ytjkbafcepblacaa.X
set_option linter.unusedVariables false
set_option linter.unusedSimpArgs false
open Go.RowKit Go.Proofs.YtjkbafcepblacaaW.PrintWords Go.Proofs.YtjkbafcepblacaaW.PrintLast Go.Proofs.YtjkbafcepblacaaW.PrintMore
theorem graph_l (l : List Int) (hl : ∀ x ∈ l, 0 ≤ x ∧ x ≤ 255) (hn : l.length ≤ 1048576) (n : Int) (hn1 : 1 ≤ n) (hn7 : n ≤ 7) : ∀ (d i : Nat) (p : Int) (bs : List S88), (i : Int) + d = n → 0 ≤ p → p ≤ l.length → bs.length = i →
    ∃ ps r bs' p', Ev (fun k => spec_l1Rd_graph.l0 k n i l p 8 bs) (ps, r, bs', p') ∧ bs'.length ≤ 8 ∧ 0 ≤ p' ∧ p' ≤ l.length := by
  intro d
  induction d with
  | zero =>
    intro i p bs hi h0 h1 hb
    obtain ⟨b, p1, e1, c1, d1⟩ := once_some l hl hn p h0 h1 30 (by decide)
    cases b with
    | true =>
      obtain ⟨v, p2, e2, c2, d2⟩ := off_ev l hl hn p1 c1 d1 0 7 (by decide) (by decide)
      have e : Ev (fun k => spec_l1Rd_graph.l0 k n i l p 8 bs) (([] : List Int), (8 : Int), (bs.set (0 : Int).toNat (⟨(rd_T88 bs 0).f0, (rd_T88 bs 0).f1, (⟨(rd_T88 bs 0).f2.f0, (rd_T88 bs 0).f2.f1, v, (rd_T88 bs 0).f2.f3⟩ : S86)⟩ : S88)), p2) := by
        refine Ev.succ ?_
        simp only [spec_l1Rd_graph.l0]
        exact Ev.ineg (by omega) (Ev.bind (Ev.cst e1) (Ev.ipos rfl (Ev.bind e2 (Ev.ipos (by omega) (Ev.now _)))))
      exact ⟨_, _, _, _, e, by rw [List.length_set]; omega, c2, d2⟩
    | false =>
      have e : Ev (fun k => spec_l1Rd_graph.l0 k n i l p 8 bs) (([] : List Int), (8 : Int), bs, p1) := by
        refine Ev.succ ?_
        simp only [spec_l1Rd_graph.l0]
        exact Ev.ineg (by omega) (Ev.bind (Ev.cst e1) (Ev.ineg (show ¬ (false = true) by decide) (Ev.now _)))
      exact ⟨_, _, _, _, e, by omega, c1, d1⟩
  | succ d ih =>
    intro i p bs hi h0 h1 hb
    have hw : wrap64 ((i : Int) + 1) = ((i + 1 : Nat) : Int) := by rw [w64 (by omega) (by omega)]; rfl
    obtain ⟨t, p1, e1, a1, b1, c1, d1⟩ := below_some l hl hn p h0 h1 4 (by decide)
    have hj : ∀ x : Bool, ∃ ps r bs' p', Ev (fun k => spec_l1Rd_graph.j1 k n i t x l p1 8 bs 4 0 0 0) (ps, r, bs', p') ∧ bs'.length ≤ 8 ∧ 0 ≤ p' ∧ p' ≤ l.length := by
      intro x
      cases x with
      | true =>
        obtain ⟨u, p2, e2, a2, b2, c2, d2⟩ := below1_some l hl hn p1 c1 d1 n hn1
        obtain ⟨v, p3, e3, a3, b3, c3, d3⟩ := below1_some l hl hn p2 c2 d2 n hn1
        obtain ⟨ps, r, bs', p', e, hb', c', d'⟩ := ih (i + 1) p3 (bs ++ [(⟨([] : List (S95)), ([] : List (S27)), (⟨3, 0, u, v⟩ : S86)⟩ : S88)]) (by push_cast; omega) c3 d3 (by simp [hb])
        refine ⟨ps, r, bs', p', Ev.succ ?_, hb', c', d'⟩
        simp only [spec_l1Rd_graph.j1]
        rw [hw]
        exact Ev.ipos trivial (Ev.bind (Ev.cst e2) (Ev.bind (Ev.cst e3) (Ev.ipos (by omega) e)))
      | false =>
        by_cases h2 : t = 2
        · obtain ⟨u, p2, e2, a2, b2, c2, d2⟩ := below1_some l hl hn p1 c1 d1 n hn1
          obtain ⟨ps, r, bs', p', e, hb', c', d'⟩ := ih (i + 1) p2 (bs ++ [(⟨([] : List (S95)), ([] : List (S27)), (⟨2, 0, u, 0⟩ : S86)⟩ : S88)]) (by push_cast; omega) c2 d2 (by simp [hb])
          refine ⟨ps, r, bs', p', Ev.succ ?_, hb', c', d'⟩
          simp only [spec_l1Rd_graph.j1]
          rw [hw]
          exact Ev.ineg (by decide) (Ev.ipos h2 (Ev.bind (Ev.cst e2) (Ev.ipos (by omega) e)))
        · obtain ⟨ps, r, bs', p', e, hb', c', d'⟩ := ih (i + 1) p1 (bs ++ [(⟨([] : List (S95)), ([] : List (S27)), (⟨4, 0, 0, 0⟩ : S86)⟩ : S88)]) (by push_cast; omega) c1 d1 (by simp [hb])
          refine ⟨ps, r, bs', p', Ev.succ ?_, hb', c', d'⟩
          simp only [spec_l1Rd_graph.j1]
          rw [hw]
          exact Ev.ineg (by decide) (Ev.ineg h2 (Ev.ipos (by omega) e))
    by_cases ht : t = 0
    · obtain ⟨ps, r, bs', p', e, hb', c', d'⟩ := hj (t == 0)
      refine ⟨ps, r, bs', p', Ev.succ ?_, hb', c', d'⟩
      simp only [spec_l1Rd_graph.l0]
      exact Ev.ipos (by omega) (Ev.bind (Ev.cst e1) (Ev.ipos ht e))
    · obtain ⟨ps, r, bs', p', e, hb', c', d'⟩ := hj (t == 1)
      refine ⟨ps, r, bs', p', Ev.succ ?_, hb', c', d'⟩
      simp only [spec_l1Rd_graph.l0]
      exact Ev.ipos (by omega) (Ev.bind (Ev.cst e1) (Ev.ineg ht e))
theorem graph_ev (l : List Int) (hl : ∀ x ∈ l, 0 ≤ x ∧ x ≤ 255) (hn : l.length ≤ 1048576) (p : Int) (h0 : 0 ≤ p) (h1 : p ≤ l.length) :
    ∃ ps r bs' p', Ev (fun k => spec_l1Rd_graph.f k l p) (ps, r, bs', p') ∧ bs'.length ≤ 8 ∧ 0 ≤ p' ∧ p' ≤ l.length := by
  obtain ⟨v, p1, e1, a1, b1, c1, d1⟩ := below_some l hl hn p h0 h1 7 (by decide)
  obtain ⟨ps, r, bs', p', e, hb', c', d'⟩ := graph_l l hl hn (1 + v) (by omega) (by omega) (1 + v).toNat 0 p1 [] (by push_cast; omega) c1 d1 rfl
  refine ⟨ps, r, bs', p', Ev.bind (Ev.cst e1) ?_, hb', c', d'⟩
  rw [w64 (x := 1 + v) (by omega) (by omega)]
  exact e
end Go.Proofs.Ytjkbafcepblacaa.X
namespace Go.Proofs.Ytjkbafcepblacaa.Pure
open Go.RowKit Go.Proofs.Ytjkbafcepblacaa.X Go.Proofs.YtjkbafcepblacaaW.PrintWords Go.Proofs.YtjkbafcepblacaaW.PrintLast
/-- The nearest one among the blocks below i, -1 for none. -/
def Near (l : List Block) (b best : Int) (i : Int) : Prop :=
  (best = -1 ∧ ∀ k, 0 ≤ k → k < i → k ≠ b → ¬ Dm l k b) ∨ ((0 ≤ best ∧ best < (l.length : Int)) ∧ best ≠ b ∧ Dm l best b ∧ ∀ k, 0 ≤ k → k < i → k ≠ b → Dm l k b → Dm l k best)
theorem near_l (p : List Int) (r : Int) (l : List Block) (b : Int) (ht : There l) (h0 : 0 ≤ b) (h1 : b < (l.length : Int)) : ∀ (d i : Nat) (best : Int), i + d = l.length → Near l b best i →
    ∃ R, Ev (fun k => impl_IdomOf.l0 k b best (l.length : Int) i p r l) R ∧ Near l b R (l.length : Int) := by
  have ht10 := ht.1
  intro d
  induction d with
  | zero =>
    intro i best hi hN
    obtain rfl : i = l.length := by omega
    exact ⟨best, Ev.step (fun k => rfl) (Ev.ineg (by omega) (Ev.now _)), hN⟩
  | succ d ih =>
    intro i best hi hN
    have hw : wrap64 ((i : Int) + 1) = ((i + 1 : Nat) : Int) := by rw [w64 (by omega) (by omega)]; rfl
    have hcast : ((i + 1 : Nat) : Int) = (i : Int) + 1 := by push_cast; rfl
    have hir : 0 ≤ (i : Int) ∧ (i : Int) < (l.length : Int) := by omega
    -- best stays, when i is told of
    have keep : (((i : Int) = b) ∨ ¬ Dm l i b ∨ (0 ≤ best ∧ Dm l i best)) → Near l b best ((i + 1 : Nat) : Int) := by
      intro hc
      rw [hcast]
      rcases hN with ⟨e, hn⟩ | ⟨hb, hbb, hdb, hn⟩
      · refine .inl ⟨e, fun k hk hk1 hkb hd => ?_⟩
        by_cases e' : k = (i : Int)
        · subst e'
          rcases hc with hc | hc | hc
          · exact hkb hc
          · exact hc hd
          · omega
        · exact hn k hk (by omega) hkb hd
      · refine .inr ⟨hb, hbb, hdb, fun k hk hk1 hkb hd => ?_⟩
        by_cases e' : k = (i : Int)
        · subst e'
          rcases hc with hc | hc | hc
          · exact absurd hc hkb
          · exact absurd hd hc
          · exact hc.2
        · exact hn k hk (by omega) hkb hd
    by_cases hb : (i : Int) = b
    · obtain ⟨R, e, hR⟩ := ih (i + 1) best (by omega) (keep (.inl hb))
      refine ⟨R, Ev.step (fun k => rfl) (Ev.ipos (by omega) (Ev.ipos hb ?_)), hR⟩
      rw [hw]; exact e
    · have d1 := implDom_ev p r l ht i b h0 h1
      have di := domB_iff l ht (by omega) i b h0
      by_cases hd : domB l i b = true
      · have hdm := di.1 hd
        by_cases hn : best < 0
        · have hN' : Near l b i ((i + 1 : Nat) : Int) := by
            rw [hcast]
            refine .inr ⟨hir, hb, hdm, fun k hk hk1 hkb hdk => ?_⟩
            rcases hN with ⟨e, hno⟩ | ⟨hb', _⟩
            · by_cases e' : k = (i : Int)
              · subst e'; exact Dm.self hdm.reached
              · exact absurd hdk (hno k hk (by omega) hkb)
            · omega
          obtain ⟨R, e, hR⟩ := ih (i + 1) i (by omega) hN'
          refine ⟨R, Ev.step (fun k => rfl) (Ev.ipos (by omega) (Ev.ineg hb (Ev.bind d1 (Ev.ipos hd (Ev.ipos hn ?_))))), hR⟩
          rw [hw]; exact e
        · have hbest : (0 ≤ best ∧ best < (l.length : Int)) ∧ best ≠ b ∧ Dm l best b ∧ ∀ k, 0 ≤ k → k < (i : Int) → k ≠ b → Dm l k b → Dm l k best := by
            rcases hN with ⟨e, _⟩ | h
            · omega
            · exact h
          obtain ⟨hbr, hbb, hdb, hall⟩ := hbest
          have e1 := implDom_ev p r l ht best i hir.1 hir.2
          have de := domB_iff l ht (by omega) best i hir.1
          by_cases he : domB l best i = true
          · have hbi := de.1 he
            have hN' : Near l b i ((i + 1 : Nat) : Int) := by
              rw [hcast]
              refine .inr ⟨hir, hb, hdm, fun k hk hk1 hkb hdk => ?_⟩
              by_cases e' : k = (i : Int)
              · subst e'; exact Dm.self hdm.reached
              · exact (hall k hk (by omega) hkb hdk).trans hbi
            obtain ⟨R, e, hR⟩ := ih (i + 1) i (by omega) hN'
            refine ⟨R, Ev.step (fun k => rfl) (Ev.ipos (by omega) (Ev.ineg hb (Ev.bind d1 (Ev.ipos hd (Ev.ineg hn (Ev.bind e1 (Ev.ipos he ?_))))))), hR⟩
            rw [hw]; exact e
          · have hib : Dm l i best := by
              rcases hdm.chain hdb with h | h
              · exact h
              · exact absurd (de.2 h) he
            obtain ⟨R, e, hR⟩ := ih (i + 1) best (by omega) (keep (.inr (.inr ⟨hbr.1, hib⟩)))
            refine ⟨R, Ev.step (fun k => rfl) (Ev.ipos (by omega) (Ev.ineg hb (Ev.bind d1 (Ev.ipos hd (Ev.ineg hn (Ev.bind e1 (Ev.ineg he ?_))))))), hR⟩
            rw [hw]; exact e
      · obtain ⟨R, e, hR⟩ := ih (i + 1) best (by omega) (keep (.inr (.inl (fun h => hd (di.2 h)))))
        refine ⟨R, Ev.step (fun k => rfl) (Ev.ipos (by omega) (Ev.ineg hb (Ev.bind d1 (Ev.ineg hd ?_)))), hR⟩
        rw [hw]; exact e
/-- What is asked of the nearest one: with D as to dominate. -/
def NearB (D : Int → Int → Bool) (n b d : Int) : Prop :=
  (d = -1 ∧ ∀ k, 0 ≤ k → k < n → k ≠ b → D k b = false) ∨ (0 ≤ d ∧ d ≠ b ∧ D d b = true ∧ ∀ k, 0 ≤ k → k < n → k ≠ b → D k b = true → D k d = true)
theorem idom_near (p : List Int) (r : Int) (l : List Block) (b : Int) (h : l.length ≤ 1048576) : ∃ R, Ev (fun k => impl_IdomOf.f k p r l b) R ∧ NearB (dominatesB l) (l.length : Int) b R := by
  by_cases cb : (0 ≤ b ∧ b < (l.length : Int)) ∧ There l
  · obtain ⟨R, e1, hR⟩ := near_l p r l b cb.2 cb.1.1 cb.1.2 l.length 0 (-1) (by omega) (.inl ⟨rfl, fun k hk hk1 => by omega⟩)
    refine ⟨R, Ev.bind (Ev.cst (implBlockOf_eq p r l b h)) (Ev.ipos (decide_eq_true cb) e1), ?_⟩
    rcases hR with ⟨e, hn⟩ | ⟨hr, hb, hd, hn⟩
    · refine .inl ⟨e, fun k hk hk1 hkb => ?_⟩
      have := hn k hk hk1 hkb
      rw [← dominatesB_iff cb.2 ⟨hk, hk1⟩ cb.1] at this
      simpa using this
    · refine .inr ⟨hr.1, hb, (dominatesB_iff cb.2 hr cb.1).2 hd, fun k hk hk1 hkb hkd => ?_⟩
      exact (dominatesB_iff cb.2 ⟨hk, hk1⟩ hr).2 (hn k hk hk1 hkb ((dominatesB_iff cb.2 ⟨hk, hk1⟩ cb.1).1 hkd))
  · refine ⟨-1, Ev.bind (Ev.cst (implBlockOf_eq p r l b h)) (Ev.ineg (by rw [decide_eq_false cb]; decide) (Ev.now _)), .inl ⟨rfl, fun k hk hk1 hkb => ?_⟩⟩
    unfold dominatesB
    rw [decide_eq_false cb, Bool.false_and, Bool.and_false]
theorem idom_law (p : List Int) (r : Int) (l : List Block) (b d : Int) (hl : l.length ≤ 1000) (h : NearB (dominatesB l) (l.length : Int) b d) : ∀ (m i : Nat), i + m = l.length → Ev (fun k => laws_FnIdom.l0 k b d i p r l) true := by
  have hD : ∀ x y, Ev (fun k => impl_Dominates.f k p r l x y) (dominatesB l x y) := fun x y => implDominates_ev p r l x y (by omega)
  intro m
  induction m with
  | zero =>
    intro i hi
    refine Ev.step (fun k => rfl) (Ev.ineg (by omega) ?_)
    rcases h with ⟨e, _⟩ | ⟨h0, hb, hd, _⟩
    · exact Ev.ipos (by omega) (Ev.now true)
    · refine Ev.ineg (by omega) (Ev.ineg hb (Ev.bind (hD _ _) ?_))
      rw [hd]; exact Ev.now true
  | succ m ih =>
    intro i hi
    have hw : wrap64 ((i : Int) + 1) = ((i + 1 : Nat) : Int) := by rw [w64 (by omega) (by omega)]; rfl
    refine Ev.step (fun k => rfl) (Ev.ipos (by omega) ?_)
    rw [hw]
    by_cases e : (i : Int) = b
    · exact Ev.ipos e (ih (i + 1) (by omega))
    · refine Ev.ineg e (Ev.bind (hD _ _) ?_)
      by_cases c : dominatesB l i b = true
      · rcases h with ⟨_, hn⟩ | ⟨h0, _, _, hn⟩
        · rw [hn i (by omega) (by omega) e] at c; cases c
        · exact Ev.ipos c (Ev.ineg (by omega) (Ev.bind (hD _ _) (Ev.ipos (hn i (by omega) (by omega) e c) (ih (i + 1) (by omega)))))
      · exact Ev.ineg c (ih (i + 1) (by omega))
theorem FnIdom : laws_FnIdom.Pure := by
  intro l _ _ hwf
  suffices e : Ev (fun k => laws_FnIdom.f k l) true from e.rounds
  have hl : ∀ x ∈ l, 0 ≤ x ∧ x ≤ 255 := fun x hx => by
    have := hwf x hx
    simp [Lit.wf, IntKind.min, IntKind.max, IntKind.signed, IntKind.bits] at this
    omega
  refine Ev.bind (Ev.cst rfl) ?_
  by_cases hbig : (l.length : Int) > 1048576
  · exact Ev.ipos (by simpa using hbig) (Ev.now true)
  · have hn : l.length ≤ 1048576 := by omega
    obtain ⟨ps, r, bs, p1, e1, hb, c1, d1⟩ := graph_ev l hl hn 0 (by omega) (by omega)
    obtain ⟨b, p2, e2, c2, d2⟩ := off_ev l hl hn p1 c1 d1 0 5 (by decide) (by decide)
    have hD : Ev (fun k => spec_DrawIdomOf.f k l) (ps, r, bs, b) := Ev.bind (Ev.cst rfl) (Ev.bind e1 (Ev.bind e2 (Ev.now _)))
    have hbs : bs.length ≤ 1048576 := by omega
    obtain ⟨R, f1, f2⟩ := idomOf_ev ps r bs b hbs
    obtain ⟨R', g1, hN⟩ := idom_near ps r bs b hbs
    have : R' = R := Ev.uniq g1 f1
    subst this
    refine Ev.ineg (by simpa using hbig) (Ev.bind hD (Ev.bind f1 (Ev.bind f2 (Ev.ipos rfl ?_))))
    exact idom_law ps r bs b _ (by omega) hN bs.length 0 (by omega)
end Go.Proofs.Ytjkbafcepblacaa.Pure
