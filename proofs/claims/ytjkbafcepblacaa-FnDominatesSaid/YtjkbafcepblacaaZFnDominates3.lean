/- PROVED HERE: what the functions that the law FnDominates reaches do in memory, each as a plain Lean function, and what these tell: part 4 of 5 of the proof of that law; no condition beyond those written out at each theorem. -/
import Derived.Test.YtjkbafcepblacaaZFnDominates0
import Derived.Test.YtjkbafcepblacaaZFnDominates1
import Derived.Test.YtjkbafcepblacaaZFnDominates2
namespace Go.Proofs.Ytjkbafcepblacaa.X
open Go.RowKit Go.Proofs.YtjkbafcepblacaaW.PrintWords Go.Proofs.YtjkbafcepblacaaW.PrintLast Go.Proofs.YtjkbafcepblacaaW.PrintMore
attribute [local go_sem] max2_int min2_int max_two min_two max_three min_three max_four min_four   -- for this text's walks alone
set_option linter.unusedVariables false
set_option linter.unusedSimpArgs false
/-! ### impl_IdomOf: function 31 -/
def impl_IdomOf.l0 : Nat → Int → Int → Int → Int → List Int → Int → List (S88) → Option (Int)
 | 0, _, _, _, _, _, _, _ => none
 | k + 1, x1, x5, x13, x14, x555000, x555001, x555002 => if x14 < x13 then (if x14 = x1 then (impl_IdomOf.l0 k x1 x5 x13 (wrap64 (x14 + 1)) x555000 x555001 x555002) else ((impl_dominates.f k x555000 x555001 x555002 x14 x1).bind fun t556 => (if t556 = true then (if x5 < 0 then (impl_IdomOf.l0 k x1 x14 x13 (wrap64 (x14 + 1)) x555000 x555001 x555002) else ((impl_dominates.f k x555000 x555001 x555002 x5 x14).bind fun t557 => (if t557 = true then (impl_IdomOf.l0 k x1 x14 x13 (wrap64 (x14 + 1)) x555000 x555001 x555002) else (impl_IdomOf.l0 k x1 x5 x13 (wrap64 (x14 + 1)) x555000 x555001 x555002)))) else (impl_IdomOf.l0 k x1 x5 x13 (wrap64 (x14 + 1)) x555000 x555001 x555002)))) else (some x5)
def impl_IdomOf.f (k : Nat) (l0_0 : List Int) (a0_1 : Int) (l0_2 : List (S88)) (a1 : Int) : Option (Int) := (impl_isBlockOf.f l0_0 a0_1 l0_2 a1).bind fun t555 => (if t555 = true then (impl_IdomOf.l0 k a1 (-1) (l0_2.length : Int) 0 l0_0 a0_1 l0_2) else (some (-1)))
theorem impl_IdomOf.mono_l : ∀ k, (∀ y0 y1 y2 y3 y4 y5 y6, LeO (impl_IdomOf.l0 k y0 y1 y2 y3 y4 y5 y6) (impl_IdomOf.l0 (k + 1) y0 y1 y2 y3 y4 y5 y6))
 | 0 => fun _ _ _ _ _ _ _ r h => by simp [impl_IdomOf.l0] at h
 | k + 1 => by
  have ih0 := impl_IdomOf.mono_l k
  ·intro y0 y1 y2 y3 y4 y5 y6
   unfold impl_IdomOf.l0
   repeat' first
   | (with_reducible exact ih0 _ _ _ _ _ _ _)
   | (with_reducible exact impl_dominates.mono _ _ _ _ _ _)
   | (with_reducible exact LeO.refl _)
   | (with_reducible exact LeO.none _)
   | (with_reducible refine LeO.ite ?_ ?_)
   | (with_reducible refine LeO.bind ?_ (fun _ => ?_))
   | exact ih0 _ _ _ _ _ _ _
   | exact impl_dominates.mono _ _ _ _ _ _
   | exact LeO.none _
   | refine LeO.ite ?_ ?_
   | refine LeO.bind ?_ (fun _ => ?_)
theorem impl_IdomOf.mono : ∀ a0 a1 a2 a3 k, LeO (impl_IdomOf.f k a0 a1 a2 a3) (impl_IdomOf.f (k + 1) a0 a1 a2 a3) := by
 intro a0 a1 a2 a3 k
 have ih0 := impl_IdomOf.mono_l k
 unfold impl_IdomOf.f
 repeat' first
   | (with_reducible exact ih0 _ _ _ _ _ _ _)
   | (with_reducible exact impl_dominates.mono _ _ _ _ _ _)
   | (with_reducible exact LeO.refl _)
   | (with_reducible exact LeO.none _)
   | (with_reducible refine LeO.ite ?_ ?_)
   | (with_reducible refine LeO.bind ?_ (fun _ => ?_))
   | exact ih0 _ _ _ _ _ _ _
   | exact impl_dominates.mono _ _ _ _ _ _
   | exact LeO.none _
   | refine LeO.ite ?_ ?_
   | refine LeO.bind ?_ (fun _ => ?_)
set_option maxHeartbeats 8000000 in
set_option maxRecDepth 100000 in
theorem impl_IdomOf.calls (k : Nat) (A0_0 : Option Addr) (c0_0 : Nat) (l0_0 : List Int) (a0_1 : Int) (A0_2 : Option Addr) (c0_2 : Nat) (l0_2 : List (S88)) (a1 : Int) (r : Int) (w : World) (hr0_0 : Kd.C (Kd.int .i64) w A0_0 l0_0.length l0_0) (hc0_0 : l0_0.length ≤ c0_0) (hr0_2 : Kd.C k88 w A0_2 l0_2.length l0_2) (hc0_2 : l0_2.length ≤ c0_2) (h : impl_IdomOf.f k l0_0 a0_1 l0_2 a1 = some r) :
  Calls Try.prog 31 #[.agg #[.slice A0_0 l0_0.length c0_0, .int .i64 a0_1, .slice A0_2 l0_2.length c0_2], .int .i64 a1] w fun e w' => e = .returned (.int .i64 r) ∧ Below w.heap.size w w' := by
 have hu41 := Try.underlying41
 have HR0_0 := Aside0.mk hr0_0
 have HC0_0 := Aside0.mk hc0_0
 clear hr0_0 hc0_0
 have HR0_2 := Aside0.mk hr0_2
 have HC0_2 := Aside0.mk hc0_2
 clear hr0_2 hc0_2
 have HB := Aside0.mk (Below.refl w.heap.size w)
 have H : ((impl_isBlockOf.f l0_0 a0_1 l0_2 a1).bind fun t555 => (if t555 = true then (impl_IdomOf.l0 k a1 (-1) (l0_2.length : Int) 0 l0_0 a0_1 l0_2) else (some (-1)))) = some r := h
 clear h
 replace H := Option.bind_eq_some_iff.mp H
 obtain ⟨t555, A30, H⟩ := H
 replace H : (if t555 = true then (impl_IdomOf.l0 k a1 (-1) (l0_2.length : Int) 0 l0_0 a0_1 l0_2) else (some (-1))) = some r := H
 have A3 := Aside0.mk A30
 clear A30
 by_cases c4 : t555 = true
 ·subst c4
  have H1 := (if_pos rfl).symm.trans H
  clear H
  have H := H1
  clear H1
  have H' := Aside0.mk H
  clear H
  go_enter Try.func31, Try.ntmps31
  go_wp2_with (first | ((with_reducible refine gate_dst (N := 2) rfl ?_); refine box_event ?hg (N := 2) ?hd (cs := #[.slice A0_0 l0_0.length c0_0, .int .i64 a0_1, .slice A0_2 l0_2.length c0_2]) (t := 41) ?hr ?_; (case hd => rfl); (case hg => rfl); (case hr => first | (go_simp; done) | (go_simp; rfl)); intro gb554 hg w5 hbox hb; have n0_ := Aside0.mk (below_step hB_ hb); have n1_ := Aside0.mk (hbox); have n2_ := Aside0.mk ((sz_ hg (below_size hB_) : w.heap.size ≤ gb554)); have n3_ := Aside0.mk ((sz_ hg (below_size hB_) : w.heap.size ≤ gb554)); clear HB; have HB := n0_; have BK554 := n1_; have GW554 := n2_; have GE554 := n3_; clear n0_ n1_ n2_ n3_; clear hb hbox hg; obtain ⟨hcz6_0, hcz6_1, hcz6_2, hfz6_0, hfz6_1, hfz6_2⟩ := blkc3_ BK554.out) | ((with_reducible refine gate_callee (f := 69) rfl ?_); refine gL_ (some 9) Try.func69 #[.agg #[.slice A0_0 l0_0.length c0_0, .int .i64 a0_1, .slice A0_2 l0_2.length c0_2], .int .i64 a1] ?_; (with_reducible refine (impl_isBlockOf.calls _ _ l0_0 a0_1 _ _ l0_2 a1 true _ ?side1 ?side2 ?side3 ?side4 A3.out).mono ?_); (case side1 => exact cHR0_0_); (case side2 => exact HC0_0.out); (case side3 => exact cHR0_2_); (case side4 => exact HC0_2.out); rintro e w7 ⟨rfl, hb⟩; refine ⟨_, rfl, ?_⟩; have n0_ := Aside0.mk (blk_below (g := gb554) (o := .cells #[.slice A0_0 l0_0.length c0_0, .int .i64 a0_1, .slice A0_2 l0_2.length c0_2] 41 (0, 0)) bK554_ hb); have n1_ := Aside0.mk (below_step hS_ hb); clear BK554; clear HB; have BK554 := n0_; have HB := n1_; clear n0_ n1_; (try clear hb); (try clear hb2); (try clear hk); (try clear hi); obtain ⟨hcz8_0, hcz8_1, hcz8_2, hfz8_0, hfz8_1, hfz8_2⟩ := blkc3_ BK554.out))
  go_loopg [5, 14] k (fun kq v5 v14 w' => ∃ (x5_1 : Int) (x14_1 : Int), v5 = .int .i64 x5_1 ∧ v14 = .int .i64 x14_1 ∧ Aside0 (impl_IdomOf.l0 kq a1 x5_1 (l0_2.length : Int) x14_1 l0_0 a0_1 l0_2 = some r) ∧ Aside0 (kq ≤ k) ∧ Aside0 (w'.heap[gb554]? = some (.cells #[(.slice A0_0 l0_0.length c0_0), .int .i64 a0_1, (.slice A0_2 l0_2.length c0_2)] 41 (0, 0))) ∧ Aside0 (Below w.heap.size w w'))
  case atStart => exact ⟨((-1)), (0), rF_, rF_, H', ⟨Nat.le_refl _⟩, ⟨bK554_⟩, ⟨hS_⟩⟩
  case round =>
   clear H'
   try clear p2
   try clear c3
   try clear c4
   try clear c6
   try clear hcz6_0 hcz6_1 hcz6_2 hfz6_0 hfz6_1 hfz6_2
   try clear hcz8_0 hcz8_1 hcz8_2 hfz8_0 hfz8_1 hfz8_2
   obtain ⟨x5_1, x14_1, rfl, rfl, HA, HK1, BK554, HB⟩ := hrel
   cases gk with
   | zero => exact absurd HA.out (by simp [impl_IdomOf.l0])
   | succ k1 =>
    have H := HA.out
    clear HA
    simp only [impl_IdomOf.l0] at H
    by_cases c9 : x14_1 < (l0_2.length : Int)
    ·rw [if_pos c9] at H
     have c9b0 : decide (x14_1 < (l0_2.length : Int)) = true := decide_eq_true c9
     clear c9
     by_cases c10 : x14_1 = a1
     ·rw [if_pos c10] at H
      have c10b0 : (x14_1 == a1) = true := beq_iff_eq.mpr c10
      have c10b1 : (x14_1 != a1) = false := bne_eq_false_iff_eq.mpr c10
      clear c10
      have H' := Aside0.mk H
      clear H
      go_wp2
      go_roundg k1
      case measure => have := HK1.out; omega
      case rel => exact ⟨(x5_1), (wrap64 (x14_1 + 1)), rF_, rF_, H', ⟨by have := HK1.out; omega⟩, ⟨bK554_⟩, ⟨hS_⟩⟩
     ·rw [if_neg c10] at H
      have c10b0 : (x14_1 == a1) = false := beq_eq_false_iff_ne.mpr c10
      have c10b1 : (x14_1 != a1) = true := bne_iff_ne.mpr c10
      replace H := Option.bind_eq_some_iff.mp H
      obtain ⟨t556, A110, H⟩ := H
      replace H : (if t556 = true then (if x5_1 < 0 then (impl_IdomOf.l0 k1 a1 x14_1 (l0_2.length : Int) (wrap64 (x14_1 + 1)) l0_0 a0_1 l0_2) else ((impl_dominates.f k1 l0_0 a0_1 l0_2 x5_1 x14_1).bind fun t557 => (if t557 = true then (impl_IdomOf.l0 k1 a1 x14_1 (l0_2.length : Int) (wrap64 (x14_1 + 1)) l0_0 a0_1 l0_2) else (impl_IdomOf.l0 k1 a1 x5_1 (l0_2.length : Int) (wrap64 (x14_1 + 1)) l0_0 a0_1 l0_2)))) else (impl_IdomOf.l0 k1 a1 x5_1 (l0_2.length : Int) (wrap64 (x14_1 + 1)) l0_0 a0_1 l0_2)) = some r := H
      have A11 := Aside0.mk A110
      clear A110
      by_cases c12 : t556 = true
      ·subst c12
       have H1 := (if_pos rfl).symm.trans H
       clear H
       have H := H1
       clear H1
       by_cases c13 : x5_1 < 0
       ·rw [if_pos c13] at H
        have c13b0 : decide (x5_1 < 0) = true := decide_eq_true c13
        clear c13
        have H' := Aside0.mk H
        clear H
        obtain ⟨hcz14_0, hcz14_1, hcz14_2, hfz14_0, hfz14_1, hfz14_2⟩ := blkc3_ BK554.out
        go_wp2_with (first | (go_at_call 70; (with_reducible refine (impl_dominates.calls k1 _ _ l0_0 a0_1 _ _ l0_2 x14_1 a1 true _ ?side1 ?side2 ?side3 ?side4 A11.out).mono ?_); (case side1 => exact cHR0_0_); (case side2 => exact HC0_0.out); (case side3 => exact cHR0_2_); (case side4 => exact HC0_2.out); rintro e w15 ⟨rfl, hb⟩; have n0_ := Aside0.mk (blk_below (g := gb554) (o := .cells #[.slice A0_0 l0_0.length c0_0, .int .i64 a0_1, .slice A0_2 l0_2.length c0_2] 41 (0, 0)) bK554_ hb); have n1_ := Aside0.mk (below_step hS_ hb); clear BK554; clear HB; have BK554 := n0_; have HB := n1_; clear n0_ n1_; (try clear hb); (try clear hb2); (try clear hk); (try clear hi)))
        go_roundg k1
        case measure => have := HK1.out; omega
        case rel => exact ⟨(x14_1), (wrap64 (x14_1 + 1)), rF_, rF_, H', ⟨by have := HK1.out; omega⟩, ⟨bK554_⟩, ⟨hS_⟩⟩
       ·rw [if_neg c13] at H
        have c13b0 : decide (x5_1 < 0) = false := decide_eq_false c13
        clear c13
        replace H := Option.bind_eq_some_iff.mp H
        obtain ⟨t557, A160, H⟩ := H
        replace H : (if t557 = true then (impl_IdomOf.l0 k1 a1 x14_1 (l0_2.length : Int) (wrap64 (x14_1 + 1)) l0_0 a0_1 l0_2) else (impl_IdomOf.l0 k1 a1 x5_1 (l0_2.length : Int) (wrap64 (x14_1 + 1)) l0_0 a0_1 l0_2)) = some r := H
        have A16 := Aside0.mk A160
        clear A160
        by_cases c17 : t557 = true
        ·subst c17
         have H1 := (if_pos rfl).symm.trans H
         clear H
         have H := H1
         clear H1
         have H' := Aside0.mk H
         clear H
         obtain ⟨hcz18_0, hcz18_1, hcz18_2, hfz18_0, hfz18_1, hfz18_2⟩ := blkc3_ BK554.out
         go_wp2_with (first | (go_at_call 70; (with_reducible refine (impl_dominates.calls k1 _ _ l0_0 a0_1 _ _ l0_2 x14_1 a1 true _ ?side1 ?side2 ?side3 ?side4 A11.out).mono ?_); (case side1 => exact cHR0_0_); (case side2 => exact HC0_0.out); (case side3 => exact cHR0_2_); (case side4 => exact HC0_2.out); rintro e w19 ⟨rfl, hb⟩; have n0_ := Aside0.mk (blk_below (g := gb554) (o := .cells #[.slice A0_0 l0_0.length c0_0, .int .i64 a0_1, .slice A0_2 l0_2.length c0_2] 41 (0, 0)) bK554_ hb); have n1_ := Aside0.mk (below_step hS_ hb); clear BK554; clear HB; have BK554 := n0_; have HB := n1_; clear n0_ n1_; (try clear hb); (try clear hb2); (try clear hk); (try clear hi); obtain ⟨hcz20_0, hcz20_1, hcz20_2, hfz20_0, hfz20_1, hfz20_2⟩ := blkc3_ BK554.out) | (go_at_call 70; (with_reducible refine (impl_dominates.calls k1 _ _ l0_0 a0_1 _ _ l0_2 x5_1 x14_1 true _ ?side1 ?side2 ?side3 ?side4 A16.out).mono ?_); (case side1 => exact cHR0_0_); (case side2 => exact HC0_0.out); (case side3 => exact cHR0_2_); (case side4 => exact HC0_2.out); rintro e w21 ⟨rfl, hb⟩; have n0_ := Aside0.mk (blk_below (g := gb554) (o := .cells #[.slice A0_0 l0_0.length c0_0, .int .i64 a0_1, .slice A0_2 l0_2.length c0_2] 41 (0, 0)) bK554_ hb); have n1_ := Aside0.mk (below_step hS_ hb); clear BK554; clear HB; have BK554 := n0_; have HB := n1_; clear n0_ n1_; (try clear hb); (try clear hb2); (try clear hk); (try clear hi)))
         go_roundg k1
         case measure => have := HK1.out; omega
         case rel => exact ⟨(x14_1), (wrap64 (x14_1 + 1)), rF_, rF_, H', ⟨by have := HK1.out; omega⟩, ⟨bK554_⟩, ⟨hS_⟩⟩
        ·replace c17 := Bool.eq_false_iff.mpr c17
         subst c17
         have H1 := (if_neg (show ¬ (false = true) by decide)).symm.trans H
         clear H
         have H := H1
         clear H1
         have H' := Aside0.mk H
         clear H
         obtain ⟨hcz22_0, hcz22_1, hcz22_2, hfz22_0, hfz22_1, hfz22_2⟩ := blkc3_ BK554.out
         go_wp2_with (first | (go_at_call 70; (with_reducible refine (impl_dominates.calls k1 _ _ l0_0 a0_1 _ _ l0_2 x14_1 a1 true _ ?side1 ?side2 ?side3 ?side4 A11.out).mono ?_); (case side1 => exact cHR0_0_); (case side2 => exact HC0_0.out); (case side3 => exact cHR0_2_); (case side4 => exact HC0_2.out); rintro e w23 ⟨rfl, hb⟩; have n0_ := Aside0.mk (blk_below (g := gb554) (o := .cells #[.slice A0_0 l0_0.length c0_0, .int .i64 a0_1, .slice A0_2 l0_2.length c0_2] 41 (0, 0)) bK554_ hb); have n1_ := Aside0.mk (below_step hS_ hb); clear BK554; clear HB; have BK554 := n0_; have HB := n1_; clear n0_ n1_; (try clear hb); (try clear hb2); (try clear hk); (try clear hi); obtain ⟨hcz24_0, hcz24_1, hcz24_2, hfz24_0, hfz24_1, hfz24_2⟩ := blkc3_ BK554.out) | (go_at_call 70; (with_reducible refine (impl_dominates.calls k1 _ _ l0_0 a0_1 _ _ l0_2 x5_1 x14_1 false _ ?side1 ?side2 ?side3 ?side4 A16.out).mono ?_); (case side1 => exact cHR0_0_); (case side2 => exact HC0_0.out); (case side3 => exact cHR0_2_); (case side4 => exact HC0_2.out); rintro e w25 ⟨rfl, hb⟩; have n0_ := Aside0.mk (blk_below (g := gb554) (o := .cells #[.slice A0_0 l0_0.length c0_0, .int .i64 a0_1, .slice A0_2 l0_2.length c0_2] 41 (0, 0)) bK554_ hb); have n1_ := Aside0.mk (below_step hS_ hb); clear BK554; clear HB; have BK554 := n0_; have HB := n1_; clear n0_ n1_; (try clear hb); (try clear hb2); (try clear hk); (try clear hi)))
         go_roundg k1
         case measure => have := HK1.out; omega
         case rel => exact ⟨(x5_1), (wrap64 (x14_1 + 1)), rF_, rF_, H', ⟨by have := HK1.out; omega⟩, ⟨bK554_⟩, ⟨hS_⟩⟩
      ·replace c12 := Bool.eq_false_iff.mpr c12
       subst c12
       have H1 := (if_neg (show ¬ (false = true) by decide)).symm.trans H
       clear H
       have H := H1
       clear H1
       have H' := Aside0.mk H
       clear H
       obtain ⟨hcz26_0, hcz26_1, hcz26_2, hfz26_0, hfz26_1, hfz26_2⟩ := blkc3_ BK554.out
       go_wp2_with (first | (go_at_call 70; (with_reducible refine (impl_dominates.calls k1 _ _ l0_0 a0_1 _ _ l0_2 x14_1 a1 false _ ?side1 ?side2 ?side3 ?side4 A11.out).mono ?_); (case side1 => exact cHR0_0_); (case side2 => exact HC0_0.out); (case side3 => exact cHR0_2_); (case side4 => exact HC0_2.out); rintro e w27 ⟨rfl, hb⟩; have n0_ := Aside0.mk (blk_below (g := gb554) (o := .cells #[.slice A0_0 l0_0.length c0_0, .int .i64 a0_1, .slice A0_2 l0_2.length c0_2] 41 (0, 0)) bK554_ hb); have n1_ := Aside0.mk (below_step hS_ hb); clear BK554; clear HB; have BK554 := n0_; have HB := n1_; clear n0_ n1_; (try clear hb); (try clear hb2); (try clear hk); (try clear hi)))
       go_roundg k1
       case measure => have := HK1.out; omega
       case rel => exact ⟨(x5_1), (wrap64 (x14_1 + 1)), rF_, rF_, H', ⟨by have := HK1.out; omega⟩, ⟨bK554_⟩, ⟨hS_⟩⟩
    ·rw [if_neg c9] at H
     have c9b0 : decide (x14_1 < (l0_2.length : Int)) = false := decide_eq_false c9
     clear c9
     obtain rfl := Option.some.inj H
     go_wp2
     go_ret
     exact ⟨rG_, hS_⟩
 ·replace c4 := Bool.eq_false_iff.mpr c4
  subst c4
  have H1 := (if_neg (show ¬ (false = true) by decide)).symm.trans H
  clear H
  have H := H1
  clear H1
  obtain rfl := Option.some.inj H
  go_enter Try.func31, Try.ntmps31
  go_wp2_with (first | ((with_reducible refine gate_dst (N := 2) rfl ?_); refine box_event ?hg (N := 2) ?hd (cs := #[.slice A0_0 l0_0.length c0_0, .int .i64 a0_1, .slice A0_2 l0_2.length c0_2]) (t := 41) ?hr ?_; (case hd => rfl); (case hg => rfl); (case hr => first | (go_simp; done) | (go_simp; rfl)); intro gb554 hg w28 hbox hb; have n0_ := Aside0.mk (below_step hB_ hb); have n1_ := Aside0.mk (hbox); have n2_ := Aside0.mk ((sz_ hg (below_size hB_) : w.heap.size ≤ gb554)); have n3_ := Aside0.mk ((sz_ hg (below_size hB_) : w.heap.size ≤ gb554)); clear HB; have HB := n0_; have BK554 := n1_; have GW554 := n2_; have GE554 := n3_; clear n0_ n1_ n2_ n3_; clear hb hbox hg; obtain ⟨hcz29_0, hcz29_1, hcz29_2, hfz29_0, hfz29_1, hfz29_2⟩ := blkc3_ BK554.out) | ((with_reducible refine gate_callee (f := 69) rfl ?_); refine gL_ (some 9) Try.func69 #[.agg #[.slice A0_0 l0_0.length c0_0, .int .i64 a0_1, .slice A0_2 l0_2.length c0_2], .int .i64 a1] ?_; (with_reducible refine (impl_isBlockOf.calls _ _ l0_0 a0_1 _ _ l0_2 a1 false _ ?side1 ?side2 ?side3 ?side4 A3.out).mono ?_); (case side1 => exact cHR0_0_); (case side2 => exact HC0_0.out); (case side3 => exact cHR0_2_); (case side4 => exact HC0_2.out); rintro e w30 ⟨rfl, hb⟩; refine ⟨_, rfl, ?_⟩; have n0_ := Aside0.mk (blk_below (g := gb554) (o := .cells #[.slice A0_0 l0_0.length c0_0, .int .i64 a0_1, .slice A0_2 l0_2.length c0_2] 41 (0, 0)) bK554_ hb); have n1_ := Aside0.mk (below_step hS_ hb); clear BK554; clear HB; have BK554 := n0_; have HB := n1_; clear n0_ n1_; (try clear hb); (try clear hb2); (try clear hk); (try clear hi)))
  go_ret
  exact ⟨rG_, hS_⟩
/-! ### spec_IdomOf: function 32 -/
def spec_IdomOf.l0 : Nat → Int → Int → Int → List Int → Int → List (S88) → Option (Int)
 | 0, _, _, _, _, _, _ => none
 | k + 1, x1, x5, x6, x559000, x559001, x559002 => if x6 < (x559002.length : Int) then (if x6 = x1 then (spec_IdomOf.l0 k x1 x5 (wrap64 (x6 + 1)) x559000 x559001 x559002) else ((spec_l3Dom.f k x559000 x559001 x559002 x6 x1).bind fun t560 => (if t560 = true then (if x5 < 0 then (spec_IdomOf.l0 k x1 x6 (wrap64 (x6 + 1)) x559000 x559001 x559002) else ((spec_l3Dom.f k x559000 x559001 x559002 x5 x6).bind fun t561 => (if t561 = true then (spec_IdomOf.l0 k x1 x6 (wrap64 (x6 + 1)) x559000 x559001 x559002) else (spec_IdomOf.l0 k x1 x5 (wrap64 (x6 + 1)) x559000 x559001 x559002)))) else (spec_IdomOf.l0 k x1 x5 (wrap64 (x6 + 1)) x559000 x559001 x559002)))) else (some x5)
def spec_IdomOf.f (k : Nat) (l0_0 : List Int) (a0_1 : Int) (l0_2 : List (S88)) (a1 : Int) : Option (Int) := (spec_l3There.f k l0_0 a0_1 l0_2 a1).bind fun t559 => (if t559 = true then (spec_IdomOf.l0 k a1 (-1) 0 l0_0 a0_1 l0_2) else (some (-1)))
theorem spec_IdomOf.mono_l : ∀ k, (∀ y0 y1 y2 y3 y4 y5, LeO (spec_IdomOf.l0 k y0 y1 y2 y3 y4 y5) (spec_IdomOf.l0 (k + 1) y0 y1 y2 y3 y4 y5))
 | 0 => fun _ _ _ _ _ _ r h => by simp [spec_IdomOf.l0] at h
 | k + 1 => by
  have ih0 := spec_IdomOf.mono_l k
  ·intro y0 y1 y2 y3 y4 y5
   unfold spec_IdomOf.l0
   repeat' first
   | (with_reducible exact ih0 _ _ _ _ _ _)
   | (with_reducible exact spec_l3Dom.mono _ _ _ _ _ _)
   | (with_reducible exact spec_l3There.mono _ _ _ _ _)
   | (with_reducible exact LeO.refl _)
   | (with_reducible exact LeO.none _)
   | (with_reducible refine LeO.ite ?_ ?_)
   | (with_reducible refine LeO.bind ?_ (fun _ => ?_))
   | exact ih0 _ _ _ _ _ _
   | exact spec_l3Dom.mono _ _ _ _ _ _
   | exact spec_l3There.mono _ _ _ _ _
   | exact LeO.none _
   | refine LeO.ite ?_ ?_
   | refine LeO.bind ?_ (fun _ => ?_)
theorem spec_IdomOf.mono : ∀ a0 a1 a2 a3 k, LeO (spec_IdomOf.f k a0 a1 a2 a3) (spec_IdomOf.f (k + 1) a0 a1 a2 a3) := by
 intro a0 a1 a2 a3 k
 have ih0 := spec_IdomOf.mono_l k
 unfold spec_IdomOf.f
 repeat' first
   | (with_reducible exact ih0 _ _ _ _ _ _)
   | (with_reducible exact spec_l3Dom.mono _ _ _ _ _ _)
   | (with_reducible exact spec_l3There.mono _ _ _ _ _)
   | (with_reducible exact LeO.refl _)
   | (with_reducible exact LeO.none _)
   | (with_reducible refine LeO.ite ?_ ?_)
   | (with_reducible refine LeO.bind ?_ (fun _ => ?_))
   | exact ih0 _ _ _ _ _ _
   | exact spec_l3Dom.mono _ _ _ _ _ _
   | exact spec_l3There.mono _ _ _ _ _
   | exact LeO.none _
   | refine LeO.ite ?_ ?_
   | refine LeO.bind ?_ (fun _ => ?_)
set_option maxHeartbeats 8000000 in
set_option maxRecDepth 100000 in
theorem spec_IdomOf.calls (k : Nat) (A0_0 : Option Addr) (c0_0 : Nat) (l0_0 : List Int) (a0_1 : Int) (A0_2 : Option Addr) (c0_2 : Nat) (l0_2 : List (S88)) (a1 : Int) (r : Int) (w : World) (hr0_0 : Kd.C (Kd.int .i64) w A0_0 l0_0.length l0_0) (hc0_0 : l0_0.length ≤ c0_0) (hr0_2 : Kd.C k88 w A0_2 l0_2.length l0_2) (hc0_2 : l0_2.length ≤ c0_2) (h : spec_IdomOf.f k l0_0 a0_1 l0_2 a1 = some r) :
  Calls Try.prog 32 #[.agg #[.slice A0_0 l0_0.length c0_0, .int .i64 a0_1, .slice A0_2 l0_2.length c0_2], .int .i64 a1] w fun e w' => e = .returned (.int .i64 r) ∧ Below w.heap.size w w' := by
 have hu41 := Try.underlying41
 have HR0_0 := Aside0.mk hr0_0
 have HC0_0 := Aside0.mk hc0_0
 clear hr0_0 hc0_0
 have HR0_2 := Aside0.mk hr0_2
 have HC0_2 := Aside0.mk hc0_2
 clear hr0_2 hc0_2
 have HB := Aside0.mk (Below.refl w.heap.size w)
 have H : ((spec_l3There.f k l0_0 a0_1 l0_2 a1).bind fun t559 => (if t559 = true then (spec_IdomOf.l0 k a1 (-1) 0 l0_0 a0_1 l0_2) else (some (-1)))) = some r := h
 clear h
 replace H := Option.bind_eq_some_iff.mp H
 obtain ⟨t559, A30, H⟩ := H
 replace H : (if t559 = true then (spec_IdomOf.l0 k a1 (-1) 0 l0_0 a0_1 l0_2) else (some (-1))) = some r := H
 have A3 := Aside0.mk A30
 clear A30
 by_cases c4 : t559 = true
 ·subst c4
  have H1 := (if_pos rfl).symm.trans H
  clear H
  have H := H1
  clear H1
  have H' := Aside0.mk H
  clear H
  go_enter Try.func32, Try.ntmps32
  go_wp2_with (first | ((with_reducible refine gate_dst (N := 2) rfl ?_); refine box_event ?hg (N := 2) ?hd (cs := #[.slice A0_0 l0_0.length c0_0, .int .i64 a0_1, .slice A0_2 l0_2.length c0_2]) (t := 41) ?hr ?_; (case hd => rfl); (case hg => rfl); (case hr => first | (go_simp; done) | (go_simp; rfl)); intro gb558 hg w5 hbox hb; have n0_ := Aside0.mk (below_step hB_ hb); have n1_ := Aside0.mk (hbox); have n2_ := Aside0.mk ((sz_ hg (below_size hB_) : w.heap.size ≤ gb558)); have n3_ := Aside0.mk ((sz_ hg (below_size hB_) : w.heap.size ≤ gb558)); clear HB; have HB := n0_; have BK558 := n1_; have GW558 := n2_; have GE558 := n3_; clear n0_ n1_ n2_ n3_; clear hb hbox hg; obtain ⟨hcz6_0, hcz6_1, hcz6_2, hfz6_0, hfz6_1, hfz6_2⟩ := blkc3_ BK558.out) | ((with_reducible refine gate_callee (f := 71) rfl ?_); refine gL_ (some 9) Try.func71 #[.agg #[.slice A0_0 l0_0.length c0_0, .int .i64 a0_1, .slice A0_2 l0_2.length c0_2], .int .i64 a1] ?_; (with_reducible refine (spec_l3There.calls k _ _ l0_0 a0_1 _ _ l0_2 a1 true _ ?side1 ?side2 ?side3 ?side4 A3.out).mono ?_); (case side1 => exact cHR0_0_); (case side2 => exact HC0_0.out); (case side3 => exact cHR0_2_); (case side4 => exact HC0_2.out); rintro e w7 ⟨rfl, hb⟩; refine ⟨_, rfl, ?_⟩; have n0_ := Aside0.mk (blk_below (g := gb558) (o := .cells #[.slice A0_0 l0_0.length c0_0, .int .i64 a0_1, .slice A0_2 l0_2.length c0_2] 41 (0, 0)) bK558_ hb); have n1_ := Aside0.mk (below_step hS_ hb); clear BK558; clear HB; have BK558 := n0_; have HB := n1_; clear n0_ n1_; (try clear hb); (try clear hb2); (try clear hk); (try clear hi)))
  go_loopg [5, 6] k (fun kq v5 v6 w' => ∃ (x5_1 : Int) (x6_1 : Int), v5 = .int .i64 x5_1 ∧ v6 = .int .i64 x6_1 ∧ Aside0 (spec_IdomOf.l0 kq a1 x5_1 x6_1 l0_0 a0_1 l0_2 = some r) ∧ Aside0 (kq ≤ k) ∧ Aside0 (w'.heap[gb558]? = some (.cells #[(.slice A0_0 l0_0.length c0_0), .int .i64 a0_1, (.slice A0_2 l0_2.length c0_2)] 41 (0, 0))) ∧ Aside0 (Below w.heap.size w w'))
  case atStart => exact ⟨((-1)), (0), rF_, rF_, H', ⟨Nat.le_refl _⟩, ⟨bK558_⟩, ⟨hS_⟩⟩
  case round =>
   clear H'
   try clear p2
   try clear c3
   try clear c4
   try clear c7
   try clear hcz6_0 hcz6_1 hcz6_2 hfz6_0 hfz6_1 hfz6_2
   obtain ⟨x5_1, x6_1, rfl, rfl, HA, HK1, BK558, HB⟩ := hrel
   cases gk with
   | zero => exact absurd HA.out (by simp [spec_IdomOf.l0])
   | succ k1 =>
    have H := HA.out
    clear HA
    simp only [spec_IdomOf.l0] at H
    by_cases c8 : x6_1 < (l0_2.length : Int)
    ·rw [if_pos c8] at H
     have c8b0 : decide (x6_1 < (l0_2.length : Int)) = true := decide_eq_true c8
     clear c8
     by_cases c9 : x6_1 = a1
     ·rw [if_pos c9] at H
      have c9b0 : (x6_1 == a1) = true := beq_iff_eq.mpr c9
      have c9b1 : (x6_1 != a1) = false := bne_eq_false_iff_eq.mpr c9
      clear c9
      have H' := Aside0.mk H
      clear H
      obtain ⟨hcz10_0, hcz10_1, hcz10_2, hfz10_0, hfz10_1, hfz10_2⟩ := blkc3_ BK558.out
      go_wp2
      go_roundg k1
      case measure => have := HK1.out; omega
      case rel => exact ⟨(x5_1), (wrap64 (x6_1 + 1)), rF_, rF_, H', ⟨by have := HK1.out; omega⟩, ⟨bK558_⟩, ⟨hS_⟩⟩
     ·rw [if_neg c9] at H
      have c9b0 : (x6_1 == a1) = false := beq_eq_false_iff_ne.mpr c9
      have c9b1 : (x6_1 != a1) = true := bne_iff_ne.mpr c9
      replace H := Option.bind_eq_some_iff.mp H
      obtain ⟨t560, A110, H⟩ := H
      replace H : (if t560 = true then (if x5_1 < 0 then (spec_IdomOf.l0 k1 a1 x6_1 (wrap64 (x6_1 + 1)) l0_0 a0_1 l0_2) else ((spec_l3Dom.f k1 l0_0 a0_1 l0_2 x5_1 x6_1).bind fun t561 => (if t561 = true then (spec_IdomOf.l0 k1 a1 x6_1 (wrap64 (x6_1 + 1)) l0_0 a0_1 l0_2) else (spec_IdomOf.l0 k1 a1 x5_1 (wrap64 (x6_1 + 1)) l0_0 a0_1 l0_2)))) else (spec_IdomOf.l0 k1 a1 x5_1 (wrap64 (x6_1 + 1)) l0_0 a0_1 l0_2)) = some r := H
      have A11 := Aside0.mk A110
      clear A110
      by_cases c12 : t560 = true
      ·subst c12
       have H1 := (if_pos rfl).symm.trans H
       clear H
       have H := H1
       clear H1
       by_cases c13 : x5_1 < 0
       ·rw [if_pos c13] at H
        have c13b0 : decide (x5_1 < 0) = true := decide_eq_true c13
        clear c13
        have H' := Aside0.mk H
        clear H
        obtain ⟨hcz14_0, hcz14_1, hcz14_2, hfz14_0, hfz14_1, hfz14_2⟩ := blkc3_ BK558.out
        go_wp2_with (first | (go_at_call 72; (with_reducible refine (spec_l3Dom.calls k1 _ _ l0_0 a0_1 _ _ l0_2 x6_1 a1 true _ ?side1 ?side2 ?side3 ?side4 A11.out).mono ?_); (case side1 => exact cHR0_0_); (case side2 => exact HC0_0.out); (case side3 => exact cHR0_2_); (case side4 => exact HC0_2.out); rintro e w15 ⟨rfl, hb⟩; have n0_ := Aside0.mk (blk_below (g := gb558) (o := .cells #[.slice A0_0 l0_0.length c0_0, .int .i64 a0_1, .slice A0_2 l0_2.length c0_2] 41 (0, 0)) bK558_ hb); have n1_ := Aside0.mk (below_step hS_ hb); clear BK558; clear HB; have BK558 := n0_; have HB := n1_; clear n0_ n1_; (try clear hb); (try clear hb2); (try clear hk); (try clear hi)))
        go_roundg k1
        case measure => have := HK1.out; omega
        case rel => exact ⟨(x6_1), (wrap64 (x6_1 + 1)), rF_, rF_, H', ⟨by have := HK1.out; omega⟩, ⟨bK558_⟩, ⟨hS_⟩⟩
       ·rw [if_neg c13] at H
        have c13b0 : decide (x5_1 < 0) = false := decide_eq_false c13
        clear c13
        replace H := Option.bind_eq_some_iff.mp H
        obtain ⟨t561, A160, H⟩ := H
        replace H : (if t561 = true then (spec_IdomOf.l0 k1 a1 x6_1 (wrap64 (x6_1 + 1)) l0_0 a0_1 l0_2) else (spec_IdomOf.l0 k1 a1 x5_1 (wrap64 (x6_1 + 1)) l0_0 a0_1 l0_2)) = some r := H
        have A16 := Aside0.mk A160
        clear A160
        by_cases c17 : t561 = true
        ·subst c17
         have H1 := (if_pos rfl).symm.trans H
         clear H
         have H := H1
         clear H1
         have H' := Aside0.mk H
         clear H
         obtain ⟨hcz18_0, hcz18_1, hcz18_2, hfz18_0, hfz18_1, hfz18_2⟩ := blkc3_ BK558.out
         go_wp2_with (first | (go_at_call 72; (with_reducible refine (spec_l3Dom.calls k1 _ _ l0_0 a0_1 _ _ l0_2 x6_1 a1 true _ ?side1 ?side2 ?side3 ?side4 A11.out).mono ?_); (case side1 => exact cHR0_0_); (case side2 => exact HC0_0.out); (case side3 => exact cHR0_2_); (case side4 => exact HC0_2.out); rintro e w19 ⟨rfl, hb⟩; have n0_ := Aside0.mk (blk_below (g := gb558) (o := .cells #[.slice A0_0 l0_0.length c0_0, .int .i64 a0_1, .slice A0_2 l0_2.length c0_2] 41 (0, 0)) bK558_ hb); have n1_ := Aside0.mk (below_step hS_ hb); clear BK558; clear HB; have BK558 := n0_; have HB := n1_; clear n0_ n1_; (try clear hb); (try clear hb2); (try clear hk); (try clear hi); obtain ⟨hcz20_0, hcz20_1, hcz20_2, hfz20_0, hfz20_1, hfz20_2⟩ := blkc3_ BK558.out) | (go_at_call 72; (with_reducible refine (spec_l3Dom.calls k1 _ _ l0_0 a0_1 _ _ l0_2 x5_1 x6_1 true _ ?side1 ?side2 ?side3 ?side4 A16.out).mono ?_); (case side1 => exact cHR0_0_); (case side2 => exact HC0_0.out); (case side3 => exact cHR0_2_); (case side4 => exact HC0_2.out); rintro e w21 ⟨rfl, hb⟩; have n0_ := Aside0.mk (blk_below (g := gb558) (o := .cells #[.slice A0_0 l0_0.length c0_0, .int .i64 a0_1, .slice A0_2 l0_2.length c0_2] 41 (0, 0)) bK558_ hb); have n1_ := Aside0.mk (below_step hS_ hb); clear BK558; clear HB; have BK558 := n0_; have HB := n1_; clear n0_ n1_; (try clear hb); (try clear hb2); (try clear hk); (try clear hi)))
         go_roundg k1
         case measure => have := HK1.out; omega
         case rel => exact ⟨(x6_1), (wrap64 (x6_1 + 1)), rF_, rF_, H', ⟨by have := HK1.out; omega⟩, ⟨bK558_⟩, ⟨hS_⟩⟩
        ·replace c17 := Bool.eq_false_iff.mpr c17
         subst c17
         have H1 := (if_neg (show ¬ (false = true) by decide)).symm.trans H
         clear H
         have H := H1
         clear H1
         have H' := Aside0.mk H
         clear H
         obtain ⟨hcz22_0, hcz22_1, hcz22_2, hfz22_0, hfz22_1, hfz22_2⟩ := blkc3_ BK558.out
         go_wp2_with (first | (go_at_call 72; (with_reducible refine (spec_l3Dom.calls k1 _ _ l0_0 a0_1 _ _ l0_2 x6_1 a1 true _ ?side1 ?side2 ?side3 ?side4 A11.out).mono ?_); (case side1 => exact cHR0_0_); (case side2 => exact HC0_0.out); (case side3 => exact cHR0_2_); (case side4 => exact HC0_2.out); rintro e w23 ⟨rfl, hb⟩; have n0_ := Aside0.mk (blk_below (g := gb558) (o := .cells #[.slice A0_0 l0_0.length c0_0, .int .i64 a0_1, .slice A0_2 l0_2.length c0_2] 41 (0, 0)) bK558_ hb); have n1_ := Aside0.mk (below_step hS_ hb); clear BK558; clear HB; have BK558 := n0_; have HB := n1_; clear n0_ n1_; (try clear hb); (try clear hb2); (try clear hk); (try clear hi); obtain ⟨hcz24_0, hcz24_1, hcz24_2, hfz24_0, hfz24_1, hfz24_2⟩ := blkc3_ BK558.out) | (go_at_call 72; (with_reducible refine (spec_l3Dom.calls k1 _ _ l0_0 a0_1 _ _ l0_2 x5_1 x6_1 false _ ?side1 ?side2 ?side3 ?side4 A16.out).mono ?_); (case side1 => exact cHR0_0_); (case side2 => exact HC0_0.out); (case side3 => exact cHR0_2_); (case side4 => exact HC0_2.out); rintro e w25 ⟨rfl, hb⟩; have n0_ := Aside0.mk (blk_below (g := gb558) (o := .cells #[.slice A0_0 l0_0.length c0_0, .int .i64 a0_1, .slice A0_2 l0_2.length c0_2] 41 (0, 0)) bK558_ hb); have n1_ := Aside0.mk (below_step hS_ hb); clear BK558; clear HB; have BK558 := n0_; have HB := n1_; clear n0_ n1_; (try clear hb); (try clear hb2); (try clear hk); (try clear hi)))
         go_roundg k1
         case measure => have := HK1.out; omega
         case rel => exact ⟨(x5_1), (wrap64 (x6_1 + 1)), rF_, rF_, H', ⟨by have := HK1.out; omega⟩, ⟨bK558_⟩, ⟨hS_⟩⟩
      ·replace c12 := Bool.eq_false_iff.mpr c12
       subst c12
       have H1 := (if_neg (show ¬ (false = true) by decide)).symm.trans H
       clear H
       have H := H1
       clear H1
       have H' := Aside0.mk H
       clear H
       obtain ⟨hcz26_0, hcz26_1, hcz26_2, hfz26_0, hfz26_1, hfz26_2⟩ := blkc3_ BK558.out
       go_wp2_with (first | (go_at_call 72; (with_reducible refine (spec_l3Dom.calls k1 _ _ l0_0 a0_1 _ _ l0_2 x6_1 a1 false _ ?side1 ?side2 ?side3 ?side4 A11.out).mono ?_); (case side1 => exact cHR0_0_); (case side2 => exact HC0_0.out); (case side3 => exact cHR0_2_); (case side4 => exact HC0_2.out); rintro e w27 ⟨rfl, hb⟩; have n0_ := Aside0.mk (blk_below (g := gb558) (o := .cells #[.slice A0_0 l0_0.length c0_0, .int .i64 a0_1, .slice A0_2 l0_2.length c0_2] 41 (0, 0)) bK558_ hb); have n1_ := Aside0.mk (below_step hS_ hb); clear BK558; clear HB; have BK558 := n0_; have HB := n1_; clear n0_ n1_; (try clear hb); (try clear hb2); (try clear hk); (try clear hi)))
       go_roundg k1
       case measure => have := HK1.out; omega
       case rel => exact ⟨(x5_1), (wrap64 (x6_1 + 1)), rF_, rF_, H', ⟨by have := HK1.out; omega⟩, ⟨bK558_⟩, ⟨hS_⟩⟩
    ·rw [if_neg c8] at H
     have c8b0 : decide (x6_1 < (l0_2.length : Int)) = false := decide_eq_false c8
     clear c8
     obtain rfl := Option.some.inj H
     obtain ⟨hcz28_0, hcz28_1, hcz28_2, hfz28_0, hfz28_1, hfz28_2⟩ := blkc3_ BK558.out
     go_wp2
     go_ret
     exact ⟨rG_, hS_⟩
 ·replace c4 := Bool.eq_false_iff.mpr c4
  subst c4
  have H1 := (if_neg (show ¬ (false = true) by decide)).symm.trans H
  clear H
  have H := H1
  clear H1
  obtain rfl := Option.some.inj H
  go_enter Try.func32, Try.ntmps32
  go_wp2_with (first | ((with_reducible refine gate_dst (N := 2) rfl ?_); refine box_event ?hg (N := 2) ?hd (cs := #[.slice A0_0 l0_0.length c0_0, .int .i64 a0_1, .slice A0_2 l0_2.length c0_2]) (t := 41) ?hr ?_; (case hd => rfl); (case hg => rfl); (case hr => first | (go_simp; done) | (go_simp; rfl)); intro gb558 hg w29 hbox hb; have n0_ := Aside0.mk (below_step hB_ hb); have n1_ := Aside0.mk (hbox); have n2_ := Aside0.mk ((sz_ hg (below_size hB_) : w.heap.size ≤ gb558)); have n3_ := Aside0.mk ((sz_ hg (below_size hB_) : w.heap.size ≤ gb558)); clear HB; have HB := n0_; have BK558 := n1_; have GW558 := n2_; have GE558 := n3_; clear n0_ n1_ n2_ n3_; clear hb hbox hg; obtain ⟨hcz30_0, hcz30_1, hcz30_2, hfz30_0, hfz30_1, hfz30_2⟩ := blkc3_ BK558.out) | ((with_reducible refine gate_callee (f := 71) rfl ?_); refine gL_ (some 9) Try.func71 #[.agg #[.slice A0_0 l0_0.length c0_0, .int .i64 a0_1, .slice A0_2 l0_2.length c0_2], .int .i64 a1] ?_; (with_reducible refine (spec_l3There.calls k _ _ l0_0 a0_1 _ _ l0_2 a1 false _ ?side1 ?side2 ?side3 ?side4 A3.out).mono ?_); (case side1 => exact cHR0_0_); (case side2 => exact HC0_0.out); (case side3 => exact cHR0_2_); (case side4 => exact HC0_2.out); rintro e w31 ⟨rfl, hb⟩; refine ⟨_, rfl, ?_⟩; have n0_ := Aside0.mk (blk_below (g := gb558) (o := .cells #[.slice A0_0 l0_0.length c0_0, .int .i64 a0_1, .slice A0_2 l0_2.length c0_2] 41 (0, 0)) bK558_ hb); have n1_ := Aside0.mk (below_step hS_ hb); clear BK558; clear HB; have BK558 := n0_; have HB := n1_; clear n0_ n1_; (try clear hb); (try clear hb2); (try clear hk); (try clear hi)))
  go_ret
  exact ⟨rG_, hS_⟩
end Go.Proofs.Ytjkbafcepblacaa.X
namespace Go.Proofs.Ytjkbafcepblacaa.X
set_option linter.unusedVariables false
set_option linter.unusedSimpArgs false
open Go.RowKit Go.Proofs.YtjkbafcepblacaaW.PrintWords Go.Proofs.YtjkbafcepblacaaW.PrintLast Go.Proofs.YtjkbafcepblacaaW.PrintMore
theorem implDom_ev (p : List Int) (r : Int) (l : List Block) (ht : There l) (a b : Int) (h0 : 0 ≤ b) (h1 : b < l.length) : Ev (fun k => impl_dominates.f k p r l a b) (domB l a b) := by
  have hl := reachB_length l (-1)
  have hl' := reachB_length l a
  refine Ev.bind (implReach_ev p r l (-1) ht (by omega)) (Ev.ipos h0 (Ev.ipos (by omega) ?_))
  unfold domB
  by_cases hv : (reachB l (-1)).getD b.toNat false = true
  · refine Ev.ipos hv (Ev.bind (implReach_ev p r l a ht (by omega)) (Ev.ipos (by omega) (Ev.rw (Ev.now _) ?_)))
    rw [hv]; rfl
  · refine Ev.ineg hv (Ev.rw (Ev.now _) ?_)
    rw [show (reachB l (-1)).getD b.toNat false = false by simpa using hv]; rfl
theorem specDom_ev (p : List Int) (r : Int) (l : List Block) (ht : There l) (a b : Int) (h0 : 0 ≤ b) (h1 : b < l.length) : Ev (fun k => spec_l3Dom.f k p r l a b) (domB l a b) := by
  have ht10 := ht.1
  have hs : ∀ w, smI (idx (reachB l w) 0) := fun w => smI_small (by have := idx_length (reachB l w) 0; rw [reachB_length] at this; omega)
  refine Ev.bind (specReach_ev p r l (-1) ht (by omega)) (Ev.bind (has_ev _ b (hs _)) ?_)
  unfold domB
  by_cases hv : (reachB l (-1)).getD b.toNat false = true
  · refine Ev.ipos (decide_eq_true ((mem_idx0 _ b h0).2 hv)) (Ev.bind (specReach_ev p r l a ht (by omega)) (Ev.bind (has_ev _ b (hs _)) (Ev.rw (Ev.now _) ?_)))
    rw [hv, Bool.true_and]
    by_cases hw : (reachB l a).getD b.toNat false = true
    · rw [decide_eq_true ((mem_idx0 _ b h0).2 hw), hw]
    · rw [decide_eq_false (fun h => hw ((mem_idx0 _ b h0).1 h)), show (reachB l a).getD b.toNat false = false by simpa using hw]
  · refine Ev.ineg (by rw [decide_eq_false (fun h => hv ((mem_idx0 _ b h0).1 h))]; decide) (Ev.rw (Ev.now _) ?_)
    rw [show (reachB l (-1)).getD b.toNat false = false by simpa using hv]; rfl
def dominatesB (l : List Block) (a b : Int) : Bool := decide ((0 ≤ a ∧ a < (l.length : Int)) ∧ There l) && (decide ((0 ≤ b ∧ b < (l.length : Int)) ∧ There l) && domB l a b)
theorem implDominates_ev (p : List Int) (r : Int) (l : List Block) (a b : Int) (h : l.length ≤ 1048576) : Ev (fun k => impl_Dominates.f k p r l a b) (dominatesB l a b) := by
  unfold dominatesB
  refine Ev.bind (Ev.cst (implBlockOf_eq p r l a h)) ?_
  by_cases ca : (0 ≤ a ∧ a < (l.length : Int)) ∧ There l
  · rw [decide_eq_true ca, Bool.true_and]
    refine Ev.ipos rfl (Ev.bind (Ev.cst (implBlockOf_eq p r l b h)) ?_)
    by_cases cb : (0 ≤ b ∧ b < (l.length : Int)) ∧ There l
    · rw [decide_eq_true cb, Bool.true_and]
      exact Ev.ipos rfl (Ev.bind (implDom_ev p r l ca.2 a b cb.1.1 cb.1.2) (Ev.now _))
    · rw [decide_eq_false cb]; exact Ev.ineg (by decide) (Ev.now _)
  · rw [decide_eq_false ca]; exact Ev.ineg (by decide) (Ev.now _)
theorem specDominates_ev (p : List Int) (r : Int) (l : List Block) (a b : Int) (h : l.length ≤ 1048576) : Ev (fun k => spec_Dominates.f k p r l a b) (dominatesB l a b) := by
  unfold dominatesB
  refine Ev.bind (specThere_ev p r l a h) ?_
  by_cases ca : (0 ≤ a ∧ a < (l.length : Int)) ∧ There l
  · rw [decide_eq_true ca, Bool.true_and]
    refine Ev.ipos rfl (Ev.bind (specThere_ev p r l b h) ?_)
    by_cases cb : (0 ≤ b ∧ b < (l.length : Int)) ∧ There l
    · rw [decide_eq_true cb, Bool.true_and]
      exact Ev.ipos rfl (Ev.bind (specDom_ev p r l ca.2 a b cb.1.1 cb.1.2) (Ev.now _))
    · rw [decide_eq_false cb]; exact Ev.ineg (by decide) (Ev.now _)
  · rw [decide_eq_false ca]; exact Ev.ineg (by decide) (Ev.now _)
theorem dominatesB_iff {l : List Block} (ht : There l) {a b : Int} (ha : 0 ≤ a ∧ a < (l.length : Int)) (hb : 0 ≤ b ∧ b < (l.length : Int)) : dominatesB l a b = true ↔ Dm l a b := by
  unfold dominatesB
  rw [decide_eq_true ⟨ha, ht⟩, decide_eq_true ⟨hb, ht⟩, Bool.true_and, Bool.true_and]
  exact domB_iff l ht (by omega) a b hb.1
end Go.Proofs.Ytjkbafcepblacaa.X
namespace Go.Proofs.Ytjkbafcepblacaa.X
set_option linter.unusedVariables false
set_option linter.unusedSimpArgs false
open Go.RowKit Go.Proofs.YtjkbafcepblacaaW.PrintWords Go.Proofs.YtjkbafcepblacaaW.PrintLast Go.Proofs.YtjkbafcepblacaaW.PrintMore
theorem next_some (l : List Int) (hl : ∀ x ∈ l, 0 ≤ x ∧ x ≤ 255) (hn : l.length ≤ 1048576) (p : Int) (h0 : 0 ≤ p) (h1 : p ≤ l.length) :
    ∃ v p', spec_l1Rd_next.f l p = some (v, p') ∧ 0 ≤ v ∧ v ≤ 255 ∧ 0 ≤ p' ∧ p' ≤ l.length := by
  unfold spec_l1Rd_next.f
  by_cases c : p ≥ (l.length : Int)
  · rw [if_pos c]; exact ⟨0, p, rfl, by omega, by omega, h0, h1⟩
  · have e1 : wrap64 (p + 1) = p + 1 := by unfold wrap64; omega
    have e2 : wrap64 (p + 1 - 1) = p := by unfold wrap64; omega
    rw [if_neg c, e1, e2, if_pos h0, if_pos (by omega)]
    have hm : rd l p ∈ l := by
      unfold rd
      have hp : p.toNat < l.length := by omega
      rw [List.getD_eq_getElem?_getD, List.getElem?_eq_getElem hp]
      exact List.getElem_mem hp
    have hr := hl _ hm
    exact ⟨_, _, rfl, by unfold wrap64; omega, by unfold wrap64; omega, by omega, by omega⟩
theorem below_some (l : List Int) (hl : ∀ x ∈ l, 0 ≤ x ∧ x ≤ 255) (hn : l.length ≤ 1048576) (p : Int) (h0 : 0 ≤ p) (h1 : p ≤ l.length) (n : Int) (hn1 : 1 < n) :
    ∃ v p', spec_l1Rd_below.f l p n = some (v, p') ∧ 0 ≤ v ∧ v < n ∧ 0 ≤ p' ∧ p' ≤ l.length := by
  unfold spec_l1Rd_below.f
  rw [if_neg (by omega)]
  obtain ⟨v, p', e, a, b, c, d⟩ := next_some l hl hn p h0 h1
  rw [e]; simp only [Option.bind_some]
  by_cases c2 : n ≤ 256
  · rw [if_pos c2, if_neg (by omega)]
    have e1 : Int.tmod v n = v % n := Int.tmod_eq_emod_of_nonneg a
    exact ⟨_, _, rfl, by rw [e1]; exact Int.emod_nonneg _ (by omega), by rw [e1]; exact Int.emod_lt_of_pos _ (by omega), c, d⟩
  · rw [if_neg c2]
    obtain ⟨v2, p2, e2, a2, b2, c3, d2⟩ := next_some l hl hn p' c d
    rw [e2]; simp only [Option.bind_some]
    rw [if_neg (by omega)]
    have e0 : wrap64 (wrap64 (v * 256) + v2) = v * 256 + v2 := by unfold wrap64; omega
    have e1 : Int.tmod (v * 256 + v2) n = (v * 256 + v2) % n := Int.tmod_eq_emod_of_nonneg (by omega)
    exact ⟨_, _, rfl, by rw [e0, e1]; exact Int.emod_nonneg _ (by omega), by rw [e0, e1]; exact Int.emod_lt_of_pos _ (by omega), c3, d2⟩
theorem once_some (l : List Int) (hl : ∀ x ∈ l, 0 ≤ x ∧ x ≤ 255) (hn : l.length ≤ 1048576) (p : Int) (h0 : 0 ≤ p) (h1 : p ≤ l.length) (n : Int) (hn1 : 1 < n) :
    ∃ b p', spec_l1Rd_once.f l p n = some (b, p') ∧ 0 ≤ p' ∧ p' ≤ l.length := by
  unfold spec_l1Rd_once.f
  obtain ⟨v, p', e, -, -, c, d⟩ := below_some l hl hn p h0 h1 n hn1
  rw [e]; exact ⟨_, _, rfl, c, d⟩
theorem word_some_l (l : List Int) (hl : ∀ x ∈ l, 0 ≤ x ∧ x ≤ 255) (hn : l.length ≤ 1048576) (d : Nat) : ∀ (k : Nat) (x i p : Int), 0 ≤ i → i + d = 8 → d < k → 0 ≤ p → p ≤ l.length → ∃ v p', spec_l1Rd_word.l0 k x i l p = some (v, p') ∧ 0 ≤ p' ∧ p' ≤ l.length := by
  induction d with
  | zero =>
    intro k x i p hi0 hi hk h0 h1
    obtain ⟨k, rfl⟩ : ∃ m, k = m + 1 := ⟨k - 1, by omega⟩
    simp only [spec_l1Rd_word.l0]
    rw [if_neg (by omega)]; exact ⟨_, _, rfl, h0, h1⟩
  | succ d ih =>
    intro k x i p hi0 hi hk h0 h1
    obtain ⟨k, rfl⟩ : ∃ m, k = m + 1 := ⟨k - 1, by omega⟩
    obtain ⟨v, p', e, -, -, c, d'⟩ := next_some l hl hn p h0 h1
    simp only [spec_l1Rd_word.l0]
    rw [if_pos (by omega), e]; simp only [Option.bind_some]
    rw [show wrap64 (i + 1) = i + 1 by unfold wrap64; omega]
    exact ih k _ (i + 1) p' (by omega) (by omega) (by omega) c d'
theorem word_some (l : List Int) (hl : ∀ x ∈ l, 0 ≤ x ∧ x ≤ 255) (hn : l.length ≤ 1048576) (p : Int) (h0 : 0 ≤ p) (h1 : p ≤ l.length) (k : Nat) (hk : 8 < k) : ∃ v p', spec_l1Rd_word.f k l p = some (v, p') ∧ 0 ≤ p' ∧ p' ≤ l.length :=
  word_some_l l hl hn 8 k 0 0 p (by decide) (by decide) hk h0 h1
theorem off_some (l : List Int) (hl : ∀ x ∈ l, 0 ≤ x ∧ x ≤ 255) (hn : l.length ≤ 1048576) (p : Int) (h0 : 0 ≤ p) (h1 : p ≤ l.length) (k : Nat) (hk : 8 < k) (a b : Int) (hab : 0 ≤ b - a) (hab2 : b - a < 9223372036854775807) :
    ∃ v p', spec_l1Rd_off.f k l p a b = some (v, p') ∧ 0 ≤ p' ∧ p' ≤ l.length := by
  unfold spec_l1Rd_off.f
  obtain ⟨t, p1, e1, c1, d1⟩ := once_some l hl hn p h0 h1 24 (by decide)
  rw [e1]; simp only [Option.bind_some]
  cases t with
  | true =>
    obtain ⟨v, p2, e2, a2, b2, c2, d2⟩ := below_some l hl hn p1 c1 d1 4 (by decide)
    rw [if_pos rfl, e2]; simp only [Option.bind_some]
    rw [if_pos a2, if_pos (by simpa using b2)]
    exact ⟨_, _, rfl, c2, d2⟩
  | false =>
    rw [if_neg (by decide)]
    unfold spec_l1Rd_near.f
    obtain ⟨v, p2, e2, a2, b2, c2, d2⟩ := below_some l hl hn p1 c1 d1 8 (by decide)
    rw [e2]; simp only [Option.bind_some]
    by_cases q1 : v = 0
    · rw [if_pos q1]; exact ⟨_, _, rfl, c2, d2⟩
    · rw [if_neg q1]
      by_cases q2 : v = 1
      · rw [if_pos q2]; exact ⟨_, _, rfl, c2, d2⟩
      · rw [if_neg q2, if_neg (by omega)]
        obtain ⟨v3, p3, e3, c3, d3⟩ := word_some l hl hn p2 c2 d2 k hk
        rw [e3]; simp only [Option.bind_some]
        rw [if_neg]
        · exact ⟨_, _, rfl, c3, d3⟩
        · rw [IntKind.wrap_u64]; unfold wrap64; omega
/-- What one round tells, all later ones do. -/
theorem Ev.of_mono {α : Type} {g : Nat → Option α} (hm : ∀ k, LeO (g k) (g (k + 1))) {K : Nat} {r : α} (h : g K = some r) : Ev g r := by
  refine ⟨K, fun k hk => ?_⟩
  obtain ⟨d, rfl⟩ : ∃ d, k = K + d := ⟨k - K, by omega⟩
  clear hk
  induction d with
  | zero => exact h
  | succ d ih => exact hm (K + d) r ih
theorem below1_some (l : List Int) (hl : ∀ x ∈ l, 0 ≤ x ∧ x ≤ 255) (hn : l.length ≤ 1048576) (p : Int) (h0 : 0 ≤ p) (h1 : p ≤ l.length) (n : Int) (hn1 : 1 ≤ n) :
    ∃ v p', spec_l1Rd_below.f l p n = some (v, p') ∧ 0 ≤ v ∧ v < n ∧ 0 ≤ p' ∧ p' ≤ l.length := by
  by_cases c : n ≤ 1
  · unfold spec_l1Rd_below.f
    rw [if_pos c]
    exact ⟨0, p, rfl, by omega, by omega, h0, h1⟩
  · exact below_some l hl hn p h0 h1 n (by omega)
theorem off_ev (l : List Int) (hl : ∀ x ∈ l, 0 ≤ x ∧ x ≤ 255) (hn : l.length ≤ 1048576) (p : Int) (h0 : 0 ≤ p) (h1 : p ≤ l.length) (a b : Int) (hab : 0 ≤ b - a) (hab2 : b - a < 9223372036854775807) :
    ∃ v p', Ev (fun k => spec_l1Rd_off.f k l p a b) (v, p') ∧ 0 ≤ p' ∧ p' ≤ l.length := by
  obtain ⟨v, p', e, c, d⟩ := off_some l hl hn p h0 h1 9 (by decide) a b hab hab2
  exact ⟨v, p', Ev.of_mono (fun k => spec_l1Rd_off.mono l p a b k) e, c, d⟩
end Go.Proofs.Ytjkbafcepblacaa.X
namespace Go.Proofs.Ytjkbafcepblacaa.X
set_option linter.unusedVariables false
set_option linter.unusedSimpArgs false
open Go.RowKit Go.Proofs.YtjkbafcepblacaaW.PrintWords Go.Proofs.YtjkbafcepblacaaW.PrintLast Go.Proofs.YtjkbafcepblacaaW.PrintMore
theorem graph_l (l : List Int) (hl : ∀ x ∈ l, 0 ≤ x ∧ x ≤ 255) (hn : l.length ≤ 1048576) (n : Int) (hn1 : 1 ≤ n) (hn7 : n ≤ 7) : ∀ (d i : Nat) (p : Int) (bs : List S88), (i : Int) + d = n → 0 ≤ p → p ≤ l.length → bs.length = i →
    ∃ ps r bs' p', Ev (fun k => spec_l1Rd_graph.l0 k n i l p 8 bs) (ps, r, bs', p') ∧ bs'.length ≤ 8 ∧ 0 ≤ p' ∧ p' ≤ l.length := by
  intro d
  induction d with
  | zero =>
    intro i p bs hi h0 h1 hb
    obtain ⟨b, p1, e1, c1, d1⟩ := once_some l hl hn p h0 h1 30 (by decide)
    cases b with
    | true =>
      obtain ⟨v, p2, e2, c2, d2⟩ := off_ev l hl hn p1 c1 d1 0 7 (by decide) (by decide)
      have e : Ev (fun k => spec_l1Rd_graph.l0 k n i l p 8 bs) (([] : List Int), (8 : Int), (bs.set (0 : Int).toNat (⟨(rd_T88 bs 0).f0, (rd_T88 bs 0).f1, (⟨(rd_T88 bs 0).f2.f0, (rd_T88 bs 0).f2.f1, v, (rd_T88 bs 0).f2.f3⟩ : S86)⟩ : S88)), p2) := by
        refine Ev.succ ?_
        simp only [spec_l1Rd_graph.l0]
        exact Ev.ineg (by omega) (Ev.bind (Ev.cst e1) (Ev.ipos rfl (Ev.bind e2 (Ev.ipos (by omega) (Ev.now _)))))
      exact ⟨_, _, _, _, e, by rw [List.length_set]; omega, c2, d2⟩
    | false =>
      have e : Ev (fun k => spec_l1Rd_graph.l0 k n i l p 8 bs) (([] : List Int), (8 : Int), bs, p1) := by
        refine Ev.succ ?_
        simp only [spec_l1Rd_graph.l0]
        exact Ev.ineg (by omega) (Ev.bind (Ev.cst e1) (Ev.ineg (show ¬ (false = true) by decide) (Ev.now _)))
      exact ⟨_, _, _, _, e, by omega, c1, d1⟩
  | succ d ih =>
    intro i p bs hi h0 h1 hb
    have hw : wrap64 ((i : Int) + 1) = ((i + 1 : Nat) : Int) := by rw [w64 (by omega) (by omega)]; rfl
    obtain ⟨t, p1, e1, a1, b1, c1, d1⟩ := below_some l hl hn p h0 h1 4 (by decide)
    have hj : ∀ x : Bool, ∃ ps r bs' p', Ev (fun k => spec_l1Rd_graph.j1 k n i t x l p1 8 bs 4 0 0 0) (ps, r, bs', p') ∧ bs'.length ≤ 8 ∧ 0 ≤ p' ∧ p' ≤ l.length := by
      intro x
      cases x with
      | true =>
        obtain ⟨u, p2, e2, a2, b2, c2, d2⟩ := below1_some l hl hn p1 c1 d1 n hn1
        obtain ⟨v, p3, e3, a3, b3, c3, d3⟩ := below1_some l hl hn p2 c2 d2 n hn1
        obtain ⟨ps, r, bs', p', e, hb', c', d'⟩ := ih (i + 1) p3 (bs ++ [(⟨([] : List (S95)), ([] : List (S27)), (⟨3, 0, u, v⟩ : S86)⟩ : S88)]) (by push_cast; omega) c3 d3 (by simp [hb])
        refine ⟨ps, r, bs', p', Ev.succ ?_, hb', c', d'⟩
        simp only [spec_l1Rd_graph.j1]
        rw [hw]
        exact Ev.ipos trivial (Ev.bind (Ev.cst e2) (Ev.bind (Ev.cst e3) (Ev.ipos (by omega) e)))
      | false =>
        by_cases h2 : t = 2
        · obtain ⟨u, p2, e2, a2, b2, c2, d2⟩ := below1_some l hl hn p1 c1 d1 n hn1
          obtain ⟨ps, r, bs', p', e, hb', c', d'⟩ := ih (i + 1) p2 (bs ++ [(⟨([] : List (S95)), ([] : List (S27)), (⟨2, 0, u, 0⟩ : S86)⟩ : S88)]) (by push_cast; omega) c2 d2 (by simp [hb])
          refine ⟨ps, r, bs', p', Ev.succ ?_, hb', c', d'⟩
          simp only [spec_l1Rd_graph.j1]
          rw [hw]
          exact Ev.ineg (by decide) (Ev.ipos h2 (Ev.bind (Ev.cst e2) (Ev.ipos (by omega) e)))
        · obtain ⟨ps, r, bs', p', e, hb', c', d'⟩ := ih (i + 1) p1 (bs ++ [(⟨([] : List (S95)), ([] : List (S27)), (⟨4, 0, 0, 0⟩ : S86)⟩ : S88)]) (by push_cast; omega) c1 d1 (by simp [hb])
          refine ⟨ps, r, bs', p', Ev.succ ?_, hb', c', d'⟩
          simp only [spec_l1Rd_graph.j1]
          rw [hw]
          exact Ev.ineg (by decide) (Ev.ineg h2 (Ev.ipos (by omega) e))
    by_cases ht : t = 0
    · obtain ⟨ps, r, bs', p', e, hb', c', d'⟩ := hj (t == 0)
      refine ⟨ps, r, bs', p', Ev.succ ?_, hb', c', d'⟩
      simp only [spec_l1Rd_graph.l0]
      exact Ev.ipos (by omega) (Ev.bind (Ev.cst e1) (Ev.ipos ht e))
    · obtain ⟨ps, r, bs', p', e, hb', c', d'⟩ := hj (t == 1)
      refine ⟨ps, r, bs', p', Ev.succ ?_, hb', c', d'⟩
      simp only [spec_l1Rd_graph.l0]
      exact Ev.ipos (by omega) (Ev.bind (Ev.cst e1) (Ev.ineg ht e))
theorem graph_ev (l : List Int) (hl : ∀ x ∈ l, 0 ≤ x ∧ x ≤ 255) (hn : l.length ≤ 1048576) (p : Int) (h0 : 0 ≤ p) (h1 : p ≤ l.length) :
    ∃ ps r bs' p', Ev (fun k => spec_l1Rd_graph.f k l p) (ps, r, bs', p') ∧ bs'.length ≤ 8 ∧ 0 ≤ p' ∧ p' ≤ l.length := by
  obtain ⟨v, p1, e1, a1, b1, c1, d1⟩ := below_some l hl hn p h0 h1 7 (by decide)
  obtain ⟨ps, r, bs', p', e, hb', c', d'⟩ := graph_l l hl hn (1 + v) (by omega) (by omega) (1 + v).toNat 0 p1 [] (by push_cast; omega) c1 d1 rfl
  refine ⟨ps, r, bs', p', Ev.bind (Ev.cst e1) ?_, hb', c', d'⟩
  rw [w64 (x := 1 + v) (by omega) (by omega)]
  exact e
end Go.Proofs.Ytjkbafcepblacaa.X
namespace Go.Proofs.Ytjkbafcepblacaa.Pure
open Go.RowKit Go.Proofs.Ytjkbafcepblacaa.X Go.Proofs.YtjkbafcepblacaaW.PrintWords Go.Proofs.YtjkbafcepblacaaW.PrintLast
/-- What the loops ask of the numbers L and of D. -/
structure Good (L : List Int) (D : Int → Int → Bool) : Prop where
  len : L.length ≤ 10
  self : ∀ x ∈ L, D x x = true
  zero : ∀ x ∈ L, D 0 x = true
  anti : ∀ i j (hi : i < L.length) (hj : j < L.length), i ≠ j → D L[i] L[j] = true → D L[j] L[i] = false
  trans : ∀ x ∈ L, ∀ y ∈ L, ∀ z ∈ L, D x y = true → D y z = true → D x z = true
theorem next_w (i : Nat) (h : i ≤ 1000) : wrap64 ((i : Int) + 1) = ((i + 1 : Nat) : Int) := by rw [w64 (by omega) (by omega)]; rfl
section
variable {p : List Int} {r : Int} {l : List Block} {L : List Int} {D : Int → Int → Bool}
theorem dom_l2 (hD : ∀ a b, Ev (fun k => impl_Dominates.f k p r l a b) (D a b)) (G : Good L D) (i c : Nat) (hi : i < L.length) (hc : c < L.length) (x9 : Bool) (h9 : x9 = true → D L[i] L[c] = true)
    (hN : Ev (fun k => laws_FnDominates.l1 k L i ((c + 1 : Nat) : Int) p r l) true) : ∀ (d j : Nat), j + d = L.length → Ev (fun k => laws_FnDominates.l2 k L i c x9 j p r l) true := by
  have hl := G.len
  have stop : ∀ j : Nat, Ev (fun k => laws_FnDominates.j5 k L i c x9 j false p r l) true := by
    intro j
    refine Ev.succ ?_
    simp only [laws_FnDominates.j5]
    rw [next_w c (by omega)]
    exact Ev.ineg (by decide) hN
  intro d
  induction d with
  | zero =>
    intro j hj
    refine Ev.succ ?_
    simp only [laws_FnDominates.l2]
    exact Ev.ineg (by omega) (stop j)
  | succ d ih =>
    intro j hj
    have hlt : j < L.length := by omega
    refine Ev.succ ?_
    simp only [laws_FnDominates.l2]
    refine Ev.ipos (by omega) ?_
    cases x9 with
    | false => exact stop j
    | true =>
      refine Ev.succ ?_
      simp only [laws_FnDominates.j5]
      rw [show rd L (c : Int) = L[c] from getD_at L _ c hc, show rd L (j : Int) = L[j] from getD_at L _ j hlt, show rd L (i : Int) = L[i] from getD_at L _ i hi, next_w j (by omega)]
      refine Ev.ipos trivial (Ev.ipos (by omega) (Ev.ipos (by omega) (Ev.ipos (by omega) (Ev.ipos (by omega) (Ev.bind (hD _ _) ?_)))))
      by_cases h1 : D L[c] L[j] = true
      · have h2 := G.trans _ (List.getElem_mem hi) _ (List.getElem_mem hc) _ (List.getElem_mem hlt) (h9 rfl) h1
        exact Ev.ipos h1 (Ev.ipos (by omega) (Ev.ipos (by omega) (Ev.bind (hD _ _) (Ev.ipos h2 (ih (j + 1) (by omega))))))
      · exact Ev.ineg h1 (ih (j + 1) (by omega))
theorem dom_l1 (hD : ∀ a b, Ev (fun k => impl_Dominates.f k p r l a b) (D a b)) (G : Good L D) (i : Nat) (hi : i < L.length)
    (hN : Ev (fun k => laws_FnDominates.l0 k L ((i + 1 : Nat) : Int) p r l) true) : ∀ (d c : Nat), c + d = L.length → Ev (fun k => laws_FnDominates.l1 k L i c p r l) true := by
  have hl := G.len
  intro d
  induction d with
  | zero =>
    intro c hc
    refine Ev.succ ?_
    simp only [laws_FnDominates.l1]
    rw [next_w i (by omega)]
    exact Ev.ineg (by omega) hN
  | succ d ih =>
    intro c hc
    have hlt : c < L.length := by omega
    have hJ : ∀ x9 : Bool, (x9 = true → D L[i] L[c] = true) → Ev (fun k => laws_FnDominates.j3 k L i c x9 false p r l) true := by
      intro x9 h9
      refine Ev.succ ?_
      simp only [laws_FnDominates.j3]
      exact Ev.ineg (by decide) (dom_l2 hD G i c hi hlt x9 h9 (ih (c + 1) (by omega)) L.length 0 (by omega))
    refine Ev.succ ?_
    simp only [laws_FnDominates.l1]
    rw [show rd L (c : Int) = L[c] from getD_at L _ c hlt, show rd L (i : Int) = L[i] from getD_at L _ i hi]
    refine Ev.ipos (by omega) (Ev.ipos (by omega) (Ev.ipos (by omega) (Ev.ipos (by omega) (Ev.bind (hD _ _) ?_))))
    by_cases h1 : D L[i] L[c] = true
    · refine Ev.ipos h1 ?_
      by_cases e : (i : Int) = c
      · exact Ev.ipos e (hJ _ (fun h => h))
      · refine Ev.ineg e (Ev.bind (hD _ _) ?_)
        rw [G.anti i c hi hlt (fun h => e (by rw [h])) h1]
        exact hJ _ (fun h => h)
    · exact Ev.ineg h1 (hJ _ (fun h => h))
theorem dom_l0 (hD : ∀ a b, Ev (fun k => impl_Dominates.f k p r l a b) (D a b)) (G : Good L D) : ∀ (d i : Nat), i + d = L.length → Ev (fun k => laws_FnDominates.l0 k L i p r l) true := by
  have hl := G.len
  intro d
  induction d with
  | zero =>
    intro i hi
    refine Ev.succ ?_
    simp only [laws_FnDominates.l0]
    exact Ev.ineg (by omega) (Ev.now true)
  | succ d ih =>
    intro i hi
    have hlt : i < L.length := by omega
    have hJ : Ev (fun k => laws_FnDominates.j1 k L i false p r l) true := by
      refine Ev.succ ?_
      simp only [laws_FnDominates.j1]
      exact Ev.ineg (by decide) (dom_l1 hD G i hlt (ih (i + 1) (by omega)) L.length 0 (by omega))
    refine Ev.succ ?_
    simp only [laws_FnDominates.l0]
    rw [show rd L (i : Int) = L[i] from getD_at L _ i hlt]
    refine Ev.ipos (by omega) (Ev.ipos (by omega) (Ev.bind (hD _ _) (Ev.ipos (G.self _ (List.getElem_mem hlt)) (Ev.bind (hD _ _) ?_))))
    rw [G.zero _ (List.getElem_mem hlt)]
    exact hJ
end
theorem good_reached (l : List Block) : Good (reachedL l) (dominatesB l) := by
  refine ⟨reachedL_len l, ?_, ?_, ?_, ?_⟩
  · intro x hx
    obtain ⟨ht, hr, hre⟩ := mem_reachedL hx
    exact (dominatesB_iff ht hr hr).2 (Dm.self hre)
  · intro x hx
    obtain ⟨ht, hr, hre⟩ := mem_reachedL hx
    exact (dominatesB_iff ht ⟨by omega, by omega⟩ hr).2 (Dm.zero hre)
  · intro i j hi hj hne h
    obtain ⟨ht, hri, _⟩ := mem_reachedL (List.getElem_mem hi)
    obtain ⟨_, hrj, _⟩ := mem_reachedL (List.getElem_mem hj)
    have h1 := (dominatesB_iff ht hri hrj).1 h
    by_cases h2 : dominatesB l (reachedL l)[j] (reachedL l)[i] = true
    · exact absurd (reachedL_inj hi hj (h1.antisymm ((dominatesB_iff ht hrj hri).1 h2))) hne
    · simpa using h2
  · intro x hx y hy z hz h k
    obtain ⟨ht, hrx, _⟩ := mem_reachedL hx
    obtain ⟨_, hry, _⟩ := mem_reachedL hy
    obtain ⟨_, hrz, _⟩ := mem_reachedL hz
    exact (dominatesB_iff ht hrx hrz).2 (((dominatesB_iff ht hrx hry).1 h).trans ((dominatesB_iff ht hry hrz).1 k))
theorem FnDominates : laws_FnDominates.Pure := by
  intro l _ _ hwf
  suffices e : Ev (fun k => laws_FnDominates.f k l) true from e.rounds
  have hl : ∀ x ∈ l, 0 ≤ x ∧ x ≤ 255 := fun x hx => by
    have := hwf x hx
    simp [Lit.wf, IntKind.min, IntKind.max, IntKind.signed, IntKind.bits] at this
    omega
  refine Ev.bind (Ev.cst rfl) ?_
  by_cases hbig : (l.length : Int) > 1048576
  · exact Ev.ipos (by simpa using hbig) (Ev.now true)
  · have hn : l.length ≤ 1048576 := by omega
    obtain ⟨ps, r, bs, p1, e1, hb, c1, d1⟩ := graph_ev l hl hn 0 (by omega) (by omega)
    obtain ⟨a, p2, e2, c2, d2⟩ := off_ev l hl hn p1 c1 d1 0 5 (by decide) (by decide)
    obtain ⟨b, p3, e3, c3, d3⟩ := off_ev l hl hn p2 c2 d2 0 5 (by decide) (by decide)
    have hD : Ev (fun k => spec_DrawDominates.f k l) (ps, r, bs, a, b) := Ev.bind (Ev.cst rfl) (Ev.bind e1 (Ev.bind e2 (Ev.bind e3 (Ev.now _))))
    have hbs : bs.length ≤ 1048576 := by omega
    refine Ev.ineg (by simpa using hbig) (Ev.bind hD (Ev.bind (implDominates_ev ps r bs a b hbs) (Ev.bind (specDominates_ev ps r bs a b hbs) (Ev.ineg (by simp) (Ev.bind (implReached_ev ps r bs hbs) ?_)))))
    exact dom_l0 (fun x y => implDominates_ev ps r bs x y hbs) (good_reached bs) (reachedL bs).length 0 (by omega)
end Go.Proofs.Ytjkbafcepblacaa.Pure
