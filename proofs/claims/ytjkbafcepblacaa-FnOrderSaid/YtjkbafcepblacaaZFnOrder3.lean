/- PROVED HERE: what the functions that the law FnOrder reaches do in memory, each as a plain Lean function, and what these tell: part 4 of 5 of the proof of that law; no condition beyond those written out at each theorem. -/
import Derived.Test.YtjkbafcepblacaaZFnOrder0
import Derived.Test.YtjkbafcepblacaaZFnOrder1
import Derived.Test.YtjkbafcepblacaaZFnOrder2
namespace Go.Proofs.Ytjkbafcepblacaa.X
open Go.RowKit Go.Proofs.YtjkbafcepblacaaW.PrintWords Go.Proofs.YtjkbafcepblacaaW.PrintLast Go.Proofs.YtjkbafcepblacaaW.PrintMore
attribute [local go_sem] max2_int min2_int max_two min_two max_three min_three max_four min_four   -- for this text's walks alone
set_option linter.unusedVariables false
set_option linter.unusedSimpArgs false
/-! ### spec_l3Reach: function 106 -/
mutual
def spec_l3Reach.l0 : Nat → Int → List Int → List Int → List Int → Int → List (S88) → Option (List Int)
 | 0, _, _, _, _, _, _ => none
 | k + 1, x1, x5, x6, x457000, x457001, x457002 => if (x6.length : Int) > 0 then (if 0 < (x6.length : Int) then (if 1 ≤ (x6.length : Int) then ((spec_l1Copy.f (x6.drop 1)).bind fun t468 => (if (rd x6 0) = x1 then (spec_l3Reach.j1 k x1 x5 t468 (rd x6 0) true x457000 x457001 x457002) else ((spec_l1Has.f k x5 (rd x6 0)).bind fun t471 => (spec_l3Reach.j1 k x1 x5 t468 (rd x6 0) t471 x457000 x457001 x457002)))) else (none)) else (none)) else (some x5)
def spec_l3Reach.j1 : Nat → Int → List Int → List Int → Int → Bool → List Int → Int → List (S88) → Option (List Int)
 | 0, _, _, _, _, _, _, _, _ => none
 | k + 1, x1, x5, x6, x7, x29, x457000, x457001, x457002 => if x29 = true then (spec_l3Reach.l0 k x1 x5 x6 x457000 x457001 x457002) else ((spec_l1Put.f k x5 x7).bind fun t472 => ((spec_l3Succs.f x457000 x457001 x457002 x7).bind fun t475 => (if x6.length + t475.length < 17592186044416 then (spec_l3Reach.l0 k x1 t472 (x6 ++ t475) x457000 x457001 x457002) else (none))))
end
def spec_l3Reach.f (k : Nat) (l0_0 : List Int) (a0_1 : Int) (l0_2 : List (S88)) (a1 : Int) : Option (List Int) := (some (([] : List Int) : List Int)).bind fun y457 => (if a1 = 0 then (some y457) else (spec_l3Reach.l0 k a1 y457 (([0] : List Int)) l0_0 a0_1 l0_2))
theorem spec_l3Reach.mono_l : ∀ k, (∀ y0 y1 y2 y3 y4 y5, LeO (spec_l3Reach.l0 k y0 y1 y2 y3 y4 y5) (spec_l3Reach.l0 (k + 1) y0 y1 y2 y3 y4 y5)) ∧ (∀ y0 y1 y2 y3 y4 y5 y6 y7, LeO (spec_l3Reach.j1 k y0 y1 y2 y3 y4 y5 y6 y7) (spec_l3Reach.j1 (k + 1) y0 y1 y2 y3 y4 y5 y6 y7))
 | 0 => ⟨fun _ _ _ _ _ _ r h => by simp [spec_l3Reach.l0] at h, fun _ _ _ _ _ _ _ _ r h => by simp [spec_l3Reach.j1] at h⟩
 | k + 1 => by
  obtain ⟨ih0, ih1⟩ := spec_l3Reach.mono_l k
  refine ⟨?_, ?_⟩
  ·intro y0 y1 y2 y3 y4 y5
   unfold spec_l3Reach.l0
   repeat' first
   | (with_reducible exact ih0 _ _ _ _ _ _)
   | (with_reducible exact ih1 _ _ _ _ _ _ _ _)
   | (with_reducible exact spec_l1Has.mono _ _ _)
   | (with_reducible exact spec_l1Put.mono _ _ _)
   | (with_reducible exact LeO.refl _)
   | (with_reducible exact LeO.none _)
   | (with_reducible refine LeO.ite ?_ ?_)
   | (with_reducible refine LeO.bind ?_ (fun _ => ?_))
   | exact ih0 _ _ _ _ _ _
   | exact ih1 _ _ _ _ _ _ _ _
   | exact spec_l1Has.mono _ _ _
   | exact spec_l1Put.mono _ _ _
   | exact LeO.none _
   | refine LeO.ite ?_ ?_
   | refine LeO.bind ?_ (fun _ => ?_)
  ·intro y0 y1 y2 y3 y4 y5 y6 y7
   unfold spec_l3Reach.j1
   repeat' first
   | (with_reducible exact ih0 _ _ _ _ _ _)
   | (with_reducible exact ih1 _ _ _ _ _ _ _ _)
   | (with_reducible exact spec_l1Has.mono _ _ _)
   | (with_reducible exact spec_l1Put.mono _ _ _)
   | (with_reducible exact LeO.refl _)
   | (with_reducible exact LeO.none _)
   | (with_reducible refine LeO.ite ?_ ?_)
   | (with_reducible refine LeO.bind ?_ (fun _ => ?_))
   | exact ih0 _ _ _ _ _ _
   | exact ih1 _ _ _ _ _ _ _ _
   | exact spec_l1Has.mono _ _ _
   | exact spec_l1Put.mono _ _ _
   | exact LeO.none _
   | refine LeO.ite ?_ ?_
   | refine LeO.bind ?_ (fun _ => ?_)
theorem spec_l3Reach.mono : ∀ a0 a1 a2 a3 k, LeO (spec_l3Reach.f k a0 a1 a2 a3) (spec_l3Reach.f (k + 1) a0 a1 a2 a3) := by
 intro a0 a1 a2 a3 k
 obtain ⟨ih0, ih1⟩ := spec_l3Reach.mono_l k
 unfold spec_l3Reach.f
 repeat' first
   | (with_reducible exact ih0 _ _ _ _ _ _)
   | (with_reducible exact ih1 _ _ _ _ _ _ _ _)
   | (with_reducible exact spec_l1Has.mono _ _ _)
   | (with_reducible exact spec_l1Put.mono _ _ _)
   | (with_reducible exact LeO.refl _)
   | (with_reducible exact LeO.none _)
   | (with_reducible refine LeO.ite ?_ ?_)
   | (with_reducible refine LeO.bind ?_ (fun _ => ?_))
   | exact ih0 _ _ _ _ _ _
   | exact ih1 _ _ _ _ _ _ _ _
   | exact spec_l1Has.mono _ _ _
   | exact spec_l1Put.mono _ _ _
   | exact LeO.none _
   | refine LeO.ite ?_ ?_
   | refine LeO.bind ?_ (fun _ => ?_)
set_option maxHeartbeats 8000000 in
set_option maxRecDepth 100000 in
theorem spec_l3Reach.calls (k : Nat) (A0_0 : Option Addr) (c0_0 : Nat) (l0_0 : List Int) (a0_1 : Int) (A0_2 : Option Addr) (c0_2 : Nat) (l0_2 : List (S88)) (a1 : Int) (r : List Int) (w : World) (hr0_0 : Kd.C (Kd.int .i64) w A0_0 l0_0.length l0_0) (hc0_0 : l0_0.length ≤ c0_0) (hr0_2 : Kd.C k88 w A0_2 l0_2.length l0_2) (hc0_2 : l0_2.length ≤ c0_2) (h : spec_l3Reach.f k l0_0 a0_1 l0_2 a1 = some r) :
  Calls Try.prog 106 #[.agg #[.slice A0_0 l0_0.length c0_0, .int .i64 a0_1, .slice A0_2 l0_2.length c0_2], .int .i64 a1] w fun e w' => ∃ v0_ : Value, e = .returned (v0_) ∧ Kd.R (Kd.int .i64) 2 w' w.heap.size (fun _ => True) v0_ r ∧ Below w.heap.size w w' := by
 have hu41 := Try.underlying41
 have HR0_0 := Aside0.mk hr0_0
 have HC0_0 := Aside0.mk hc0_0
 clear hr0_0 hc0_0
 have HR0_2 := Aside0.mk hr0_2
 have HC0_2 := Aside0.mk hc0_2
 clear hr0_2 hc0_2
 have HB := Aside0.mk (Below.refl w.heap.size w)
 have H : ((some (([] : List Int) : List Int)).bind fun y457 => (if a1 = 0 then (some y457) else (spec_l3Reach.l0 k a1 y457 (([0] : List Int)) l0_0 a0_1 l0_2))) = some r := h
 clear h
 obtain ⟨y457, hy457⟩ : ∃ y_ : List Int, y_ = (([] : List Int)) := ⟨_, rfl⟩
 replace H : (if a1 = 0 then (some y457) else (spec_l3Reach.l0 k a1 y457 (([0] : List Int)) l0_0 a0_1 l0_2)) = some r := by first | (rw [hy457]; with_reducible exact H) | (have H2_ := (Option.bind_some _ _).symm.trans H; rw [hy457]; with_reducible exact H2_) | (have H2_ := (Option.bind_some _ _).symm.trans H; with_reducible exact H2_) | with_reducible exact H | (rw [hy457]; exact H) | exact H
 have Ny457 := Aside0.mk hy457
 clear hy457
 by_cases c3 : a1 = 0
 ·rw [if_pos c3] at H
  have c3b0 : (a1 == 0) = true := beq_iff_eq.mpr c3
  have c3b1 : (a1 != 0) = false := bne_eq_false_iff_eq.mpr c3
  clear c3
  obtain rfl := Option.some.inj H
  go_enter Try.func106, Try.ntmps106
  go_wp2_with (first | ((with_reducible refine gate_dst (N := 2) rfl ?_); refine box_event ?hg (N := 2) ?hd (cs := #[.slice A0_0 l0_0.length c0_0, .int .i64 a0_1, .slice A0_2 l0_2.length c0_2]) (t := 41) ?hr ?_; (case hd => rfl); (case hg => rfl); (case hr => first | (go_simp; done) | (go_simp; rfl)); intro gb456 hg w4 hbox hb; have n0_ := Aside0.mk (below_step hB_ hb); have n1_ := Aside0.mk (hbox); have n2_ := Aside0.mk ((sz_ hg (below_size hB_) : w.heap.size ≤ gb456)); have n3_ := Aside0.mk ((sz_ hg (below_size hB_) : w.heap.size ≤ gb456)); clear HB; have HB := n0_; have BK456 := n1_; have GW456 := n2_; have GE456 := n3_; clear n0_ n1_ n2_ n3_; clear hb hbox hg) | ((with_reducible refine gate_dst (N := 8) rfl ?_); refine Kd.R_lit (Kd.int .i64) _ 2 ?hg (N := 8) ?hd (xs := ([] : List Int)) (inner := []) (ok := fun _ => True) (okp := fun _ => True) ?hr ?hp (fun _ hk => hk) trivial (Below.refl _ _) (Nat.le_refl _) (by simp) ?_; (case hd => rfl); (case hg => rfl); (case hr => first | (go_simp; done) | (go_simp; rfl)); (case hp => exact (Reps.none _ _)); intro v458 w5 ho6 hb hg_ hnew_; clear hg_ hnew_; (first | rw [← Ny457.out] at ho6 | (simp only [Int.reduceToNat] at ho6; rw [← Ny457.out] at ho6)); have n0_ := Aside0.mk (Kd.R_lower ho6 (below_size hS_)); have n1_ := Aside0.mk (blk_below (g := gb456) (o := .cells #[.slice A0_0 l0_0.length c0_0, .int .i64 a0_1, .slice A0_2 l0_2.length c0_2] 41 (0, 0)) bK456_ hb); have n2_ := Aside0.mk (below_step hS_ hb); clear BK456; clear HB; have HO459 := n0_; have BK456 := n1_; have HB := n2_; clear n0_ n1_ n2_; clear hb ho6))
  go_ret
  exact ⟨_, rG_, rHO459_, hS_⟩
 ·rw [if_neg c3] at H
  have c3b0 : (a1 == 0) = false := beq_eq_false_iff_ne.mpr c3
  have c3b1 : (a1 != 0) = true := bne_iff_ne.mpr c3
  obtain ⟨y460, hy460⟩ : ∃ y_ : List Int, y_ = (([0] : List Int)) := ⟨_, rfl⟩
  replace H : (spec_l3Reach.l0 k a1 y457 y460 l0_0 a0_1 l0_2) = some r := by first | (rw [hy460]; with_reducible exact H) | (have H2_ := (Option.bind_some _ _).symm.trans H; rw [hy460]; with_reducible exact H2_) | (have H2_ := (Option.bind_some _ _).symm.trans H; with_reducible exact H2_) | with_reducible exact H | (rw [hy460]; exact H) | exact H
  have Ny460 := Aside0.mk hy460
  clear hy460
  have H' := Aside0.mk H
  clear H
  go_enter Try.func106, Try.ntmps106
  go_wp2_with (first | ((with_reducible refine gate_dst (N := 2) rfl ?_); refine box_event ?hg (N := 2) ?hd (cs := #[.slice A0_0 l0_0.length c0_0, .int .i64 a0_1, .slice A0_2 l0_2.length c0_2]) (t := 41) ?hr ?_; (case hd => rfl); (case hg => rfl); (case hr => first | (go_simp; done) | (go_simp; rfl)); intro gb456 hg w7 hbox hb; have n0_ := Aside0.mk (below_step hB_ hb); have n1_ := Aside0.mk (hbox); have n2_ := Aside0.mk ((sz_ hg (below_size hB_) : w.heap.size ≤ gb456)); have n3_ := Aside0.mk ((sz_ hg (below_size hB_) : w.heap.size ≤ gb456)); clear HB; have HB := n0_; have BK456 := n1_; have GW456 := n2_; have GE456 := n3_; clear n0_ n1_ n2_ n3_; clear hb hbox hg) | ((with_reducible refine gate_dst (N := 8) rfl ?_); refine Kd.R_lit (Kd.int .i64) _ 2 ?hg (N := 8) ?hd (xs := ([] : List Int)) (inner := []) (ok := fun _ => True) (okp := fun _ => True) ?hr ?hp (fun _ hk => hk) trivial (Below.refl _ _) (Nat.le_refl _) (by simp) ?_; (case hd => rfl); (case hg => rfl); (case hr => first | (go_simp; done) | (go_simp; rfl)); (case hp => exact (Reps.none _ _)); intro v458 w8 ho9 hb hg_ hnew_; clear hg_ hnew_; (first | rw [← Ny457.out] at ho9 | (simp only [Int.reduceToNat] at ho9; rw [← Ny457.out] at ho9)); have n0_ := Aside0.mk (Kd.R_lower ho9 (below_size hS_)); have n1_ := Aside0.mk (blk_below (g := gb456) (o := .cells #[.slice A0_0 l0_0.length c0_0, .int .i64 a0_1, .slice A0_2 l0_2.length c0_2] 41 (0, 0)) bK456_ hb); have n2_ := Aside0.mk (below_step hS_ hb); clear BK456; clear HB; have HO459 := n0_; have BK456 := n1_; have HB := n2_; clear n0_ n1_ n2_; clear hb ho9) | ((with_reducible refine gate_dst (N := 12) rfl ?_); refine Kd.R_lit (Kd.int .i64) _ 2 ?hg (N := 12) ?hd (xs := ([0] : List Int)) (inner := [.int .i64 0]) (ok := fun _ => True) (okp := fun _ => True) ?hr ?hp (fun _ hk => hk) trivial (Below.refl _ _) (Nat.le_refl _) (by simp) ?_; (case hd => rfl); (case hg => rfl); (case hr => first | (go_simp; done) | (go_simp; rfl)); (case hp => exact (Reps.one (show Kd.M (Kd.int .i64) _ _ _ 0 [.int .i64 0] from rfl) (Reps.none _ _))); intro v461 w10 ho11 hb hg_ hnew_; clear hg_ hnew_; (first | rw [← Ny460.out] at ho11 | (simp only [Int.reduceToNat] at ho11; rw [← Ny460.out] at ho11)); have n0_ := Aside0.mk (Kd.R_elder' rHO459_ (Kd.R_base ho11) hb); have n1_ := Aside0.mk (Kd.R_lower (Kd.R_new' ho11 (Kd.R_lt rHO459_)) (below_size hS_)); have n2_ := Aside0.mk (blk_below (g := gb456) (o := .cells #[.slice A0_0 l0_0.length c0_0, .int .i64 a0_1, .slice A0_2 l0_2.length c0_2] 41 (0, 0)) bK456_ hb); have n3_ := Aside0.mk (below_step hS_ hb); clear HO459; clear BK456; clear HB; have HO459 := n0_; have HO462 := n1_; have BK456 := n2_; have HB := n3_; clear n0_ n1_ n2_ n3_; clear hb ho11))
  go_loopg [5, 6] k (fun kq v5 v6 w' => ∃ (x5_1 : List Int) (x6_1 : List Int), Aside0 (spec_l3Reach.l0 kq a1 x5_1 x6_1 l0_0 a0_1 l0_2 = some r) ∧ Aside0 (kq ≤ k) ∧ Aside0 (Kd.R (Kd.int .i64) 2 w' w.heap.size (fun k_ => some k_ ≠ (v6 : Value).ownBlock) v5 x5_1) ∧ Aside0 (Kd.R (Kd.int .i64) 2 w' w.heap.size (fun k_ => some k_ ≠ (v5 : Value).ownBlock) v6 x6_1) ∧ Aside0 (w'.heap[gb456]? = some (.cells #[(.slice A0_0 l0_0.length c0_0), .int .i64 a0_1, (.slice A0_2 l0_2.length c0_2)] 41 (0, 0))) ∧ Aside0 (Below w.heap.size w w'))
  case atStart => exact ⟨(y457), (y460), H', ⟨Nat.le_refl _⟩, ⟨by (with_reducible repeat (first | apply Kd.R_alloc | apply Kd.R_drewN | apply Kd.R_drew)); exact Kd.R_mono HO459.out (fun _ hk => hk.2)⟩, ⟨by (with_reducible repeat (first | apply Kd.R_alloc | apply Kd.R_drewN | apply Kd.R_drew)); exact Kd.R_mono HO462.out (fun _ hk => hk.2)⟩, ⟨bK456_⟩, ⟨hS_⟩⟩
  case round =>
   clear H'
   try clear c1
   try clear p2
   try clear c3
   try clear c3b0
   try clear c3b1
   try clear c10
   obtain ⟨x5_1, x6_1, HA, HK1, HO_5, HO_6, BK456, HB⟩ := hrel
   cases gk with
   | zero => exact absurd HA.out (by simp [spec_l3Reach.l0])
   | succ k1 =>
    have H := HA.out
    clear HA
    simp only [spec_l3Reach.l0] at H
    by_cases c12 : (x6_1.length : Int) > 0
    ·rw [if_pos c12] at H
     have c12b0 : decide (0 < (x6_1.length : Int)) = true := decide_eq_true c12
     have c12b1 : decide (0 < x6_1.length) = true := decide_eq_true (by omega)
     clear c12
     by_cases c13 : 0 < (x6_1.length : Int)
     ·rw [if_pos c13] at H
      have c13b0 : decide (0 < (x6_1.length : Int)) = true := decide_eq_true c13
      have c13b1 : decide (0 < x6_1.length) = true := decide_eq_true (by omega)
      clear c13
      by_cases c14 : 1 ≤ (x6_1.length : Int)
      ·rw [if_pos c14] at H
       have c14b0 := eq_true c14
       have c14b1 : decide (1 ≤ (x6_1.length : Int)) = true := decide_eq_true c14
       clear c14
       obtain ⟨y464, hy464⟩ : ∃ y_ : List Int, y_ = (x6_1.drop 1) := ⟨_, rfl⟩
       replace H : ((spec_l1Copy.f y464).bind fun t468 => (if (rd x6_1 0) = a1 then (spec_l3Reach.j1 k1 a1 x5_1 t468 (rd x6_1 0) true l0_0 a0_1 l0_2) else ((spec_l1Has.f k1 x5_1 (rd x6_1 0)).bind fun t471 => (spec_l3Reach.j1 k1 a1 x5_1 t468 (rd x6_1 0) t471 l0_0 a0_1 l0_2)))) = some r := by first | (rw [hy464]; with_reducible exact H) | (have H2_ := (Option.bind_some _ _).symm.trans H; rw [hy464]; with_reducible exact H2_) | (have H2_ := (Option.bind_some _ _).symm.trans H; with_reducible exact H2_) | with_reducible exact H | (rw [hy464]; exact H) | exact H
       have Ny464 := Aside0.mk hy464
       clear hy464
       replace H := Option.bind_eq_some_iff.mp H
       obtain ⟨t468, A150, H⟩ := H
       replace H : (if (rd x6_1 0) = a1 then (spec_l3Reach.j1 k1 a1 x5_1 t468 (rd x6_1 0) true l0_0 a0_1 l0_2) else ((spec_l1Has.f k1 x5_1 (rd x6_1 0)).bind fun t471 => (spec_l3Reach.j1 k1 a1 x5_1 t468 (rd x6_1 0) t471 l0_0 a0_1 l0_2))) = some r := H
       have A15 := Aside0.mk A150
       clear A150
       have HC16 := Aside0.mk H
       clear H
       obtain ⟨Ao17, co17, eo17⟩ := Kd.R_slice HO_6.out
       subst eo17
       have p463 : 0 ≤ (0 : Int) := (by omega)
       have q463 : 0 < (x6_1.length : Int) := oD_
       obtain ⟨ad463, e463, hx463_0⟩ := Kd.at_int (Kd.R_reads' HO_6.out).2.2 0 p463 q463
       cases e463
       have qi463 : (0 < x6_1.length) = True := eq_true (by omega)
       (try rw [show ((0 : Int)).toNat = 0 from rfl] at hx463_0)
       (try rw [Addr.add_zero'] at hx463_0)
       replace p463 := eq_true p463
       replace q463 := eq_true q463
       have q18 : (1 : Int) ≤ ((x6_1.length : Int) : Int) := oD_
       obtain ⟨i018, hi018, _, hsz18, _⟩ := info_parts info2
       have hroom18 : x6_1.length ≤ co17 := (Kd.R_reads' HO_6.out).2.1
       have hC18 : Kd.C (Kd.int .i64) _ (some ad463) x6_1.length x6_1 := (Kd.R_reads' HO_6.out).2.2
       have hcut18 := cut_from (P := Try.prog) 22 2 .i64 Try.underlying22 hi018 1 hsz18 (some ad463) x6_1.length co17 1 (by omega) q18
       have hr18 := Kd.C_drop (m := (1 : Int).toNat) (c := co17) hC18 (by omega) hroom18
       obtain ⟨A18, hA18⟩ : ∃ A1, A1 = (if co17 = (1 : Int).toNat then (some ad463) else ((some ad463) : Option Addr).map (·.add ((1 : Int).toNat * 1))) := ⟨_, rfl⟩
       obtain ⟨c18, hc18⟩ : ∃ c1, c1 = co17 - (1 : Int).toNat := ⟨_, rfl⟩
       have hy18 : y464.length = x6_1.length - (1 : Int).toNat := (by rw [Ny464.out, List.length_drop] <;> omega)
       rw [show (x6_1).drop (1 : Int).toNat = y464 from Ny464.out.symm] at hr18
       replace hr18 : Kd.C (Kd.int .i64) _ A18 y464.length y464 := (by rw [hA18]; exact hr18)
       rw [← hy18, ← hA18, ← hc18] at hcut18
       have HR467 := Aside0.mk hr18
       have HC467 := Aside0.mk (show y464.length ≤ c18 from by rw [hy18, hc18]; exact Nat.sub_le_sub_right hroom18 _)
       clear hr18 hC18 hroom18 hi018 hsz18 hc18
       have KY18 := Aside0.mk hy18
       have KA18 := Aside0.mk hA18
       clear hy18 hA18
       have KL18 := Aside0.mk (show 1 ≤ x6_1.length from by omega)
       replace q18 := eq_true q18
       go_upto_region 8 with (first | ((with_reducible refine gate_callee (f := 90) rfl ?_); refine gL_ (some 21) Try.func90 #[.slice A18 y464.length c18] ?_; (with_reducible refine (spec_l1Copy.calls _ _ y464 t468 _ ?side1 ?side2 A15.out).mono ?_); (case side1 => repeat (first | exact (by repeat (first | (with_reducible exact HR467.out) | (with_reducible refine Kd.C_alloc ?_ _) | (with_reducible refine Kd.C_drewN ?_ _) | (with_reducible refine Kd.C_drew ?_) | exact HR467.out)) | (with_reducible refine Kd.C_alloc ?_ _) | (with_reducible refine Kd.C_drewN ?_ _) | (with_reducible refine Kd.C_drew ?_))); (case side2 => exact HC467.out); rintro e w19 ⟨v469, rfl, ho0, hb⟩; refine ⟨_, rfl, ?_⟩; have n0_ := Aside0.mk (Kd.R_elder' rHO_5_ (Kd.R_base ho0) hb); have n1_ := Aside0.mk (Kd.R_elder' rHO_6_ (Kd.R_base ho0) hb); have n2_ := Aside0.mk (Kd.R_lower (Kd.R_new' (Kd.R_new' ho0 (Kd.R_lt rHO_5_)) (Kd.R_lt rHO_6_)) (below_size hS_)); have n3_ := Aside0.mk (blk_below (g := gb456) (o := .cells #[.slice A0_0 l0_0.length c0_0, .int .i64 a0_1, .slice A0_2 l0_2.length c0_2] 41 (0, 0)) bK456_ hb); have n4_ := Aside0.mk (Kd.C_below (by repeat (first | (with_reducible exact HR467.out) | (with_reducible refine Kd.C_alloc ?_ _) | (with_reducible refine Kd.C_drewN ?_ _) | (with_reducible refine Kd.C_drew ?_) | exact HR467.out)) hb); have n5_ := Aside0.mk (below_step hS_ hb); clear HO_5; clear HO_6; clear BK456; clear HR467; clear HB; have HO_5 := n0_; have HO_6 := n1_; have HO470 := n2_; have BK456 := n3_; have HR467 := n4_; have HB := n5_; clear n0_ n1_ n2_ n3_ n4_ n5_; (try clear hb); (try clear hb2); (try clear hk); (try clear hi); (try clear ho0)))
       (try simp only [Act.put, List.setIfInBounds_toArray, List.set_cons_zero, List.set_cons_succ])
       go_cut [29] (fun v29 wc => ∃ (kq : Nat) (x29_15 : Bool), v29 = .bool x29_15 ∧ Aside0 (spec_l3Reach.j1 kq a1 x5_1 t468 (rd x6_1 0) x29_15 l0_0 a0_1 l0_2 = some r) ∧ Aside0 (kq ≤ k1) ∧ Aside0 (Kd.R (Kd.int .i64) 2 wc w.heap.size (fun k_ => some k_ ≠ (v469 : Value).ownBlock) u5 x5_1) ∧ Aside0 (Kd.R (Kd.int .i64) 2 wc w.heap.size (fun k_ => some k_ ≠ (u5 : Value).ownBlock) v469 t468) ∧ Aside0 (wc.heap[gb456]? = some (.cells #[(.slice A0_0 l0_0.length c0_0), .int .i64 a0_1, (.slice A0_2 l0_2.length c0_2)] 41 (0, 0))) ∧ Aside0 (Kd.C (Kd.int .i64) wc A18 y464.length y464) ∧ Aside0 (Below w.heap.size w wc))
       case first =>
        have H := HC16.out
        clear HC16
        by_cases c20 : (rd x6_1 0) = a1
        ·rw [if_pos c20] at H
         have c20b0 : ((rd x6_1 0) == a1) = true := beq_iff_eq.mpr c20
         have c20b1 : ((rd x6_1 0) != a1) = false := bne_eq_false_iff_eq.mpr c20
         clear c20
         (first | rw [c20b0] | (simp only [i64_w, i32_w]; rw [c20b0]) | skip)
         have H' := Aside0.mk H
         clear H
         go_wp2
         go_meet
         case rel => exact ⟨_, (true), rF_, H', ⟨by have := HK1.out; first | omega | exact Nat.le_refl _⟩, ⟨by (with_reducible repeat (first | apply Kd.R_alloc | apply Kd.R_drewN | apply Kd.R_drew)); exact Kd.R_mono HO_5.out (fun _ hk => hk.2)⟩, ⟨by (with_reducible repeat (first | apply Kd.R_alloc | apply Kd.R_drewN | apply Kd.R_drew)); exact Kd.R_mono HO470.out (fun _ hk => hk.1.2)⟩, ⟨bK456_⟩, ⟨by repeat (first | (with_reducible exact HR467.out) | (with_reducible refine Kd.C_alloc ?_ _) | (with_reducible refine Kd.C_drewN ?_ _) | (with_reducible refine Kd.C_drew ?_) | exact HR467.out)⟩, ⟨hS_⟩⟩
        ·rw [if_neg c20] at H
         have c20b0 : ((rd x6_1 0) == a1) = false := beq_eq_false_iff_ne.mpr c20
         have c20b1 : ((rd x6_1 0) != a1) = true := bne_iff_ne.mpr c20
         (first | rw [c20b0] | (simp only [i64_w, i32_w]; rw [c20b0]) | skip)
         replace H := Option.bind_eq_some_iff.mp H
         obtain ⟨t471, A210, H⟩ := H
         replace H : (spec_l3Reach.j1 k1 a1 x5_1 t468 (rd x6_1 0) t471 l0_0 a0_1 l0_2) = some r := H
         have A21 := Aside0.mk A210
         clear A210
         have H' := Aside0.mk H
         clear H
         obtain ⟨Ao22, co22, eo22⟩ := Kd.R_slice HO_5.out
         subst eo22
         go_wp2_with (first | (go_at_call 105; (with_reducible refine (spec_l1Has.calls k1 _ _ x5_1 (rd x6_1 0) t471 _ ?side1 ?side2 A21.out).mono ?_); (case side1 => repeat (first | exact (Kd.R_reads' HO_5.out).2.2 | (with_reducible refine Kd.C_alloc ?_ _) | (with_reducible refine Kd.C_drewN ?_ _) | (with_reducible refine Kd.C_drew ?_))); (case side2 => exact (Kd.R_reads' HO_5.out).2.1); rintro e w' ⟨rfl, ⟨nd, rfl⟩⟩))
         go_meet
         case rel => exact ⟨_, (t471), rF_, H', ⟨by have := HK1.out; first | omega | exact Nat.le_refl _⟩, ⟨by (with_reducible repeat (first | apply Kd.R_alloc | apply Kd.R_drewN | apply Kd.R_drew)); exact Kd.R_mono HO_5.out (fun _ hk => hk.2)⟩, ⟨by (with_reducible repeat (first | apply Kd.R_alloc | apply Kd.R_drewN | apply Kd.R_drew)); exact Kd.R_mono HO470.out (fun _ hk => hk.1.2)⟩, ⟨bK456_⟩, ⟨by repeat (first | (with_reducible exact HR467.out) | (with_reducible refine Kd.C_alloc ?_ _) | (with_reducible refine Kd.C_drewN ?_ _) | (with_reducible refine Kd.C_drew ?_) | exact HR467.out)⟩, ⟨hS_⟩⟩
       case rest =>
        clear HC16
        try clear c1
        try clear q1
        try clear c2
        try clear p2
        try clear c3
        try clear c3b0
        try clear c3b1
        try clear p4
        try clear q4
        try clear hx4
        try clear qi4
        try clear c9
        try clear c10
        try clear c12
        try clear c12b0
        try clear c12b1
        try clear c13
        try clear c13b0
        try clear c13b1
        try clear c14
        try clear c14b0
        try clear c14b1
        try clear c18
        try clear q18
        try clear c20
        try clear c20b0
        try clear c20b1
        try clear hx463_0
        try clear p2
        try clear p463
        try clear q18
        try clear q463
        obtain ⟨kq, x29_15, rfl, HA, HJ15, HO_5, HO_6, BK456, HR467, HB⟩ := hcut
        cases kq with
        | zero => exact absurd HA.out (by simp [spec_l3Reach.j1])
        | succ kj15 =>
         have H := HA.out
         clear HA
         simp only [spec_l3Reach.j1] at H
         by_cases c23 : x29_15 = true
         ·subst c23
          have H1 := (if_pos rfl).symm.trans H
          clear H
          have H := H1
          clear H1
          have H' := Aside0.mk H
          clear H
          go_wp2
          go_roundg kj15
          case measure => have := HK1.out; have := HJ15.out; omega
          case rel => exact ⟨(x5_1), (t468), H', ⟨by have := HK1.out; have := HJ15.out; omega⟩, ⟨rHO_5_⟩, ⟨rHO_6_⟩, ⟨bK456_⟩, ⟨hS_⟩⟩
         ·replace c23 := Bool.eq_false_iff.mpr c23
          subst c23
          have H1 := (if_neg (show ¬ (false = true) by decide)).symm.trans H
          clear H
          have H := H1
          clear H1
          replace H := Option.bind_eq_some_iff.mp H
          obtain ⟨t472, A240, H⟩ := H
          replace H : ((spec_l3Succs.f l0_0 a0_1 l0_2 (rd x6_1 0)).bind fun t475 => (if t468.length + t475.length < 17592186044416 then (spec_l3Reach.l0 kj15 a1 t472 (t468 ++ t475) l0_0 a0_1 l0_2) else (none))) = some r := H
          have A24 := Aside0.mk A240
          clear A240
          replace H := Option.bind_eq_some_iff.mp H
          obtain ⟨t475, A250, H⟩ := H
          replace H : (if t468.length + t475.length < 17592186044416 then (spec_l3Reach.l0 kj15 a1 t472 (t468 ++ t475) l0_0 a0_1 l0_2) else (none)) = some r := H
          have A25 := Aside0.mk A250
          clear A250
          by_cases c26 : t468.length + t475.length < 17592186044416
          ·rw [if_pos c26] at H
           have LMc26 := Aside0.mk c26
           clear c26
           obtain ⟨y478, hy478⟩ : ∃ y_ : List Int, y_ = (t468 ++ t475) := ⟨_, rfl⟩
           replace H : (spec_l3Reach.l0 kj15 a1 t472 y478 l0_0 a0_1 l0_2) = some r := by first | (rw [hy478]; with_reducible exact H) | (have H2_ := (Option.bind_some _ _).symm.trans H; rw [hy478]; with_reducible exact H2_) | (have H2_ := (Option.bind_some _ _).symm.trans H; with_reducible exact H2_) | with_reducible exact H | (rw [hy478]; exact H) | exact H
           have Ny478 := Aside0.mk hy478
           clear hy478
           have H' := Aside0.mk H
           clear H
           obtain ⟨Ao27, co27, eo27⟩ := Kd.R_slice HO_5.out
           subst eo27
           go_wp2_with (first | ((with_reducible refine gate_callee (f := 112) rfl ?_); refine gL_ (some 32) Try.func112 #[.slice Ao27 x5_1.length co27, .int .i64 (rd x6_1 0)] ?_; (with_reducible refine (spec_l1Put.calls kj15 (fun k_ => some k_ = (.slice Ao27 x5_1.length co27 : Value).ownBlock) (.slice Ao27 x5_1.length co27) x5_1 (rd x6_1 0) t472 w _ ?side1 ?side2 A24.out).mono ?_); (case side1 => repeat (first | (with_reducible first | exact HB.out | apply below_alloc | apply pw_below_drewN | apply below_drew1 | refine below_set ?_ GE456.out) | exact HB.out)); (case side2 => exact Kd.R_tight rfl HO_5.out); rintro e w28 ⟨v473, rfl, ho0, hb, hkp⟩; refine ⟨_, rfl, ?_⟩; have n0_ := Aside0.mk (Kd.R_mono (ok' := fun k_ => some k_ ≠ (v473 : Value).ownBlock) (Kd.R_keptB (HO_6.out) hkp (fun k_ hk_ hs_ => (hk_) hs_)) (fun k_ hk_ => fun e_ => Or.elim (ho0.1 k_ e_.symm) (fun hs_ => hk_.2.1 hs_) (fun hn_ => Nat.not_le.2 hk_.2.2 hn_))); have n1_ := Aside0.mk (blk_kept bK456_ hkp (fun hs_ => (fun e_ => (Kd.R_ne HO_5.out BK456.out (by decide)) e_) hs_)); have n2_ := Aside0.mk (Kd.R_mono (ok' := fun k_ => some k_ ≠ (v469 : Value).ownBlock) ho0 (fun k_ hk_ => Or.elim hk_ (fun hs_ => fun e_ => (((HO_6.out).1 k_ e_.symm)) hs_) (fun hn_ => (Kd.fresh' (Kd.R_lt rHO_6_) k_ hn_)))); have n3_ := Aside0.mk (hb); clear HO_6; clear BK456; clear HB; clear HO_5; have HO_6 := n0_; have BK456 := n1_; have HO474 := n2_; have HB := n3_; clear n0_ n1_ n2_ n3_; (try clear hb); (try clear hkp); (try clear ho0); obtain ⟨hcz29_0, hcz29_1, hcz29_2, hfz29_0, hfz29_1, hfz29_2⟩ := blkc3_ BK456.out) | ((with_reducible refine gate_callee (f := 104) rfl ?_); refine gL_ (some 36) Try.func104 #[.agg #[.slice A0_0 l0_0.length c0_0, .int .i64 a0_1, .slice A0_2 l0_2.length c0_2], .int .i64 (rd x6_1 0)] ?_; (with_reducible refine (spec_l3Succs.calls _ _ l0_0 a0_1 _ _ l0_2 (rd x6_1 0) t475 _ ?side1 ?side2 ?side3 ?side4 A25.out).mono ?_); (case side1 => exact cHR0_0_); (case side2 => exact HC0_0.out); (case side3 => exact cHR0_2_); (case side4 => exact HC0_2.out); rintro e w30 ⟨v476, rfl, ho0, hb⟩; refine ⟨_, rfl, ?_⟩; have n0_ := Aside0.mk (Kd.R_elder' rHO_6_ (Kd.R_base ho0) hb); have n1_ := Aside0.mk (Kd.R_elder' rHO474_ (Kd.R_base ho0) hb); have n2_ := Aside0.mk (Kd.R_lower (Kd.R_new' (Kd.R_new' ho0 (Kd.R_lt rHO_6_)) (Kd.R_lt rHO474_)) (below_size hS_)); have n3_ := Aside0.mk (blk_below (g := gb456) (o := .cells #[.slice A0_0 l0_0.length c0_0, .int .i64 a0_1, .slice A0_2 l0_2.length c0_2] 41 (0, 0)) bK456_ hb); have n4_ := Aside0.mk (below_step hS_ hb); clear HO_6; clear HO474; clear BK456; clear HB; have HO_6 := n0_; have HO474 := n1_; have HO477 := n2_; have BK456 := n3_; have HB := n4_; clear n0_ n1_ n2_ n3_ n4_; (try clear hb); (try clear hb2); (try clear hk); (try clear hi); (try clear ho0); obtain ⟨Ao32, co32, eo32⟩ := Kd.R_slice HO477.out; subst eo32) | ((with_reducible refine gate_builtin (b := .append) (xs := #[.tmp 33, .tmp 36]) rfl ?_); at_builtin; refine Kd.R_append_rows (Kd.int .i64) (w0 := w) w.heap.size rfl (.tmp 33) (.tmp 36) 22 2 (.int .i64 0) 8 rfl Try.underlying22 info2 rfl (by decide) (by omega) v469 t468 t475 _ _ _ (fun k_ => some k_ ≠ (v473 : Value).ownBlock ∧ some k_ ≠ (.slice Ao32 t475.length co32 : Value).ownBlock) (fun _ => False) rfl rfl ?aO ?aR (fun _ _ h => h) (fun _ h => h.elim) ?aF ?aB ?aS ?aL ?_; (case aR => repeat (first | exact (Kd.R_reads' HO477.out).2.2 | (with_reducible refine Kd.C_alloc ?_ _) | (with_reducible refine Kd.C_drewN ?_ _) | (with_reducible refine Kd.C_drew ?_))); (case aB => exact hS_); (case aF => exact (fun k_ hk => ⟨Kd.fresh' (Kd.R_lt rHO474_) k_ hk, Kd.fresh' (Kd.R_lt rHO477_) k_ hk⟩)); (case aO => exact rHO_6_); (case aS => exact (below_size hS_)); (case aL => have := LMc26.out; omega); intro v479 w31 ho hb hg hat; rw [← Ny478.out] at ho; have n0_ := Aside0.mk (blk_grown (g := gb456) (o := .cells #[.slice A0_0 l0_0.length c0_0, .int .i64 a0_1, .slice A0_2 l0_2.length c0_2] 41 (0, 0)) bK456_ hg (Kd.R_ne HO_6.out BK456.out (by decide))); have n1_ := Aside0.mk (Kd.R_after (ok := (fun k_ => some k_ ≠ (.slice Ao32 t475.length co32 : Value).ownBlock)) (by (with_reducible repeat (first | apply Kd.R_alloc | apply Kd.R_drewN | apply Kd.R_drew)); exact Kd.R_mono HO474.out (fun _ hk => ⟨hk.2, hk.1⟩)) hg hat); have n2_ := Aside0.mk (Kd.R_after (ok := (fun k_ => some k_ ≠ (v473 : Value).ownBlock)) (by (with_reducible repeat (first | apply Kd.R_alloc | apply Kd.R_drewN | apply Kd.R_drew)); exact Kd.R_mono HO477.out (fun _ hk => ⟨hk.2, hk.1.2⟩)) hg hat); have n3_ := Aside0.mk (hb); have n4_ := Aside0.mk (ho); clear BK456; clear HO474; clear HO477; clear HB; clear HO_6; have BK456 := n0_; have HO474 := n1_; have HO477 := n2_; have HB := n3_; have HO480 := n4_; clear n0_ n1_ n2_ n3_ n4_; clear ho hb hg hat))
           go_roundg kj15
           case measure => have := HK1.out; have := HJ15.out; omega
           case rel => exact ⟨(t472), (y478), H', ⟨by have := HK1.out; have := HJ15.out; omega⟩, ⟨by (with_reducible repeat (first | apply Kd.R_alloc | apply Kd.R_drewN | apply Kd.R_drew)); exact Kd.R_mono HO474.out (fun _ hk => hk.2)⟩, ⟨by (with_reducible repeat (first | apply Kd.R_alloc | apply Kd.R_drewN | apply Kd.R_drew)); exact Kd.R_mono HO480.out (fun _ hk => hk.1)⟩, ⟨bK456_⟩, ⟨hS_⟩⟩
          ·rw [if_neg c26] at H
           exact absurd H (by simp)
      ·rw [if_neg c14] at H
       exact absurd H (by simp)
     ·rw [if_neg c13] at H
      exact absurd H (by simp)
    ·rw [if_neg c12] at H
     have c12b0 : decide (0 < (x6_1.length : Int)) = false := decide_eq_false c12
     have c12b1 : decide (0 < x6_1.length) = false := decide_eq_false (by omega)
     clear c12
     obtain rfl := Option.some.inj H
     obtain ⟨Ao33, co33, eo33⟩ := Kd.R_slice HO_6.out
     subst eo33
     go_wp2
     go_ret
     exact ⟨_, rG_, by (with_reducible repeat (first | apply Kd.R_alloc | apply Kd.R_drewN | apply Kd.R_drew)); exact Kd.R_mono HO_5.out (fun _ hk => trivial), hS_⟩
end Go.Proofs.Ytjkbafcepblacaa.X
namespace Go.Proofs.Ytjkbafcepblacaa.X
set_option linter.unusedVariables false
set_option linter.unusedSimpArgs false
open Go.RowKit Go.Proofs.YtjkbafcepblacaaW.PrintWords Go.Proofs.YtjkbafcepblacaaW.PrintLast Go.Proofs.YtjkbafcepblacaaW.PrintMore
/-- The places that are marked, from i on. -/
def idx : List Bool → Int → List Int
  | [], _ => []
  | x :: l, i => if x = true then i :: idx l (i + 1) else idx l (i + 1)
theorem idx_ge : ∀ (l : List Bool) (i n : Int), n ∈ idx l i → i ≤ n
  | [], i, n, h => by simp [idx] at h
  | x :: l, i, n, h => by
    simp only [idx] at h
    split at h
    · rcases List.mem_cons.1 h with rfl | h
      · omega
      · have := idx_ge l (i + 1) n h; omega
    · have := idx_ge l (i + 1) n h; omega
theorem mem_idx : ∀ (l : List Bool) (i : Int) (b : Nat), (i + b) ∈ idx l i ↔ l.getD b false = true
  | [], i, b => by simp [idx]
  | x :: l, i, 0 => by
    simp only [idx]
    have hn : ¬ (i ∈ idx l (i + 1)) := fun h => by have := idx_ge _ _ _ h; omega
    by_cases hx : x = true
    · simp [hx]
    · rw [if_neg hx]
      simp only [Int.natCast_zero, Int.add_zero, List.getD_cons_zero]
      exact ⟨fun h => absurd h hn, fun h => absurd h hx⟩
  | x :: l, i, b + 1 => by
    have ih := mem_idx l (i + 1) b
    rw [show i + 1 + (b : Int) = i + ((b + 1 : Nat) : Int) by push_cast; omega] at ih
    simp only [idx, List.getD_cons_succ]
    split
    · rw [List.mem_cons, ih]
      exact ⟨fun h => h.elim (fun h => by exfalso; push_cast at h; omega) id, .inr⟩
    · exact ih
theorem mem_idx0 (l : List Bool) (b : Int) (h : 0 ≤ b) : b ∈ idx l 0 ↔ l.getD b.toNat false = true := by
  have := mem_idx l 0 b.toNat
  rw [show (0 : Int) + (b.toNat : Int) = b by omega] at this
  exact this
theorem idx_length : ∀ (l : List Bool) (i : Int), (idx l i).length ≤ l.length
  | [], i => by simp [idx]
  | x :: l, i => by
    have := idx_length l (i + 1)
    simp only [idx]
    split <;> simp <;> omega
/-- A number put into a list of numbers that rise. -/
def putI (n : Int) : List Int → List Int
  | [] => [n]
  | x :: l => if x < n then x :: putI n l else n :: x :: l
theorem putI_ge (n : Int) : ∀ (l : List Int), (∀ x ∈ l, n ≤ x) → putI n l = n :: l
  | [], _ => rfl
  | x :: l, h => by simp only [putI]; rw [if_neg (by have := h x (by simp); omega)]
theorem idx_set : ∀ (l : List Bool) (i : Int) (b : Nat), b < l.length → l.getD b false = false → idx (l.set b true) i = putI (i + b) (idx l i)
  | [], i, b, h, _ => by simp at h
  | x :: l, i, 0, h, hx => by
    simp only [List.getD_cons_zero] at hx
    subst hx
    simp only [List.set_cons_zero, idx, if_true, Int.natCast_zero, Int.add_zero]
    rw [if_neg (by decide), putI_ge]
    intro y hy
    have := idx_ge _ _ _ hy; omega
  | x :: l, i, b + 1, h, hx => by
    have ih := idx_set l (i + 1) b (by simpa using h) (by simpa using hx)
    rw [show i + 1 + (b : Int) = i + ((b + 1 : Nat) : Int) by push_cast; omega] at ih
    simp only [List.set_cons_succ, idx, ih]
    split
    · simp only [putI]; rw [if_pos (by push_cast; omega)]
    · rfl
/-- Where a block leads. -/
def succsOf (b : Block) : List Int := if b.f2.f0 = 2 then [b.f2.f2] else if b.f2.f0 = 3 then [b.f2.f2, b.f2.f3] else []
theorem succsOf_len (b : Block) : (succsOf b).length ≤ 2 := by
  unfold succsOf
  split
  · simp
  · split <;> simp
/-- All ends lead to blocks, of which there are at most ten. -/
def There (l : List Block) : Prop := l.length ≤ 10 ∧ ∀ b ∈ l, ∀ s ∈ succsOf b, 0 ≤ s ∧ s < l.length
instance (l : List Block) : Decidable (There l) := by unfold There; infer_instance
def bfs (l : List Block) (w : Int) : Nat → List Int → List Bool → List Bool
  | 0, _, out => out
  | _ + 1, [], out => out
  | n + 1, b :: q, out => if b = w ∨ out.getD b.toNat false = true then bfs l w n q out else bfs l w n (q ++ succsOf (l.getD b.toNat z88)) (out.set b.toNat true)
theorem bfs_length (l : List Block) (w : Int) : ∀ (n : Nat) (q : List Int) (out : List Bool), (bfs l w n q out).length = out.length
  | 0, _, _ => rfl
  | _ + 1, [], _ => rfl
  | n + 1, b :: q, out => by
    simp only [bfs]
    split
    · exact bfs_length l w n q out
    · rw [bfs_length l w n _ _]; simp
/-- How many are not marked. -/
def off (out : List Bool) : Nat := out.count false
theorem off_set : ∀ (out : List Bool) (b : Nat), b < out.length → out.getD b false = false → off (out.set b true) + 1 = off out
  | [], b, h, _ => by simp at h
  | x :: l, 0, h, hx => by
    simp only [List.getD_cons_zero] at hx
    subst hx
    simp [off]
  | x :: l, b + 1, h, hx => by
    have ih := off_set l b (by simpa using h) (by simpa using hx)
    unfold off at ih ⊢
    simp only [List.set_cons_succ, List.count_cons]
    omega
/-- What may stand in the queue. -/
def okq (l : List Block) (q : List Int) : Prop := ∀ b ∈ q, 0 ≤ b ∧ b < (l.length : Int)
theorem okq_next {l : List Block} {b : Int} {q : List Int} (h : There l) (hq : okq l (b :: q)) : okq l (q ++ succsOf (l.getD b.toNat z88)) := by
  obtain ⟨h0, h1⟩ := hq b (by simp)
  have hlt : b.toNat < l.length := by omega
  intro c hc
  rcases List.mem_append.1 hc with hc | hc
  · exact hq c (by simp [hc])
  · rw [getD_at l _ _ hlt] at hc
    exact h.2 _ (List.getElem_mem hlt) c hc
/-- The blocks that are reached without w. -/
def reachB (l : List Block) (w : Int) : List Bool := bfs l w (3 * l.length + 1) [0] (List.replicate l.length false)
theorem reachB_length (l : List Block) (w : Int) : (reachB l w).length = l.length := by unfold reachB; rw [bfs_length]; simp
theorem off_replicate (n : Nat) : off (List.replicate n false) = n := by unfold off; simp
theorem idx_replicate : ∀ (n : Nat) (i : Int), idx (List.replicate n false) i = []
  | 0, _ => rfl
  | n + 1, i => by simp only [List.replicate_succ, idx]; rw [if_neg (by decide)]; exact idx_replicate n (i + 1)
def domB (l : List Block) (a b : Int) : Bool := (reachB l (-1)).getD b.toNat false && !((reachB l a).getD b.toNat false)
theorem has_l (l : List Int) (n : Int) (h : smI l) : ∀ (d i : Nat), i + d = l.length → Ev (fun k => spec_l1Has.l0 k l n i) (decide (n ∈ l.drop i)) := by
  unfold smI at h
  intro d
  induction d with
  | zero =>
    intro i hi
    refine Ev.step (fun k => rfl) (Ev.ineg (by omega) (Ev.rw (Ev.now _) ?_))
    rw [List.drop_of_length_le (by omega)]; simp
  | succ d ih =>
    intro i hi
    have hlt : i < l.length := by omega
    refine Ev.step (fun k => rfl) (Ev.ipos (by omega) (Ev.ipos (by omega) ?_))
    rw [show rd l (i : Int) = l[i] from getD_at l _ i hlt, List.drop_eq_getElem_cons hlt]
    by_cases c : l[i] = n
    · exact Ev.ipos c (Ev.rw (Ev.now _) (by simp [c]))
    · refine Ev.ineg c ?_
      rw [show wrap64 ((i : Int) + 1) = ((i + 1 : Nat) : Int) by rw [w64 (by omega) (by omega)]; rfl]
      refine Ev.rw (ih (i + 1) (by omega)) ?_
      rw [decide_eq_decide, List.mem_cons]
      exact ⟨.inr, fun h => h.elim (fun e => absurd e.symm c) id⟩
theorem has_ev (l : List Int) (n : Int) (h : smI l) : Ev (fun k => spec_l1Has.f k l n) (decide (n ∈ l)) := by
  have := has_l l n h l.length 0 (by omega)
  rw [List.drop_zero] at this
  exact this
theorem put_l (l : List Int) (n : Int) (h : smI l) (hn : n ∉ l) : ∀ (d i : Nat), i + d = l.length → Ev (fun k => spec_l1Put.l0 k l n i) (l.take i ++ putI n (l.drop i)) := by
  unfold smI at h
  intro d
  induction d with
  | zero =>
    intro i hi
    obtain rfl : i = l.length := by omega
    refine Ev.step (fun k => rfl) (Ev.ineg (by omega) ?_)
    rw [List.drop_of_length_le (Nat.le_refl _), List.take_of_length_le (Nat.le_refl _)]
    refine Ev.cst ?_
    simp only [Option.bind_some, Int.toNat_natCast, List.nil_append, List.length_nil, List.take_length, List.drop_length, List.append_nil]
    rw [if_pos (by omega), if_pos (by omega), if_pos (by omega), if_pos (by omega), if_pos (by simp; omega)]
    rfl
  | succ d ih =>
    intro i hi
    have hlt : i < l.length := by omega
    refine Ev.step (fun k => rfl) (Ev.ipos (by omega) (Ev.ipos (by omega) ?_))
    rw [show rd l (i : Int) = l[i] from getD_at l _ i hlt]
    by_cases c : l[i] < n
    · refine Ev.ipos c ?_
      rw [show wrap64 ((i : Int) + 1) = ((i + 1 : Nat) : Int) by rw [w64 (by omega) (by omega)]; rfl]
      refine Ev.rw (ih (i + 1) (by omega)) ?_
      rw [List.drop_eq_getElem_cons hlt, List.take_succ_eq_append_getElem hlt]
      simp only [putI]
      rw [if_pos c, List.append_assoc]; rfl
    · refine Ev.ineg c (Ev.ineg (fun e => hn (e ▸ List.getElem_mem hlt)) (Ev.cst ?_))
      simp only [Option.bind_some, Int.toNat_natCast, List.nil_append, List.length_nil]
      have hm : (List.take i l).length = i := by rw [List.length_take]; omega
      rw [if_pos (by omega), if_pos (by omega), if_pos (by omega), if_pos (by simp; omega)]
      have e : putI n (l.drop i) = n :: l.drop i := by
        rw [List.drop_eq_getElem_cons hlt]
        simp only [putI]
        rw [if_neg c]
      rw [e, List.append_assoc]; rfl
theorem put_ev (l : List Int) (n : Int) (h : smI l) (hn : n ∉ l) : Ev (fun k => spec_l1Put.f k l n) (putI n l) := by
  have := put_l l n h hn l.length 0 (by omega)
  rw [List.drop_zero, List.take_zero, List.nil_append] at this
  exact this
theorem implLeads_eq (b : Block) : impl_leadsTo.f b.f2.f0 b.f2.f1 b.f2.f2 b.f2.f3 = some (succsOf b) := by
  unfold impl_leadsTo.f succsOf
  by_cases c2 : b.f2.f0 = 2
  · rw [if_pos c2, if_pos c2]
  · rw [if_neg c2, if_neg c2]
    by_cases c3 : b.f2.f0 = 3
    · rw [if_pos c3, if_pos c3]
    · rw [if_neg c3, if_neg c3]
theorem specSuccs_eq (p : List Int) (r : Int) (l : List Block) (x : Int) (h0 : 0 ≤ x) (h1 : x < (l.length : Int)) : spec_l3Succs.f p r l x = some (succsOf (l.getD x.toNat z88)) := by
  have e : rd_T88 l x = l.getD x.toNat z88 := rfl
  unfold spec_l3Succs.f
  rw [if_pos h0, if_pos h1, e]
  generalize l.getD x.toNat z88 = b
  unfold succsOf
  by_cases c2 : b.f2.f0 = 2
  · rw [if_pos c2, if_pos c2]
  · rw [if_neg c2, if_neg c2]
    by_cases c3 : b.f2.f0 = 3
    · rw [if_pos c3, if_pos c3]
    · rw [if_neg c3, if_neg c3]
theorem okq_tail {l : List Block} {b : Int} {q : List Int} (hq : okq l (b :: q)) : okq l q := fun c hc => hq c (by simp [hc])
theorem implReach_l (p : List Int) (r : Int) (l : List Block) (w : Int) (ht : There l) : ∀ (n : Nat) (q : List Int) (out : List Bool), n ≤ 100 → okq l q → out.length = l.length → q.length + 3 * off out ≤ n → Ev (fun k => impl_reach.l0 k w out q p r l) (bfs l w n q out)
  | 0, [], out, _, _, _, _ => Ev.step (fun k => rfl) (Ev.ineg (by simp) (Ev.now _))
  | 0, b :: q, out, _, _, _, hm => by simp at hm
  | n + 1, [], out, _, _, _, _ => Ev.step (fun k => rfl) (Ev.ineg (by simp) (Ev.now _))
  | n + 1, b :: q, out, hn, hq, ho, hm => by
    obtain ⟨h0, h1⟩ := hq b (by simp)
    have hl : ((b :: q).length : Int) = (q.length : Int) + 1 := by simp
    simp only [List.length_cons] at hm
    refine Ev.step (fun k => rfl) (Ev.ipos (by omega) (Ev.ipos (by omega) (Ev.ipos (by omega) (Ev.bind (a := q) (Ev.cst rfl) ?_))))
    rw [show rd (b :: q) 0 = b from rfl]
    by_cases hb : b = w
    · refine Ev.ipos hb (Ev.rw (implReach_l p r l w ht n q out (by omega) (okq_tail hq) ho (by omega)) ?_)
      simp only [bfs]; rw [if_pos (Or.inl hb)]
    · refine Ev.ineg hb (Ev.ipos h0 (Ev.ipos (by omega) ?_))
      by_cases hv : out.getD b.toNat false = true
      · refine Ev.ipos hv (Ev.rw (implReach_l p r l w ht n q out (by omega) (okq_tail hq) ho (by omega)) ?_)
        simp only [bfs]; rw [if_pos (Or.inr hv)]
      · have hf : out.getD b.toNat false = false := by simpa using hv
        have hs := succsOf_len (l.getD b.toNat z88)
        have hd := off_set out b.toNat (by omega) hf
        refine Ev.ineg hv (Ev.ipos h1 (Ev.bind (Ev.cst (implLeads_eq _)) (Ev.ipos (by show q.length + (succsOf (l.getD b.toNat z88)).length < _; omega) ?_)))
        refine Ev.rw (implReach_l p r l w ht n (q ++ succsOf (l.getD b.toNat z88)) (out.set b.toNat true) (by omega) (okq_next ht hq) (by simpa using ho) (by rw [List.length_append]; omega)) ?_
        simp only [bfs]; rw [if_neg (fun h => h.elim hb hv)]
theorem smI_small {l : List Int} (h : l.length ≤ 200) : smI l := Nat.le_trans h (by decide)
theorem okq_first {l : List Block} (h : 0 < l.length) : okq l [0] := fun b hb => by
  obtain rfl : b = 0 := by simpa using hb
  omega
theorem implReach_ev (p : List Int) (r : Int) (l : List Block) (w : Int) (ht : There l) (h : 0 < l.length) : Ev (fun k => impl_reach.f k p r l w) (reachB l w) := by
  have ht10 := ht.1
  refine Ev.ipos (by omega) (Ev.ipos (by simp; omega) ?_)
  rw [show ((l.length : Int)).toNat = l.length from by simp]
  exact implReach_l p r l w ht (3 * l.length + 1) [0] _ (by omega) (okq_first h) (by simp) (by rw [off_replicate]; simp; omega)
/-- All ends lead to blocks (any number of blocks). -/
def EndsOk (l : List Block) : Prop := ∀ b ∈ l, ∀ s ∈ succsOf b, 0 ≤ s ∧ s < (l.length : Int)
instance (l : List Block) : Decidable (EndsOk l) := by unfold EndsOk; infer_instance
theorem There_iff (l : List Block) : There l ↔ l.length ≤ 10 ∧ EndsOk l := Iff.rfl
theorem implGraph_eq (p : List Int) (r : Int) (l : List Block) (h : l.length ≤ 1048576) : impl_isGraph.f p r l = some (decide (1 ≤ l.length ∧ There l)) := by
  have hw : wrap64 ((l.length : Int) - 1) = (l.length : Int) - 1 := w64 (by omega) (by omega)
  unfold impl_isGraph.f
  congr 1
  have key : ∀ b : Block, ((impl_isGraph.ends b).any (impl_isGraph.far (l.length : Int)) = true) ↔ ∃ s ∈ succsOf b, ¬ (0 ≤ s ∧ s < (l.length : Int)) := by
    intro b
    rw [List.any_eq_true]
    constructor
    · rintro ⟨s, hs, hf⟩
      refine ⟨s, hs, ?_⟩
      unfold impl_isGraph.far at hf
      rw [hw] at hf
      simp at hf
      omega
    · rintro ⟨s, hs, hf⟩
      refine ⟨s, hs, ?_⟩
      unfold impl_isGraph.far
      rw [hw]
      simp
      omega
  have e : (!(l.any fun b => (impl_isGraph.ends b).any (impl_isGraph.far (l.length : Int)))) = decide (EndsOk l) := by
    rw [Bool.eq_iff_iff, decide_eq_true_eq, Bool.not_eq_true', List.any_eq_false]
    constructor
    · intro hh b hb s hs
      exact Classical.byContradiction fun c => hh b hb ((key b).2 ⟨s, hs, c⟩)
    · intro hh b hb hany
      obtain ⟨s, hs, c⟩ := (key b).1 hany
      exact c (hh b hb s hs)
  rw [e, Bool.eq_iff_iff, Bool.and_eq_true, decide_eq_true_eq, decide_eq_true_eq, decide_eq_true_eq, There_iff]
  constructor
  · rintro ⟨⟨h1, h2⟩, h3⟩; exact ⟨by omega, by omega, h3⟩
  · rintro ⟨h1, h2, h3⟩; exact ⟨⟨by omega, by omega⟩, h3⟩
theorem specThere_l1 (p : List Int) (r : Int) (l : List Block) (a : Int) (h : l.length ≤ 1048576) (i : Nat) (hil : i < l.length) (s : List Int) (hs : s.length ≤ 2) (R : Bool) (hR : Ev (fun k => spec_l3There.l0 k a (l.length : Int) ((i + 1 : Nat) : Int) p r l) R) :
    ∀ (d j : Nat), j + d = s.length → Ev (fun k => spec_l3There.l1 k a (l.length : Int) i s j p r l) (decide (∀ x ∈ s.drop j, 0 ≤ x ∧ x < (l.length : Int)) && R) := by
  have hw : wrap64 ((l.length : Int) - 1) = (l.length : Int) - 1 := w64 (by omega) (by omega)
  intro d
  induction d with
  | zero =>
    intro j hj
    refine Ev.succ ?_
    simp only [spec_l3There.l1]
    refine Ev.ineg (by omega) ?_
    rw [show wrap64 ((i : Int) + 1) = ((i + 1 : Nat) : Int) by rw [w64 (by omega) (by omega)]; rfl]
    refine Ev.rw hR ?_
    rw [List.drop_of_length_le (by omega)]; simp
  | succ d ih =>
    intro j hj
    have hlt : j < s.length := by omega
    refine Ev.succ ?_
    simp only [spec_l3There.l1]
    rw [hw, show rd s (j : Int) = s[j] from getD_at s _ j hlt]
    refine Ev.ipos (by omega) (Ev.ipos (by omega) (Ev.bind (Ev.cst (specIn_eq _ _ _)) ?_))
    rw [List.drop_eq_getElem_cons hlt]
    by_cases c : 0 ≤ s[j] ∧ s[j] ≤ (l.length : Int) - 1
    · refine Ev.ipos (decide_eq_true c) ?_
      rw [show wrap64 ((j : Int) + 1) = ((j + 1 : Nat) : Int) by rw [w64 (by omega) (by omega)]; rfl]
      refine Ev.rw (ih (j + 1) (by omega)) ?_
      congr 1
      rw [decide_eq_decide]
      simp only [List.mem_cons, forall_eq_or_imp]
      exact ⟨fun h => ⟨⟨c.1, by omega⟩, h⟩, fun h => h.2⟩
    · refine Ev.ineg (by rw [decide_eq_false c]; decide) (Ev.rw (Ev.now _) ?_)
      rw [decide_eq_false (fun h => c (by have := h _ List.mem_cons_self; exact ⟨this.1, by omega⟩))]; rfl
theorem specThere_l0 (p : List Int) (r : Int) (l : List Block) (a : Int) (h : l.length ≤ 1048576) : ∀ (d i : Nat), i + d = l.length →
    Ev (fun k => spec_l3There.l0 k a (l.length : Int) i p r l) (decide (∀ b ∈ l.drop i, ∀ s ∈ succsOf b, 0 ≤ s ∧ s < (l.length : Int)) && (decide (0 ≤ a ∧ a ≤ (l.length : Int) - 1) && decide ((l.length : Int) ≤ 10))) := by
  have hw : wrap64 ((l.length : Int) - 1) = (l.length : Int) - 1 := w64 (by omega) (by omega)
  intro d
  induction d with
  | zero =>
    intro i hi
    refine Ev.succ ?_
    simp only [spec_l3There.l0]
    rw [hw]
    refine Ev.ineg (by omega) (Ev.bind (Ev.cst (specIn_eq _ _ _)) ?_)
    rw [List.drop_of_length_le (by omega), show decide (∀ b ∈ ([] : List Block), ∀ s ∈ succsOf b, 0 ≤ s ∧ s < (l.length : Int)) = true by simp, Bool.true_and]
    by_cases c : 0 ≤ a ∧ a ≤ (l.length : Int) - 1
    · rw [decide_eq_true c, Bool.true_and]; exact Ev.ipos rfl (Ev.now _)
    · rw [decide_eq_false c, Bool.false_and]; exact Ev.ineg (by decide) (Ev.now _)
  | succ d ih =>
    intro i hi
    have hlt : i < l.length := by omega
    refine Ev.succ ?_
    simp only [spec_l3There.l0]
    refine Ev.ipos (by omega) (Ev.bind (Ev.cst (specSuccs_eq p r l i (by omega) (by omega))) ?_)
    rw [show (i : Int).toNat = i from rfl, getD_at l _ i hlt]
    refine Ev.rw (specThere_l1 p r l a h i hlt (succsOf l[i]) (succsOf_len _) _ (ih (i + 1) (by omega)) _ 0 (Nat.zero_add _)) ?_
    rw [List.drop_zero, ← Bool.and_assoc, ← Bool.decide_and]
    congr 1
    rw [decide_eq_decide, List.drop_eq_getElem_cons hlt]
    simp only [List.mem_cons, forall_eq_or_imp]
theorem specThere_ev (p : List Int) (r : Int) (l : List Block) (a : Int) (h : l.length ≤ 1048576) : Ev (fun k => spec_l3There.f k p r l a) (decide ((0 ≤ a ∧ a < (l.length : Int)) ∧ There l)) := by
  refine Ev.rw (specThere_l0 p r l a h l.length 0 (by omega)) ?_
  rw [List.drop_zero, ← Bool.decide_and, ← Bool.decide_and, decide_eq_decide, There_iff]
  unfold EndsOk
  exact ⟨fun h => ⟨by omega, by omega, h.1⟩, fun h => ⟨h.2.2, by omega, by omega⟩⟩
theorem implBlockOf_eq (p : List Int) (r : Int) (l : List Block) (a : Int) (h : l.length ≤ 1048576) : impl_isBlockOf.f p r l a = some (decide ((0 ≤ a ∧ a < (l.length : Int)) ∧ There l)) := by
  unfold impl_isBlockOf.f
  rw [implGraph_eq p r l h]
  simp only [Option.bind_some]
  rw [w64 (x := (l.length : Int) - 1) (by omega) (by omega), implIn_eq]
  simp only [Option.bind_some]
  by_cases c : 1 ≤ l.length ∧ There l
  · rw [if_pos (decide_eq_true c)]
    congr 1
    rw [decide_eq_decide]
    exact ⟨fun h => ⟨by omega, c.2⟩, fun h => by omega⟩
  · rw [if_neg (by rw [decide_eq_false c]; decide), decide_eq_false (fun h => c ⟨by omega, h.2⟩)]
end Go.Proofs.Ytjkbafcepblacaa.X
namespace Go.Proofs.Ytjkbafcepblacaa.X
set_option linter.unusedVariables false
set_option linter.unusedSimpArgs false
open Go.RowKit Go.Proofs.YtjkbafcepblacaaW.PrintWords Go.Proofs.YtjkbafcepblacaaW.PrintLast Go.Proofs.YtjkbafcepblacaaW.PrintMore
/-- The walk into the depth: which blocks are marked, and in which order they are left. -/
def visit (l : List Block) : Nat → Int → List Bool × List Int → List Bool × List Int
  | 0, _, st => st
  | n + 1, b, st => if st.1.getD b.toNat false = true then st else
      let s := (succsOf (l.getD b.toNat z88)).foldl (fun st c => visit l n c st) (st.1.set b.toNat true, st.2)
      (s.1, s.2 ++ [b])
/-- A state that comes behind another one. -/
structure Less (a b : List Bool × List Int) : Prop where
  len : a.1.length = b.1.length
  off : off a.1 ≤ off b.1
  sum : a.2.length + X.off a.1 ≤ b.2.length + X.off b.1
theorem Less.refl (a : List Bool × List Int) : Less a a := ⟨rfl, Nat.le_refl _, Nat.le_refl _⟩
theorem Less.trans {a b c : List Bool × List Int} (h : Less a b) (k : Less b c) : Less a c := ⟨h.len.trans k.len, Nat.le_trans h.off k.off, Nat.le_trans h.sum k.sum⟩
theorem succs_range {l : List Block} (ht : There l) {b : Int} (hb : 0 ≤ b ∧ b < (l.length : Int)) {s : Int} (hs : s ∈ succsOf (l.getD b.toNat z88)) : 0 ≤ s ∧ s < (l.length : Int) := by
  have hlt : b.toNat < l.length := by omega
  rw [getD_at l _ _ hlt] at hs
  exact ht.2 _ (List.getElem_mem hlt) s hs
theorem fold_less {l : List Block} {n : Nat} (ih : ∀ (b : Int) (st : List Bool × List Int), 0 ≤ b ∧ b < (l.length : Int) → st.1.length = l.length → Less (visit l n b st) st) :
    ∀ (t : List Int) (st : List Bool × List Int), (∀ c ∈ t, 0 ≤ c ∧ c < (l.length : Int)) → st.1.length = l.length → Less (t.foldl (fun st c => visit l n c st) st) st
  | [], st, _, _ => Less.refl st
  | c :: t, st, hr, hl => by
    have h1 := ih c st (hr c (by simp)) hl
    exact (fold_less ih t _ (fun x hx => hr x (by simp [hx])) (h1.len.trans hl)).trans h1
theorem mark_less {l : List Block} {b : Int} {st : List Bool × List Int} (hb : 0 ≤ b ∧ b < (l.length : Int)) (hl : st.1.length = l.length) (hv : ¬ st.1.getD b.toNat false = true) :
    off (st.1.set b.toNat true) + 1 = off st.1 := off_set st.1 b.toNat (by omega) (by simpa using hv)
theorem visit_less (l : List Block) (ht : There l) : ∀ (n : Nat) (b : Int) (st : List Bool × List Int), 0 ≤ b ∧ b < (l.length : Int) → st.1.length = l.length → Less (visit l n b st) st
  | 0, b, st, _, _ => Less.refl st
  | n + 1, b, st, hb, hl => by
    simp only [visit]
    by_cases hv : st.1.getD b.toNat false = true
    · rw [if_pos hv]; exact Less.refl st
    · rw [if_neg hv]
      have hd := mark_less hb hl hv
      have h := fold_less (visit_less l ht n) (succsOf (l.getD b.toNat z88)) (st.1.set b.toNat true, st.2) (fun c hc => succs_range ht hb hc) (by simpa using hl)
      generalize (succsOf (l.getD b.toNat z88)).foldl (fun st c => visit l n c st) (st.1.set b.toNat true, st.2) = s at h ⊢
      have h1 : s.1.length = (st.1.set b.toNat true).length := h.len
      have h2 : off s.1 ≤ off (st.1.set b.toNat true) := h.off
      have h3 : s.2.length + off s.1 ≤ st.2.length + off (st.1.set b.toNat true) := h.sum
      rw [List.length_set] at h1
      refine ⟨h1, ?_, ?_⟩
      · show off s.1 ≤ off st.1
        omega
      · show (s.2 ++ [b]).length + off s.1 ≤ st.2.length + off st.1
        rw [List.length_append, List.length_singleton]
        omega
theorem visit_seen (l : List Block) (n : Nat) (b : Int) (st : List Bool × List Int) (hv : st.1.getD b.toNat false = true) : visit l n b st = st := by
  cases n with
  | zero => rfl
  | succ n => simp only [visit]; rw [if_pos hv]
theorem off_zero : ∀ (out : List Bool) (j : Nat), j < out.length → off out = 0 → out.getD j false = true
  | [], j, h, _ => by simp at h
  | x :: out, 0, _, h0 => by
    cases x with
    | true => rfl
    | false => simp [off] at h0
  | x :: out, j + 1, h, h0 => by
    have := off_zero out j (by simpa using h) (by unfold off at h0 ⊢; rw [List.count_cons] at h0; omega)
    simpa using this
theorem implAfter_l (p : List Int) (r : Int) (l : List Block) (b : Int) (n : Nat)
    (ht : There l) (ih : ∀ (c : Int) (st : List Bool × List Int), 0 ≤ c ∧ c < (l.length : Int) → st.1.length = l.length → off st.1 ≤ n → st.2.length + off st.1 ≤ 100 → Ev (fun k => impl_after.f k p r l c st.1 st.2) ((visit l n c st).2, (visit l n c st).1)) (t : List Int) (htl : t.length ≤ 2) (hr : ∀ c ∈ t, 0 ≤ c ∧ c < (l.length : Int)) :
    ∀ (d i : Nat) (st : List Bool × List Int), i + d = t.length → st.1.length = l.length → off st.1 ≤ n → st.2.length + off st.1 ≤ 100 →
      Ev (fun k => impl_after.l0 k b st.1 st.2 t (t.length : Int) i p r l) (((t.drop i).foldl (fun st c => visit l n c st) st).2 ++ [b], ((t.drop i).foldl (fun st c => visit l n c st) st).1) := by
  intro d
  induction d with
  | zero =>
    intro i st hi hl ho hs
    refine Ev.succ ?_
    simp only [impl_after.l0]
    refine Ev.ineg (by omega) (Ev.ipos (by omega) (Ev.rw (Ev.now _) ?_))
    rw [List.drop_of_length_le (by omega)]; rfl
  | succ d ih2 =>
    intro i st hi hl ho hs
    have hlt : i < t.length := by omega
    have hc := hr _ (List.getElem_mem hlt)
    have hle := visit_less l ht n t[i] st hc hl
    refine Ev.succ ?_
    simp only [impl_after.l0]
    rw [show rd t (i : Int) = t[i] from getD_at t _ i hlt, show wrap64 ((i : Int) + 1) = ((i + 1 : Nat) : Int) by rw [w64 (by omega) (by omega)]; rfl]
    refine Ev.ipos (by omega) (Ev.ipos (by omega) (Ev.ipos (by omega) (Ev.bind (ih t[i] st hc hl ho hs) ?_)))
    refine Ev.rw (ih2 (i + 1) (visit l n t[i] st) (by omega) (hle.len.trans hl) (Nat.le_trans hle.off ho) (Nat.le_trans hle.sum hs)) ?_
    rw [List.drop_eq_getElem_cons hlt]; rfl
theorem implAfter_ev (p : List Int) (r : Int) (l : List Block) (ht : There l) : ∀ (n : Nat) (b : Int) (st : List Bool × List Int), 0 ≤ b ∧ b < (l.length : Int) → st.1.length = l.length → off st.1 ≤ n → st.2.length + off st.1 ≤ 100 →
    Ev (fun k => impl_after.f k p r l b st.1 st.2) ((visit l n b st).2, (visit l n b st).1)
  | 0, b, st, hb, hl, ho, _ => by
    have hv := off_zero st.1 b.toNat (by omega) (by omega)
    refine Ev.succ ?_
    simp only [impl_after.f]
    exact Ev.ipos hb.1 (Ev.ipos (by omega) (Ev.ipos hv (Ev.now _)))
  | n + 1, b, st, hb, hl, ho, hs => by
    refine Ev.succ ?_
    simp only [impl_after.f]
    refine Ev.ipos hb.1 (Ev.ipos (by omega) ?_)
    by_cases hv : st.1.getD b.toNat false = true
    · refine Ev.ipos hv (Ev.rw (Ev.now _) ?_)
      rw [visit_seen l (n + 1) b st hv]
    · have hd := mark_less hb hl hv
      have hsl := succsOf_len (l.getD b.toNat z88)
      refine Ev.ineg hv (Ev.ipos hb.2 (Ev.bind (Ev.cst (implLeads_eq _)) ?_))
      have := implAfter_l p r l b n ht (implAfter_ev p r l ht n) (succsOf (l.getD b.toNat z88)) (by omega) (fun c hc => succs_range ht hb hc) _ 0 (st.1.set b.toNat true, st.2) (Nat.zero_add _) (by simpa using hl) (by show off (st.1.set b.toNat true) ≤ n; omega) (by show st.2.length + off (st.1.set b.toNat true) ≤ 100; omega)
      refine Ev.rw this ?_
      simp only [visit]
      rw [if_neg hv]
      rfl
theorem specPost_l (p : List Int) (r : Int) (l : List Block) (b : Int) (n : Nat)
    (ht : There l) (ih : ∀ (c : Int) (st : List Bool × List Int), 0 ≤ c ∧ c < (l.length : Int) → st.1.length = l.length → off st.1 ≤ n → st.2.length + off st.1 ≤ 100 → ¬ st.1.getD c.toNat false = true → Ev (fun k => spec_l3Post.f k p r l c (idx st.1 0) st.2) (idx (visit l n c st).1 0, (visit l n c st).2)) (t : List Int) (htl : t.length ≤ 2) (hr : ∀ c ∈ t, 0 ≤ c ∧ c < (l.length : Int)) :
    ∀ (d i : Nat) (st : List Bool × List Int), i + d = t.length → st.1.length = l.length → off st.1 ≤ n → st.2.length + off st.1 ≤ 100 →
      Ev (fun k => spec_l3Post.l0 k b (idx st.1 0) st.2 t i p r l) (idx ((t.drop i).foldl (fun st c => visit l n c st) st).1 0, ((t.drop i).foldl (fun st c => visit l n c st) st).2 ++ [b]) := by
  have ht10 := ht.1
  intro d
  induction d with
  | zero =>
    intro i st hi hl ho hs
    refine Ev.succ ?_
    simp only [spec_l3Post.l0]
    refine Ev.ineg (by omega) (Ev.ipos (by omega) (Ev.rw (Ev.now _) ?_))
    rw [List.drop_of_length_le (by omega)]; rfl
  | succ d ih2 =>
    intro i st hi hl ho hs
    have hlt : i < t.length := by omega
    have hc := hr _ (List.getElem_mem hlt)
    have hle := visit_less l ht n t[i] st hc hl
    have hh := has_ev (idx st.1 0) t[i] (smI_small (by have := idx_length st.1 0; omega))
    refine Ev.succ ?_
    simp only [spec_l3Post.l0]
    rw [show rd t (i : Int) = t[i] from getD_at t _ i hlt, show wrap64 ((i : Int) + 1) = ((i + 1 : Nat) : Int) by rw [w64 (by omega) (by omega)]; rfl]
    refine Ev.ipos (by omega) (Ev.ipos (by omega) (Ev.bind hh ?_))
    have next := ih2 (i + 1) (visit l n t[i] st) (by omega) (hle.len.trans hl) (Nat.le_trans hle.off ho) (Nat.le_trans hle.sum hs)
    have e : (t.drop i).foldl (fun st c => visit l n c st) st = (t.drop (i + 1)).foldl (fun st c => visit l n c st) (visit l n t[i] st) := by rw [List.drop_eq_getElem_cons hlt]; rfl
    rw [e]
    by_cases hv : st.1.getD t[i].toNat false = true
    · rw [visit_seen l n t[i] st hv] at next ⊢
      exact Ev.ipos (decide_eq_true ((mem_idx0 _ _ hc.1).2 hv)) next
    · exact Ev.ineg (by rw [decide_eq_false (fun h => hv ((mem_idx0 _ _ hc.1).1 h))]; decide) (Ev.bind (ih t[i] st hc hl ho hs hv) next)
theorem specPost_ev (p : List Int) (r : Int) (l : List Block) (ht : There l) : ∀ (n : Nat) (b : Int) (st : List Bool × List Int), 0 ≤ b ∧ b < (l.length : Int) → st.1.length = l.length → off st.1 ≤ n → st.2.length + off st.1 ≤ 100 → ¬ st.1.getD b.toNat false = true →
    Ev (fun k => spec_l3Post.f k p r l b (idx st.1 0) st.2) (idx (visit l n b st).1 0, (visit l n b st).2)
  | 0, b, st, hb, hl, ho, _, hv => absurd (off_zero st.1 b.toNat (by omega) (by omega)) hv
  | n + 1, b, st, hb, hl, ho, hs, hv => by
    have ht10 := ht.1
    have hd := mark_less hb hl hv
    have hf : st.1.getD b.toNat false = false := by simpa using hv
    have hsl := succsOf_len (l.getD b.toNat z88)
    have hset : idx (st.1.set b.toNat true) 0 = putI b (idx st.1 0) := by
      have := idx_set st.1 0 b.toNat (by omega) hf
      rw [show (0 : Int) + (b.toNat : Int) = b by omega] at this
      exact this
    have hp := put_ev (idx st.1 0) b (smI_small (by have := idx_length st.1 0; omega)) (fun h => hv ((mem_idx0 _ _ hb.1).1 h))
    rw [← hset] at hp
    refine Ev.succ ?_
    simp only [spec_l3Post.f]
    refine Ev.bind hp (Ev.bind (Ev.cst (specSuccs_eq p r l b hb.1 hb.2)) ?_)
    have := specPost_l p r l b n ht (specPost_ev p r l ht n) (succsOf (l.getD b.toNat z88)) (by omega) (fun c hc => succs_range ht hb hc) _ 0 (st.1.set b.toNat true, st.2) (Nat.zero_add _) (by simpa using hl) (by show off (st.1.set b.toNat true) ≤ n; omega) (by show st.2.length + off (st.1.set b.toNat true) ≤ 100; omega)
    refine Ev.rw this ?_
    simp only [visit]
    rw [if_neg hv]
    rfl
theorem rev_l : ∀ (d : Nat) (i j : Int) (x : List Int), 0 ≤ i → j < (x.length : Int) → -1 ≤ j → j - i ≤ d → x.length ≤ 1000 →
    ∃ y, Ev (fun k => slices_Reverse_int64_int64.l0 k x i j) y ∧ y.length = x.length ∧ ∀ m : Nat, y[m]? = if i ≤ (m : Int) ∧ (m : Int) ≤ j then x[(i + j - (m : Int)).toNat]? else x[m]?
  | d, i, j, x, h0, h1, h2, hd, hx => by
    by_cases c : i < j
    · obtain ⟨d, rfl⟩ : ∃ e, d = e + 1 := ⟨d - 1, by omega⟩
      have hi : i.toNat < x.length := by omega
      have hj : j.toNat < x.length := by omega
      obtain ⟨y, e, hl, hy⟩ := rev_l d (i + 1) (j - 1) ((x.set i.toNat (rd x j)).set j.toNat (rd x i)) (by omega) (by simp; omega) (by omega) (by omega) (by simpa using hx)
      refine ⟨y, Ev.step (fun k => rfl) (Ev.ipos c (Ev.ipos (by omega) (Ev.ipos h1 (Ev.ipos h0 (Ev.ipos (by omega) ?_))))), by simpa using hl, fun m => ?_⟩
      · rw [w64 (x := i + 1) (by omega) (by omega), w64 (x := j - 1) (by omega) (by omega)]
        exact e
      · rw [hy m]
        have gi : rd x i = x[i.toNat] := getD_at x 0 i.toNat hi
        have gj : rd x j = x[j.toNat] := getD_at x 0 j.toNat hj
        have hget : ∀ q : Nat, ((x.set i.toNat (rd x j)).set j.toNat (rd x i))[q]? = if q = j.toNat then x[i.toNat]? else if q = i.toNat then x[j.toNat]? else x[q]? := by
          intro q
          rw [List.getElem?_set, List.getElem?_set, List.length_set]
          by_cases a : j.toNat = q
          · subst a
            rw [if_pos rfl, if_pos hj, if_pos rfl, gi, List.getElem?_eq_getElem hi]
          · rw [if_neg a, if_neg (show ¬ q = j.toNat from fun e => a e.symm)]
            by_cases a' : i.toNat = q
            · subst a'
              rw [if_pos rfl, if_pos hi, if_pos rfl, gj, List.getElem?_eq_getElem hj]
            · rw [if_neg a', if_neg (show ¬ q = i.toNat from fun e => a' e.symm)]
        rw [hget, hget]
        by_cases b1 : i + 1 ≤ (m : Int) ∧ (m : Int) ≤ j - 1
        · rw [if_pos b1, if_neg (by omega), if_neg (by omega), if_pos (by omega)]
          congr 1; omega
        · rw [if_neg b1]
          by_cases b2 : m = j.toNat
          · rw [if_pos b2, if_pos (by omega)]
            congr 1; omega
          · rw [if_neg b2]
            by_cases b3 : m = i.toNat
            · rw [if_pos b3, if_pos (by omega)]
              congr 1; omega
            · rw [if_neg b3, if_neg (by omega)]
    · refine ⟨x, Ev.step (fun k => rfl) (Ev.ineg c (Ev.now _)), rfl, fun m => ?_⟩
      by_cases b : i ≤ (m : Int) ∧ (m : Int) ≤ j
      · rw [if_pos b]; congr 1; omega
      · rw [if_neg b]
theorem reverse_ev (x : List Int) (hx : x.length ≤ 1000) : Ev (fun k => slices_Reverse_int64_int64.f k x) x.reverse := by
  obtain ⟨y, e, hl, hy⟩ := rev_l x.length 0 ((x.length : Int) - 1) x (by omega) (by omega) (by omega) (by omega) hx
  have hyr : y = x.reverse := by
    apply List.ext_getElem?
    intro m
    rw [hy m]
    by_cases c : m < x.length
    · rw [if_pos ⟨by omega, by omega⟩, List.getElem?_reverse c]
      congr 1; omega
    · rw [if_neg (by omega), List.getElem?_eq_none (by omega), List.getElem?_eq_none (by simp; omega)]
  subst hyr
  show Ev (fun k => slices_Reverse_int64_int64.l0 k x 0 (wrap64 ((x.length : Int) - 1))) _
  rw [w64 (by omega) (by omega)]
  exact e
theorem specRev_l (x : List Int) (hx : x.length ≤ 1000) : ∀ (d : Nat) (acc : List Int), d ≤ x.length → acc.length ≤ 1000 - d → Ev (fun k => spec_OrderOf.l0 k acc x ((d : Int) - 1)) (acc ++ (x.take d).reverse)
  | 0, acc, _, _ => Ev.step (fun k => rfl) (Ev.ineg (by omega) (Ev.rw (Ev.now _) (by simp)))
  | d + 1, acc, hd, ha => by
    have hlt : d < x.length := by omega
    have e1 : (((d + 1 : Nat) : Int) - 1) = (d : Int) := by push_cast; omega
    rw [e1]
    refine Ev.step (fun k => rfl) (Ev.ipos (by omega) (Ev.ipos (by omega) (Ev.ipos (by omega) (Ev.ipos (by omega) ?_))))
    rw [show rd x (d : Int) = x[d] from getD_at x _ d hlt, w64 (x := (d : Int) - 1) (by omega) (by omega)]
    refine Ev.rw (specRev_l x hx d (acc ++ [x[d]]) (by omega) (by simp; omega)) ?_
    rw [List.take_succ_eq_append_getElem hlt, List.reverse_append, List.append_assoc]; rfl
/-- The blocks in order. -/
def orderL (l : List Block) : List Int := if 1 ≤ l.length ∧ There l then (visit l l.length 0 (List.replicate l.length false, [])).2.reverse else []
theorem orderL_len (l : List Block) : (orderL l).length ≤ 10 := by
  unfold orderL
  split
  · rename_i c
    have h := (visit_less l c.2 l.length 0 (List.replicate l.length false, []) ⟨by omega, by omega⟩ (by simp)).sum
    have h10 := c.2.1
    simp only [off_replicate, List.length_nil] at h
    rw [List.length_reverse]
    omega
  · simp
theorem implOrder_ev (p : List Int) (r : Int) (l : List Block) (h : l.length ≤ 1048576) : Ev (fun k => impl_OrderOf.f k p r l) (orderL l) := by
  unfold orderL
  refine Ev.bind (Ev.cst (implGraph_eq p r l h)) ?_
  by_cases c : 1 ≤ l.length ∧ There l
  · rw [if_pos c]
    have h10 := c.2.1
    have hsum := (visit_less l c.2 l.length 0 (List.replicate l.length false, []) ⟨by omega, by omega⟩ (by simp)).sum
    simp only [off_replicate, List.length_nil] at hsum
    have ha := implAfter_ev p r l c.2 l.length 0 (List.replicate l.length false, []) ⟨by omega, by omega⟩ (by simp) (by rw [off_replicate]; exact Nat.le_refl _) (by rw [off_replicate]; simp; omega)
    refine Ev.ipos (decide_eq_true c) (Ev.ipos (by omega) (Ev.ipos (by simp; omega) ?_))
    rw [show ((l.length : Int)).toNat = l.length from by simp]
    exact Ev.bind ha (Ev.bind (reverse_ev _ (by show (visit l l.length 0 (List.replicate l.length false, [])).2.length ≤ _; omega)) (Ev.now _))
  · rw [if_neg c]
    exact Ev.ineg (by rw [decide_eq_false c]; decide) (Ev.now _)
theorem specOrder_ev (p : List Int) (r : Int) (l : List Block) (h : l.length ≤ 1048576) : Ev (fun k => spec_OrderOf.f k p r l) (orderL l) := by
  unfold orderL
  refine Ev.bind (a := []) (Ev.cst rfl) (Ev.bind (specThere_ev p r l 0 h) ?_)
  by_cases c : 1 ≤ l.length ∧ There l
  · rw [if_pos c]
    have h10 := c.2.1
    have hsum := (visit_less l c.2 l.length 0 (List.replicate l.length false, []) ⟨by omega, by omega⟩ (by simp)).sum
    simp only [off_replicate, List.length_nil] at hsum
    have hno : ¬ (List.replicate l.length false).getD (0 : Int).toNat false = true := by
      rw [List.getD_eq_getElem?_getD, List.getElem?_replicate]
      split <;> decide
    have ha := specPost_ev p r l c.2 l.length 0 (List.replicate l.length false, []) ⟨by omega, by omega⟩ (by simp) (by rw [off_replicate]; exact Nat.le_refl _) (by rw [off_replicate]; simp; omega) hno
    rw [show idx (List.replicate l.length false, ([] : List Int)).1 0 = [] from idx_replicate _ _] at ha
    refine Ev.ipos (decide_eq_true ⟨by omega, c.2⟩) (Ev.bind ha ?_)
    generalize hv : (visit l l.length 0 (List.replicate l.length false, [])).2 = x at *
    rw [w64 (x := (x.length : Int) - 1) (by omega) (by omega)]
    refine Ev.rw (specRev_l x (by omega) x.length [] (Nat.le_refl _) (by simp)) ?_
    rw [List.take_length]; rfl
  · rw [if_neg c]
    exact Ev.ineg (by rw [decide_eq_false (fun h => c ⟨by omega, h.2⟩)]; decide) (Ev.now _)
end Go.Proofs.Ytjkbafcepblacaa.X
namespace Go.Proofs.Ytjkbafcepblacaa.X
set_option linter.unusedVariables false
set_option linter.unusedSimpArgs false
open Go.RowKit Go.Proofs.YtjkbafcepblacaaW.PrintWords Go.Proofs.YtjkbafcepblacaaW.PrintLast Go.Proofs.YtjkbafcepblacaaW.PrintMore
/-- Where the block of a number leads. -/
def nexts (l : List Block) (a : Int) : List Int := succsOf (l.getD a.toNat z88)
/-- Reached from the first block over blocks of which P holds. -/
inductive Re (l : List Block) (P : Int → Prop) : Int → Prop
  | first : P 0 → Re l P 0
  | next {a b : Int} : Re l P a → b ∈ nexts l a → P b → Re l P b
theorem Re.holds {l : List Block} {P : Int → Prop} {b : Int} (h : Re l P b) : P b := by
  cases h with
  | first h => exact h
  | next _ _ h => exact h
theorem Re.mono {l : List Block} {P Q : Int → Prop} (hpq : ∀ x, P x → Q x) {b : Int} (h : Re l P b) : Re l Q b := by
  induction h with
  | first h => exact .first (hpq _ h)
  | next _ hb h ih => exact .next ih hb (hpq _ h)
theorem Re.range {l : List Block} {P : Int → Prop} (ht : There l) (h0 : 0 < l.length) {b : Int} (h : Re l P b) : 0 ≤ b ∧ b < (l.length : Int) := by
  induction h with
  | first _ => omega
  | @next a b _ hb _ ih =>
    have hlt : a.toNat < l.length := by omega
    unfold nexts at hb
    rw [getD_at l _ _ hlt] at hb
    exact ht.2 _ (List.getElem_mem hlt) _ hb
/-- The marks: each marked block is reached; where a marked block leads is marked, or waits, or is w. -/
structure Marks (l : List Block) (w : Int) (q : List Int) (out : List Bool) : Prop where
  len : out.length = l.length
  okq : okq l q
  sound : ∀ b : Int, 0 ≤ b → out.getD b.toNat false = true → Re l (· ≠ w) b
  queue : ∀ b ∈ q, b = w ∨ Re l (· ≠ w) b
  closed : ∀ a : Int, 0 ≤ a → out.getD a.toNat false = true → ∀ b ∈ nexts l a, b = w ∨ out.getD b.toNat false = true ∨ b ∈ q
  start : (0 : Int) = w ∨ out.getD 0 false = true ∨ (0 : Int) ∈ q
theorem getD_set_ne (out : List Bool) (i j : Nat) (h : i ≠ j) : (out.set i true).getD j false = out.getD j false := by
  simp [List.getD, List.getElem?_set, h]
theorem getD_set_eq (out : List Bool) (i : Nat) (h : i < out.length) : (out.set i true).getD i false = true := by
  simp [List.getD, List.getElem?_set, h]
theorem getD_set_le (out : List Bool) (i j : Nat) (h : out.getD j false = true) : (out.set i true).getD j false = true := by
  by_cases e : i = j
  · subst e
    refine getD_set_eq out i ?_
    rcases Nat.lt_or_ge i out.length with h' | h'
    · exact h'
    · rw [List.getD_eq_getElem?_getD, List.getElem?_eq_none h'] at h; cases h
  · rw [getD_set_ne out i j e]; exact h
theorem bfs_marks (l : List Block) (w : Int) (ht : There l) : ∀ (n : Nat) (q : List Int) (out : List Bool), Marks l w q out → q.length + 3 * off out ≤ n → Marks l w [] (bfs l w n q out)
  | 0, [], out, h, _ => h
  | 0, b :: q, out, _, hm => by simp at hm
  | n + 1, [], out, h, _ => h
  | n + 1, b :: q, out, h, hm => by
    obtain ⟨h0, h1⟩ := h.okq b (by simp)
    simp only [List.length_cons] at hm
    have hlt : b.toNat < out.length := by rw [h.len]; omega
    simp only [bfs]
    by_cases hc : b = w ∨ out.getD b.toNat false = true
    · rw [if_pos hc]
      refine bfs_marks l w ht n q out ⟨h.len, okq_tail h.okq, h.sound, fun x hx => h.queue x (by simp [hx]), ?_, ?_⟩ (by omega)
      · intro a ha hv x hx
        rcases h.closed a ha hv x hx with e | e | e
        · exact .inl e
        · exact .inr (.inl e)
        · rcases List.mem_cons.1 e with rfl | e
          · rcases hc with hc | hc
            · exact .inl hc
            · exact .inr (.inl hc)
          · exact .inr (.inr e)
      · rcases h.start with e | e | e
        · exact .inl e
        · exact .inr (.inl e)
        · rcases List.mem_cons.1 e with rfl | e
          · rcases hc with hc | hc
            · exact .inl hc
            · exact .inr (.inl hc)
          · exact .inr (.inr e)
    · rw [if_neg hc]
      have hbw : b ≠ w := fun e => hc (.inl e)
      have hbv : out.getD b.toNat false = false := by
        have : ¬ out.getD b.toNat false = true := fun e => hc (.inr e)
        simpa using this
      have hre : Re l (· ≠ w) b := (h.queue b (by simp)).resolve_left hbw
      have hs := succsOf_len (l.getD b.toNat z88)
      have hd := off_set out b.toNat hlt hbv
      refine bfs_marks l w ht n _ _ ⟨by simpa using h.len, okq_next ht h.okq, ?_, ?_, ?_, ?_⟩ (by rw [List.length_append]; omega)
      · intro a ha hv
        by_cases e : b.toNat = a.toNat
        · have : a = b := by omega
          subst this; exact hre
        · rw [getD_set_ne out _ _ e] at hv
          exact h.sound a ha hv
      · intro x hx
        rcases List.mem_append.1 hx with hx | hx
        · exact h.queue x (by simp [hx])
        · by_cases e : x = w
          · exact .inl e
          · exact .inr (.next hre hx e)
      · intro a ha hv x hx
        by_cases e : b.toNat = a.toNat
        · have : a = b := by omega
          subst this
          exact .inr (.inr (List.mem_append.2 (.inr hx)))
        · rw [getD_set_ne out _ _ e] at hv
          rcases h.closed a ha hv x hx with e' | e' | e'
          · exact .inl e'
          · exact .inr (.inl (getD_set_le out _ _ e'))
          · rcases List.mem_cons.1 e' with rfl | e'
            · exact .inr (.inl (getD_set_eq out _ hlt))
            · exact .inr (.inr (List.mem_append.2 (.inl e')))
      · rcases h.start with e' | e' | e'
        · exact .inl e'
        · exact .inr (.inl (getD_set_le out _ _ e'))
        · rcases List.mem_cons.1 e' with rfl | e'
          · exact .inr (.inl (getD_set_eq out _ hlt))
          · exact .inr (.inr (List.mem_append.2 (.inl e')))
theorem reach_marks (l : List Block) (w : Int) (ht : There l) (h0 : 0 < l.length) : Marks l w [] (reachB l w) := by
  have hno : ∀ i : Nat, (List.replicate l.length false).getD i false = false := by
    intro i
    rw [List.getD_eq_getElem?_getD, List.getElem?_replicate]
    split <;> rfl
  refine bfs_marks l w ht _ _ _ ⟨by simp, okq_first h0, ?_, ?_, ?_, .inr (.inr (by simp))⟩ (by rw [off_replicate]; simp; omega)
  · intro b _ hv; rw [hno] at hv; cases hv
  · intro b hb
    obtain rfl : b = 0 := by simpa using hb
    by_cases e : (0 : Int) = w
    · exact .inl e
    · exact .inr (.first e)
  · intro a _ hv; rw [hno] at hv; cases hv
theorem reach_iff (l : List Block) (w : Int) (ht : There l) (h0 : 0 < l.length) (b : Int) (hb : 0 ≤ b) : (reachB l w).getD b.toNat false = true ↔ Re l (· ≠ w) b := by
  have hM := reach_marks l w ht h0
  refine ⟨hM.sound b hb, fun h => ?_⟩
  clear hb
  induction h with
  | first h =>
    rcases hM.start with e | e | e
    · exact absurd e h
    · exact e
    · cases e
  | next ha hx hn ih =>
    have hr := Re.range ht h0 ha
    rcases hM.closed _ hr.1 ih _ hx with e | e | e
    · exact absurd e hn
    · exact e
    · cases e
theorem Re.any {l : List Block} {P : Int → Prop} {b : Int} (ht : There l) (h0 : 0 < l.length) (h : Re l P b) : Re l (· ≠ -1) b := by
  induction h with
  | first _ => exact .first (by decide)
  | @next a b ha hx hp ih => exact .next ih hx (by have := (Re.range ht h0 (.next ha hx hp)).1; omega)
/-- a dominates b. -/
def Dm (l : List Block) (a b : Int) : Prop := Re l (· ≠ -1) b ∧ ¬ Re l (· ≠ a) b
theorem domB_iff (l : List Block) (ht : There l) (h0 : 0 < l.length) (a b : Int) (hb : 0 ≤ b) : domB l a b = true ↔ Dm l a b := by
  unfold domB Dm
  rw [Bool.and_eq_true, reach_iff l (-1) ht h0 b hb, Bool.not_eq_true', ← Bool.not_eq_true, reach_iff l a ht h0 b hb]
theorem Re.split {l : List Block} {P : Int → Prop} {b c : Int} (h : Re l P c) : Re l (fun x => P x ∧ x ≠ b) c ∨ Re l P b := by
  induction h with
  | first hp =>
    by_cases e : (0 : Int) = b
    · exact .inr (e ▸ .first hp)
    · exact .inl (.first ⟨hp, e⟩)
  | @next a c ha hx hp ih =>
    rcases ih with ih | ih
    · by_cases e : c = b
      · exact .inr (e ▸ .next ha hx hp)
      · exact .inl (.next ih hx ⟨hp, e⟩)
    · exact .inr ih
theorem Dm.self {l : List Block} {b : Int} (h : Re l (· ≠ -1) b) : Dm l b b := ⟨h, fun h => h.holds rfl⟩
theorem Dm.zero {l : List Block} {b : Int} (h : Re l (· ≠ -1) b) : Dm l 0 b := by
  refine ⟨h, fun h => ?_⟩
  have : ∀ x, Re l (· ≠ 0) x → False := by
    intro x hx
    induction hx with
    | first h => exact h rfl
    | next _ _ _ ih => exact ih
  exact this _ h
theorem Dm.reached {l : List Block} {a b : Int} (h : Dm l a b) : Re l (· ≠ -1) a := by
  rcases Re.split (b := a) h.1 with h' | h'
  · exact absurd (h'.mono fun _ hx => hx.2) h.2
  · exact h'
theorem Dm.trans {l : List Block} {a b c : Int} (h : Dm l a b) (k : Dm l b c) : Dm l a c := by
  refine ⟨k.1, fun hr => ?_⟩
  rcases Re.split (b := b) hr with h' | h'
  · exact k.2 (h'.mono fun _ hx => hx.2)
  · exact h.2 h'
theorem Dm.chain {l : List Block} {a c b : Int} (h : Dm l a b) (k : Dm l c b) : Dm l a c ∨ Dm l c a := by
  by_cases hac : a = c
  · subst hac; exact .inl (Dm.self h.reached)
  refine Classical.byContradiction fun hn => ?_
  have h1 : Re l (· ≠ a) c := Classical.byContradiction fun e => hn (.inl ⟨k.reached, e⟩)
  have h2 : Re l (· ≠ c) a := Classical.byContradiction fun e => hn (.inr ⟨h.reached, e⟩)
  have key : ∀ x, Re l (· ≠ -1) x → Re l (· ≠ a) x ∨ Re l (· ≠ c) x := by
    intro x hx
    induction hx with
    | first _ =>
      by_cases e : (0 : Int) = a
      · exact .inr (.first (fun e' => hac (e.symm.trans e')))
      · exact .inl (.first e)
    | @next y x ha hx _ ih =>
      by_cases e : x = a
      · exact .inr (e ▸ h2)
      · by_cases e' : x = c
        · exact .inl (e' ▸ h1)
        · rcases ih with ih | ih
          · exact .inl (.next ih hx e)
          · exact .inr (.next ih hx e')
  rcases key b h.1 with h' | h'
  · exact h.2 h'
  · exact k.2 h'
end Go.Proofs.Ytjkbafcepblacaa.X
namespace Go.Proofs.Ytjkbafcepblacaa.X
set_option linter.unusedVariables false
set_option linter.unusedSimpArgs false
open Go.RowKit Go.Proofs.YtjkbafcepblacaaW.PrintWords Go.Proofs.YtjkbafcepblacaaW.PrintLast Go.Proofs.YtjkbafcepblacaaW.PrintMore
theorem implReached_l (B : List Bool) (hB : B.length ≤ 1000) : ∀ (d i : Nat) (acc : List Int), i + d = B.length → acc.length ≤ i → Ev (fun k => impl_Reached.l0 k acc B (B.length : Int) i) (acc ++ idx (B.drop i) i) := by
  intro d
  induction d with
  | zero =>
    intro i acc hi ha
    refine Ev.step (fun k => rfl) (Ev.ineg (by omega) (Ev.rw (Ev.now _) ?_))
    rw [List.drop_of_length_le (by omega)]; simp [idx]
  | succ d ih =>
    intro i acc hi ha
    have hlt : i < B.length := by omega
    have hw : wrap64 ((i : Int) + 1) = ((i + 1 : Nat) : Int) := by rw [w64 (by omega) (by omega)]; rfl
    have hr : rdOf false B (i : Int) = B[i] := getD_at B false i hlt
    refine Ev.step (fun k => rfl) (Ev.ipos (by omega) (Ev.ipos (by omega) (Ev.ipos (by omega) ?_)))
    rw [hr, hw, List.drop_eq_getElem_cons hlt]
    simp only [idx]
    by_cases c : B[i] = true
    · rw [if_pos c]
      refine Ev.ipos c (Ev.ipos (by omega) (Ev.rw (ih (i + 1) (acc ++ [(i : Int)]) (by omega) (by simp; omega)) ?_))
      rw [List.append_assoc]; rfl
    · rw [if_neg c]
      exact Ev.ineg c (ih (i + 1) acc (by omega) (by omega))
/-- The blocks that are reached. -/
def reachedL (l : List Block) : List Int := if 1 ≤ l.length ∧ There l then idx (reachB l (-1)) 0 else []
theorem implReached_ev (p : List Int) (r : Int) (l : List Block) (h : l.length ≤ 1048576) : Ev (fun k => impl_Reached.f k p r l) (reachedL l) := by
  unfold reachedL
  refine Ev.bind (Ev.cst (implGraph_eq p r l h)) ?_
  by_cases c : 1 ≤ l.length ∧ There l
  · rw [if_pos c]
    have h10 := c.2.1
    have hl := reachB_length l (-1)
    refine Ev.ipos (decide_eq_true c) (Ev.bind (implReach_ev p r l (-1) c.2 (by omega)) ?_)
    have := implReached_l (reachB l (-1)) (by omega) (reachB l (-1)).length 0 [] (by omega) (Nat.le_refl _)
    rw [List.drop_zero, List.nil_append] at this
    exact this
  · rw [if_neg c]
    exact Ev.ineg (by rw [decide_eq_false c]; decide) (Ev.now _)
theorem idx_lt : ∀ (B : List Bool) (i : Int), (idx B i).Pairwise (· < ·)
  | [], i => by simp [idx]
  | x :: B, i => by
    simp only [idx]
    split
    · refine List.pairwise_cons.2 ⟨fun y hy => ?_, idx_lt B (i + 1)⟩
      have := idx_ge _ _ _ hy; omega
    · exact idx_lt B (i + 1)
theorem mem_reachedL {l : List Block} {x : Int} (h : x ∈ reachedL l) : There l ∧ (0 ≤ x ∧ x < (l.length : Int)) ∧ Re l (· ≠ -1) x := by
  unfold reachedL at h
  by_cases c : 1 ≤ l.length ∧ There l
  · rw [if_pos c] at h
    have h0 := idx_ge _ _ _ h
    have hr := (reach_iff l (-1) c.2 (by omega) x h0).1 ((mem_idx0 _ x h0).1 h)
    exact ⟨c.2, hr.range c.2 (by omega), hr⟩
  · rw [if_neg c] at h; cases h
theorem reachedL_len (l : List Block) : (reachedL l).length ≤ 10 := by
  unfold reachedL
  split
  · rename_i c
    have := idx_length (reachB l (-1)) 0
    rw [reachB_length] at this
    have := c.2.1
    omega
  · simp
end Go.Proofs.Ytjkbafcepblacaa.X
namespace Go.Proofs.Ytjkbafcepblacaa.X
set_option linter.unusedVariables false
set_option linter.unusedSimpArgs false
open Go.RowKit Go.Proofs.YtjkbafcepblacaaW.PrintWords Go.Proofs.YtjkbafcepblacaaW.PrintLast Go.Proofs.YtjkbafcepblacaaW.PrintMore
theorem split_app {α : Type} {a b u v : List α} {x : α} (h : a ++ b = u ++ x :: v) : (∃ v1, a = u ++ x :: v1 ∧ v = v1 ++ b) ∨ ∃ u2, b = u2 ++ x :: v ∧ u = a ++ u2 := by
  rcases List.append_eq_append_iff.1 h with ⟨a', h1, h2⟩ | ⟨c', h1, h2⟩
  · exact .inr ⟨a', h2, h1⟩
  · cases c' with
    | nil => exact .inr ⟨[], by simpa using h2.symm, by simpa using h1.symm⟩
    | cons y c' =>
      rw [List.cons_append] at h2
      injection h2 with h3 h4
      subst h3
      exact .inl ⟨c', h1, h4⟩
/-- What a visit adds: F is left, in this order, while the blocks of S wait, top the last of them. -/
structure New (l : List Block) (S : Int → Prop) (top : Int) (st st' : List Bool × List Int) (F : List Int) : Prop where
  len : st'.1.length = st.1.length
  ord : st'.2 = st.2 ++ F
  marks : ∀ j : Nat, j < l.length → (st'.1.getD j false = true ↔ st.1.getD j false = true ∨ (j : Int) ∈ F)
  fresh : ∀ x ∈ F, (0 ≤ x ∧ x < (l.length : Int)) ∧ ¬ st.1.getD x.toNat false = true
  nodup : F.Nodup
  pred : ∀ u x v, F = u ++ x :: v → ∃ y, x ∈ nexts l y ∧ (y = top ∨ y ∈ v)
  dom : ∀ u x v, F = u ++ x :: v → ∀ a, Dm l a x → a ≠ x → S a ∨ a ∈ v
  clos : ∀ x ∈ F, ∀ c ∈ nexts l x, st'.1.getD c.toNat false = true
  reach : ∀ x ∈ F, Re l (fun _ => True) x
theorem New.none (l : List Block) (S : Int → Prop) (top : Int) (st : List Bool × List Int) : New l S top st st [] where
  len := rfl
  ord := (List.append_nil _).symm
  marks := fun j _ => ⟨.inl, fun h => h.elim id (fun h => nomatch h)⟩
  fresh := fun x h => nomatch h
  nodup := List.nodup_nil
  pred := fun u x v h => by cases u <;> cases h
  dom := fun u x v h => by cases u <;> cases h
  clos := fun x h => nomatch h
  reach := fun x h => nomatch h
theorem in_range {l : List Block} (ht : There l) {a b : Int} (ha : 0 ≤ a ∧ a < (l.length : Int)) (hb : b ∈ nexts l a) : 0 ≤ b ∧ b < (l.length : Int) := succs_range ht ha hb
theorem New.both {l : List Block} {S : Int → Prop} {top : Int} {st st1 st2 : List Bool × List Int} {F1 F2 : List Int} (ht : There l) (h : New l S top st st1 F1) (k : New l S top st1 st2 F2) : New l S top st st2 (F1 ++ F2) := by
  have mono : ∀ c : Int, 0 ≤ c → c < (l.length : Int) → st1.1.getD c.toNat false = true → st2.1.getD c.toNat false = true := fun c h0 h1 hv => (k.marks c.toNat (by omega)).2 (.inl hv)
  refine ⟨k.len.trans h.len, by rw [k.ord, h.ord, List.append_assoc], ?_, ?_, ?_, ?_, ?_, ?_, ?_⟩
  · intro j hj
    rw [k.marks j hj, h.marks j hj, List.mem_append, or_assoc]
  · intro x hx
    rcases List.mem_append.1 hx with hx | hx
    · exact h.fresh x hx
    · obtain ⟨hr, hn⟩ := k.fresh x hx
      exact ⟨hr, fun hv => hn ((h.marks x.toNat (by omega)).2 (.inl hv))⟩
  · rw [List.nodup_append]
    refine ⟨h.nodup, k.nodup, fun x hx y hy e => ?_⟩
    subst e
    obtain ⟨hr, hn⟩ := k.fresh x hy
    refine hn ((h.marks x.toNat (by omega)).2 (.inr ?_))
    rw [show ((x.toNat : Nat) : Int) = x by omega]
    exact hx
  · intro u x v e
    rcases split_app e with ⟨v1, e1, e2⟩ | ⟨u2, e1, e2⟩
    · obtain ⟨y, hy, hy2⟩ := h.pred u x v1 e1
      refine ⟨y, hy, hy2.imp id (fun hm => ?_)⟩
      rw [e2]; exact List.mem_append.2 (.inl hm)
    · exact k.pred u2 x v e1
  · intro u x v e a ha hax
    rcases split_app e with ⟨v1, e1, e2⟩ | ⟨u2, e1, e2⟩
    · refine (h.dom u x v1 e1 a ha hax).imp id (fun hm => ?_)
      rw [e2]; exact List.mem_append.2 (.inl hm)
    · exact k.dom u2 x v e1 a ha hax
  · intro x hx c hc
    rcases List.mem_append.1 hx with hx | hx
    · have hr := in_range ht (h.fresh x hx).1 hc
      exact mono c hr.1 hr.2 (h.clos x hx c hc)
    · exact k.clos x hx c hc
  · intro x hx
    rcases List.mem_append.1 hx with hx | hx
    · exact h.reach x hx
    · exact k.reach x hx
theorem fold_new {l : List Block} (ht : There l) {n : Nat} {S : Int → Prop} {top : Int}
    (ih : ∀ (c : Int) (st : List Bool × List Int), c ∈ nexts l top → st.1.length = l.length → off st.1 ≤ n → ∃ F, New l S top st (visit l n c st) F ∧ (visit l n c st).1.getD c.toNat false = true) (htop : 0 ≤ top ∧ top < (l.length : Int)) :
    ∀ (t : List Int) (st : List Bool × List Int), (∀ c ∈ t, c ∈ nexts l top) → st.1.length = l.length → off st.1 ≤ n →
      ∃ F, New l S top st (t.foldl (fun st c => visit l n c st) st) F ∧ ∀ c ∈ t, (t.foldl (fun st c => visit l n c st) st).1.getD c.toNat false = true
  | [], st, _, _, _ => ⟨[], New.none l S top st, fun c h => by cases h⟩
  | c :: t, st, hr, hl, ho => by
    have hc := hr c (by simp)
    obtain ⟨F1, h1, m1⟩ := ih c st hc hl ho
    have hle := visit_less l ht n c st (in_range ht htop hc) hl
    obtain ⟨F2, h2, m2⟩ := fold_new ht ih htop t (visit l n c st) (fun x hx => hr x (by simp [hx])) (hle.len.trans hl) (Nat.le_trans hle.off ho)
    refine ⟨F1 ++ F2, h1.both ht h2, fun x hx => ?_⟩
    rcases List.mem_cons.1 hx with rfl | hx
    · have hr := in_range ht htop hc
      exact (h2.marks x.toNat (by omega)).2 (.inl m1)
    · exact m2 x hx
theorem visit_new {l : List Block} (ht : There l) (h0 : 0 < l.length) : ∀ (n : Nat) (c : Int) (st : List Bool × List Int) (S : Int → Prop) (top : Int), S top → Re l S top → c ∈ nexts l top → st.1.length = l.length → off st.1 ≤ n →
    ∃ F, New l S top st (visit l n c st) F ∧ (visit l n c st).1.getD c.toNat false = true
  | n, c, st, S, top, hS, hre, hc, hl, ho => by
    have htop := hre.range ht h0
    have hcr := in_range ht htop hc
    by_cases hv : st.1.getD c.toNat false = true
    · rw [visit_seen l n c st hv]
      exact ⟨[], New.none l S top st, hv⟩
    · cases n with
      | zero => exact absurd (off_zero st.1 c.toNat (by omega) (by omega)) hv
      | succ n =>
        have hd := mark_less hcr hl hv
        have hre' : Re l (fun x => x = c ∨ S x) c := .next (hre.mono fun _ hx => .inr hx) hc (.inl rfl)
        obtain ⟨F, hN, hm⟩ := fold_new ht (S := fun x => x = c ∨ S x) (fun d st' hd hl' ho' => visit_new ht h0 n d st' (fun x => x = c ∨ S x) c (.inl rfl) hre' hd hl' ho') hcr (nexts l c) (st.1.set c.toNat true, st.2) (fun _ h => h) (by simpa using hl) (by show off (st.1.set c.toNat true) ≤ n; omega)
        have ev : visit l (n + 1) c st = (((nexts l c).foldl (fun st c => visit l n c st) (st.1.set c.toNat true, st.2)).1, ((nexts l c).foldl (fun st c => visit l n c st) (st.1.set c.toNat true, st.2)).2 ++ [c]) := by
          simp only [visit]; rw [if_neg hv]; rfl
        rw [ev]
        generalize (nexts l c).foldl (fun st c => visit l n c st) (st.1.set c.toNat true, st.2) = s at hN hm
        have hset : ∀ j : Nat, j < l.length → ((st.1.set c.toNat true).getD j false = true ↔ st.1.getD j false = true ∨ (j : Int) = c) := by
          intro j hj
          by_cases e : c.toNat = j
          · rw [← e, getD_set_eq st.1 c.toNat (by omega)]
            exact ⟨fun _ => .inr (by omega), fun _ => rfl⟩
          · rw [getD_set_ne st.1 c.toNat j e]
            exact ⟨.inl, fun h => h.elim id (fun h => absurd (by omega) e)⟩
        have hcF : c ∉ F := fun h => (hN.fresh c h).2 ((hset c.toNat (by omega)).2 (.inr (by omega)))
        refine ⟨F ++ [c], ⟨?_, ?_, ?_, ?_, ?_, ?_, ?_, ?_, ?_⟩, (hN.marks c.toNat (by omega)).2 (.inl ((hset c.toNat (by omega)).2 (.inr (by omega))))⟩
        · have := hN.len; simpa using this
        · show s.2 ++ [c] = st.2 ++ (F ++ [c])
          rw [hN.ord, List.append_assoc]
        · intro j hj
          show s.1.getD j false = true ↔ _
          rw [hN.marks j hj]
          show (st.1.set c.toNat true).getD j false = true ∨ _ ↔ _
          rw [hset j hj, List.mem_append, List.mem_singleton]
          constructor
          · rintro ((h | h) | h)
            · exact .inl h
            · exact .inr (.inr h)
            · exact .inr (.inl h)
          · rintro (h | h | h)
            · exact .inl (.inl h)
            · exact .inr h
            · exact .inl (.inr h)
        · intro x hx
          rcases List.mem_append.1 hx with hx | hx
          · obtain ⟨hr, hn⟩ := hN.fresh x hx
            exact ⟨hr, fun hv => hn ((hset x.toNat (by omega)).2 (.inl hv))⟩
          · obtain rfl := List.mem_singleton.1 hx
            exact ⟨hcr, hv⟩
        · rw [List.nodup_append]
          refine ⟨hN.nodup, by simp, fun x hx y hy e => ?_⟩
          obtain rfl := List.mem_singleton.1 hy
          subst e
          exact hcF hx
        · intro u x v e
          rcases split_app e with ⟨v1, e1, e2⟩ | ⟨u2, e1, e2⟩
          · obtain ⟨y, hy, hy2⟩ := hN.pred u x v1 e1
            refine ⟨y, hy, .inr ?_⟩
            rw [e2, List.mem_append, List.mem_singleton]
            exact hy2.symm
          · have hx : x = c ∧ v = [] := by
              cases u2 with
              | nil => rw [List.nil_append] at e1; injection e1 with e3 e4; exact ⟨e3.symm, e4.symm⟩
              | cons y u2 => rw [List.cons_append] at e1; injection e1 with e3 e4; simp at e4
            exact ⟨top, by rw [hx.1]; exact hc, .inl rfl⟩
        · intro u x v e a ha hax
          rcases split_app e with ⟨v1, e1, e2⟩ | ⟨u2, e1, e2⟩
          · rw [e2]
            rcases hN.dom u x v1 e1 a ha hax with (h | h) | h
            · exact .inr (List.mem_append.2 (.inr (by simp [h])))
            · exact .inl h
            · exact .inr (List.mem_append.2 (.inl h))
          · have hx : x = c := by
              cases u2 with
              | nil => rw [List.nil_append] at e1; injection e1 with e3 e4; exact e3.symm
              | cons y u2 => rw [List.cons_append] at e1; injection e1 with e3 e4; simp at e4
            subst hx
            left
            refine Classical.byContradiction fun hn => ?_
            exact ha.2 (hre'.mono fun y hy => by
              rcases hy with rfl | hy
              · exact fun e => hax e.symm
              · rintro rfl; exact hn hy)
        · intro x hx d hd'
          rcases List.mem_append.1 hx with hx | hx
          · exact hN.clos x hx d hd'
          · obtain rfl := List.mem_singleton.1 hx
            exact hm d hd'
        · intro x hx
          rcases List.mem_append.1 hx with hx | hx
          · exact hN.reach x hx
          · obtain rfl := List.mem_singleton.1 hx
            exact hre'.mono fun _ _ => trivial
/-- What is to be known of the order. -/
structure Ordered (l : List Block) (L : List Int) : Prop where
  nodup : L.Nodup
  mem : ∀ x, x ∈ L ↔ Re l (· ≠ -1) x
  pred : ∀ u x v, L = u ++ x :: v → u = [] ∧ x = 0 ∨ ∃ y ∈ u, x ∈ nexts l y
  dom : ∀ u x v, L = u ++ x :: v → ∀ a, Dm l a x → a ≠ x → a ∈ u
  first : ∃ v, L = 0 :: v
theorem order_ordered (l : List Block) (h : 1 ≤ l.length ∧ There l) : Ordered l (orderL l) := by
  obtain ⟨h1, ht⟩ := h
  have h0 : 0 < l.length := h1
  have e : orderL l = (visit l l.length 0 (List.replicate l.length false, [])).2.reverse := by unfold orderL; rw [if_pos ⟨h1, ht⟩]
  have hno : ∀ i : Nat, ¬ (List.replicate l.length false).getD i false = true := by
    intro i
    rw [List.getD_eq_getElem?_getD, List.getElem?_replicate]
    split <;> decide
  obtain ⟨n, hn⟩ : ∃ n, l.length = n + 1 := ⟨l.length - 1, by omega⟩
  have hz : 0 ≤ (0 : Int) ∧ (0 : Int) < (l.length : Int) := by omega
  have hd := mark_less (l := l) (st := (List.replicate l.length false, [])) hz (by simp) (hno _)
  have hre : Re l (fun x => x = 0) 0 := .first rfl
  obtain ⟨F, hN, hm⟩ := fold_new ht (S := fun x => x = 0) (fun d st' hd hl' ho' => visit_new ht h0 n d st' (fun x => x = 0) 0 rfl hre hd hl' ho') hz (nexts l 0) ((List.replicate l.length false).set (0 : Int).toNat true, []) (fun _ h => h) (by simp) (by
    show off ((List.replicate l.length false).set (0 : Int).toNat true) ≤ n
    have : off (List.replicate l.length false) = l.length := off_replicate _
    have hd' : off ((List.replicate l.length false).set (0 : Int).toNat true) + 1 = off (List.replicate l.length false) := hd
    omega)
  have ev : (visit l l.length 0 (List.replicate l.length false, [])).2 = F ++ [0] := by
    rw [hn]
    simp only [visit]
    rw [if_neg (by rw [← hn]; exact hno _)]
    have := hN.ord
    rw [List.nil_append, hn] at this
    exact congrArg (· ++ [0]) this
  rw [ev, List.reverse_append, List.reverse_singleton, List.singleton_append] at e
  have hset : ∀ j : Nat, j < l.length → (((List.replicate l.length false).set (0 : Int).toNat true).getD j false = true ↔ j = 0) := by
    intro j hj
    by_cases c : j = 0
    · subst c
      exact ⟨fun _ => rfl, fun _ => getD_set_eq _ 0 (by simpa using hj)⟩
    · rw [show (0 : Int).toNat = 0 from rfl, getD_set_ne _ 0 j (fun e => c e.symm)]
      exact ⟨fun h => absurd h (hno j), fun h => absurd h c⟩
  have h0F : (0 : Int) ∉ F := fun h => (hN.fresh 0 h).2 ((hset 0 h0).2 rfl)
  have rev : ∀ u x v, orderL l = u ++ x :: v → F ++ [0] = v.reverse ++ x :: u.reverse := by
    intro u x v hL
    rw [e] at hL
    have := congrArg List.reverse hL
    simpa using this
  refine ⟨?_, ?_, ?_, ?_, ⟨F.reverse, e⟩⟩
  · rw [e, List.nodup_cons]
    exact ⟨by simpa using h0F, List.pairwise_reverse.2 (hN.nodup.imp Ne.symm)⟩
  · intro x
    rw [e, List.mem_cons, List.mem_reverse]
    constructor
    · rintro (rfl | hx)
      · exact .first (by decide)
      · exact (hN.reach x hx).any ht h0
    · intro hx
      induction hx with
      | first _ => exact .inl rfl
      | @next a b ha hb _ ih =>
        have hr := ha.range ht h0
        have hbr := in_range ht hr hb
        have hmk : ((nexts l 0).foldl (fun st c => visit l n c st) ((List.replicate l.length false).set (0 : Int).toNat true, [])).1.getD b.toNat false = true := by
          rcases ih with rfl | ih
          · exact hm b hb
          · exact hN.clos a ih b hb
        rcases (hN.marks b.toNat (by omega)).1 hmk with h | h
        · have := (hset b.toNat (by omega)).1 h
          exact .inl (by omega)
        · exact .inr (by rw [show ((b.toNat : Nat) : Int) = b by omega] at h; exact h)
  · intro u x v hL
    rcases split_app (rev u x v hL) with ⟨v1, e1, e2⟩ | ⟨u2, e1, e2⟩
    · right
      obtain ⟨y, hy, hy2⟩ := hN.pred v.reverse x v1 e1
      refine ⟨y, ?_, hy⟩
      rw [← List.mem_reverse, e2, List.mem_append, List.mem_singleton]
      exact hy2.symm
    · left
      cases u2 with
      | nil => rw [List.nil_append] at e1; injection e1 with e3 e4; exact ⟨by simpa using e4.symm, e3.symm⟩
      | cons y u2 => rw [List.cons_append] at e1; injection e1 with e3 e4; simp at e4
  · intro u x v hL a ha hax
    rcases split_app (rev u x v hL) with ⟨v1, e1, e2⟩ | ⟨u2, e1, e2⟩
    · rw [← List.mem_reverse, e2, List.mem_append, List.mem_singleton]
      exact (hN.dom v.reverse x v1 e1 a ha hax).symm
    · have hx : x = 0 := by
        cases u2 with
        | nil => rw [List.nil_append] at e1; injection e1 with e3 e4; exact e3.symm
        | cons y u2 => rw [List.cons_append] at e1; injection e1 with e3 e4; simp at e4
      subst hx
      exact absurd (.first (fun e => hax e.symm)) ha.2
theorem nodup_len {α : Type} [DecidableEq α] : ∀ (a b : List α), a.Nodup → (∀ x ∈ a, x ∈ b) → a.length ≤ b.length
  | [], b, _, _ => Nat.zero_le _
  | x :: a, b, hn, hs => by
    obtain ⟨u, v, rfl⟩ := List.append_of_mem (hs x (by simp))
    rw [List.nodup_cons] at hn
    have := nodup_len a (u ++ v) hn.2 (fun y hy => by
      have h := hs y (by simp [hy])
      rw [List.mem_append, List.mem_cons] at h
      rw [List.mem_append]
      rcases h with h | rfl | h
      · exact .inl h
      · exact absurd hy hn.1
      · exact .inr h)
    simp only [List.length_append, List.length_cons] at this ⊢
    omega
end Go.Proofs.Ytjkbafcepblacaa.X
namespace Go.Proofs.Ytjkbafcepblacaa.X
set_option linter.unusedVariables false
set_option linter.unusedSimpArgs false
open Go.RowKit Go.Proofs.YtjkbafcepblacaaW.PrintWords Go.Proofs.YtjkbafcepblacaaW.PrintLast Go.Proofs.YtjkbafcepblacaaW.PrintMore
theorem index_l (l : List Int) (n : Int) (h : l.length ≤ 1000) : ∀ (d i : Nat), i + d = l.length → ∃ t, Ev (fun k => slices_Index_int64_int64.l0 k l n (l.length : Int) i) t ∧ (0 ≤ t ↔ n ∈ l.drop i) := by
  intro d
  induction d with
  | zero =>
    intro i hi
    refine ⟨-1, Ev.step (fun k => rfl) (Ev.ineg (by omega) (Ev.now _)), ?_⟩
    rw [List.drop_of_length_le (by omega)]; simp
  | succ d ih =>
    intro i hi
    have hlt : i < l.length := by omega
    obtain ⟨t, e, ht⟩ := ih (i + 1) (by omega)
    rw [List.drop_eq_getElem_cons hlt, List.mem_cons]
    by_cases c : n = l[i]
    · refine ⟨i, Ev.step (fun k => rfl) (Ev.ipos (by omega) (Ev.ipos (by omega) (Ev.ipos (by omega) ?_))), ⟨fun _ => .inl c, fun _ => by omega⟩⟩
      rw [show rd l (i : Int) = l[i] from getD_at l _ i hlt]
      exact Ev.ipos c (Ev.now _)
    · refine ⟨t, Ev.step (fun k => rfl) (Ev.ipos (by omega) (Ev.ipos (by omega) (Ev.ipos (by omega) ?_))), ?_⟩
      · rw [show rd l (i : Int) = l[i] from getD_at l _ i hlt, show wrap64 ((i : Int) + 1) = ((i + 1 : Nat) : Int) by rw [w64 (by omega) (by omega)]; rfl]
        exact Ev.ineg c e
      · rw [ht]; exact ⟨.inr, fun h => h.elim (fun e => absurd e c) id⟩
theorem contains_ev (l : List Int) (n : Int) (h : l.length ≤ 1000) : Ev (fun k => slices_Contains_int64_int64.f k l n) (decide (n ∈ l)) := by
  obtain ⟨t, e, ht⟩ := index_l l n h l.length 0 (by omega)
  rw [List.drop_zero] at ht
  refine Ev.bind e (Ev.rw (Ev.now _) ?_)
  rw [decide_eq_decide]
  exact ht
theorem predsM_l (p : List Int) (r : Int) (l : List Block) (b : Int) (h : l.length ≤ 10) : ∀ (d i : Nat) (acc : List Int), i + d = l.length → acc.length ≤ i → (∀ y : Int, 0 ≤ y → y < i → b ∈ nexts l y → y ∈ acc) →
    ∃ R, R.length ≤ 20 ∧ Ev (fun k => impl_predsOf.l0 k b acc l (l.length : Int) i) R ∧ ∀ y : Int, 0 ≤ y → y < (l.length : Int) → b ∈ nexts l y → y ∈ R := by
  intro d
  induction d with
  | zero =>
    intro i acc hi ha hm
    refine ⟨acc, by omega, Ev.step (fun k => rfl) (Ev.ineg (by omega) (Ev.now _)), fun y h0 h1 hb => hm y h0 (by omega) hb⟩
  | succ d ih =>
    intro i acc hi ha hm
    have hlt : i < l.length := by omega
    have hw : wrap64 ((i : Int) + 1) = ((i + 1 : Nat) : Int) := by rw [w64 (by omega) (by omega)]; rfl
    have hs := succsOf_len (l.getD (i : Int).toNat z88)
    have c1 := contains_ev (succsOf (l.getD (i : Int).toNat z88)) b (by omega)
    by_cases c : b ∈ succsOf (l.getD (i : Int).toNat z88)
    · obtain ⟨R, hR, e2, hall⟩ := ih (i + 1) (acc ++ [(i : Int)]) (by omega) (by simp; omega) (fun y h0 h1 hb => by
        rw [List.mem_append, List.mem_singleton]
        by_cases e : y = (i : Int)
        · exact .inr e
        · exact .inl (hm y h0 (by omega) hb))
      refine ⟨R, hR, Ev.step (fun k => rfl) (Ev.ipos (by omega) (Ev.ipos (by omega) (Ev.ipos (by omega) (Ev.bind (Ev.cst (implLeads_eq _)) (Ev.bind c1 (Ev.ipos (decide_eq_true c) (Ev.ipos (by omega) ?_))))))), hall⟩
      rw [hw]; exact e2
    · obtain ⟨R, hR, e2, hall⟩ := ih (i + 1) acc (by omega) (by omega) (fun y h0 h1 hb => by
        by_cases e : y = (i : Int)
        · subst e; exact absurd hb c
        · exact hm y h0 (by omega) hb)
      refine ⟨R, hR, Ev.step (fun k => rfl) (Ev.ipos (by omega) (Ev.ipos (by omega) (Ev.ipos (by omega) (Ev.bind (Ev.cst (implLeads_eq _)) (Ev.bind c1 (Ev.ineg (by rw [decide_eq_false c]; decide) ?_)))))), hall⟩
      rw [hw]; exact e2
theorem predsM_ev (p : List Int) (r : Int) (l : List Block) (b : Int) (ht : There l) (hb : 0 ≤ b ∧ b < (l.length : Int)) : ∃ R, R.length ≤ 20 ∧ Ev (fun k => impl_PredsOf.f k p r l b) R ∧ ∀ y : Int, 0 ≤ y → y < (l.length : Int) → b ∈ nexts l y → y ∈ R := by
  have h10 := ht.1
  obtain ⟨R, hR, e, hm⟩ := predsM_l p r l b ht.1 l.length 0 [] (by omega) (Nat.le_refl _) (fun y h0 h1 _ => by omega)
  exact ⟨R, hR, Ev.bind (Ev.cst (implBlockOf_eq p r l b (by omega))) (Ev.ipos (decide_eq_true ⟨hb, ht⟩) (Ev.bind e (Ev.now _))), hm⟩
end Go.Proofs.Ytjkbafcepblacaa.X
namespace Go.Proofs.Ytjkbafcepblacaa.X
open Go.RowKit Go.Proofs.YtjkbafcepblacaaW.PrintWords Go.Proofs.YtjkbafcepblacaaW.PrintLast Go.Proofs.YtjkbafcepblacaaW.PrintMore
attribute [local go_sem] max2_int min2_int max_two min_two max_three min_three max_four min_four   -- for this text's walks alone
set_option linter.unusedVariables false
set_option linter.unusedSimpArgs false
/-! ### spec_l3Dom: function 72 -/
def spec_l3Dom.f (k : Nat) (l0_0 : List Int) (a0_1 : Int) (l0_2 : List (S88)) (a1 : Int) (a2 : Int) : Option (Bool) := (spec_l3Reach.f k l0_0 a0_1 l0_2 (-1)).bind fun t482 => ((spec_l1Has.f k t482 a2).bind fun t485 => (if t485 = true then ((spec_l3Reach.f k l0_0 a0_1 l0_2 a1).bind fun t486 => ((spec_l1Has.f k t486 a2).bind fun t489 => (some (!t489)))) else (some false)))
theorem spec_l3Dom.mono : ∀ a0 a1 a2 a3 a4 k, LeO (spec_l3Dom.f k a0 a1 a2 a3 a4) (spec_l3Dom.f (k + 1) a0 a1 a2 a3 a4) := by
 intro a0 a1 a2 a3 a4 k
 unfold spec_l3Dom.f
 repeat' first
   | (with_reducible exact spec_l1Has.mono _ _ _)
   | (with_reducible exact spec_l3Reach.mono _ _ _ _ _)
   | (with_reducible exact LeO.refl _)
   | (with_reducible exact LeO.none _)
   | (with_reducible refine LeO.ite ?_ ?_)
   | (with_reducible refine LeO.bind ?_ (fun _ => ?_))
   | exact spec_l1Has.mono _ _ _
   | exact spec_l3Reach.mono _ _ _ _ _
   | exact LeO.none _
   | refine LeO.ite ?_ ?_
   | refine LeO.bind ?_ (fun _ => ?_)
set_option maxHeartbeats 8000000 in
set_option maxRecDepth 100000 in
theorem spec_l3Dom.calls (k : Nat) (A0_0 : Option Addr) (c0_0 : Nat) (l0_0 : List Int) (a0_1 : Int) (A0_2 : Option Addr) (c0_2 : Nat) (l0_2 : List (S88)) (a1 : Int) (a2 : Int) (r : Bool) (w : World) (hr0_0 : Kd.C (Kd.int .i64) w A0_0 l0_0.length l0_0) (hc0_0 : l0_0.length ≤ c0_0) (hr0_2 : Kd.C k88 w A0_2 l0_2.length l0_2) (hc0_2 : l0_2.length ≤ c0_2) (h : spec_l3Dom.f k l0_0 a0_1 l0_2 a1 a2 = some r) :
  Calls Try.prog 72 #[.agg #[.slice A0_0 l0_0.length c0_0, .int .i64 a0_1, .slice A0_2 l0_2.length c0_2], .int .i64 a1, .int .i64 a2] w fun e w' => e = .returned (.bool r) ∧ Below w.heap.size w w' := by
 have hu41 := Try.underlying41
 have HR0_0 := Aside0.mk hr0_0
 have HC0_0 := Aside0.mk hc0_0
 clear hr0_0 hc0_0
 have HR0_2 := Aside0.mk hr0_2
 have HC0_2 := Aside0.mk hc0_2
 clear hr0_2 hc0_2
 have HB := Aside0.mk (Below.refl w.heap.size w)
 have H : ((spec_l3Reach.f k l0_0 a0_1 l0_2 (-1)).bind fun t482 => ((spec_l1Has.f k t482 a2).bind fun t485 => (if t485 = true then ((spec_l3Reach.f k l0_0 a0_1 l0_2 a1).bind fun t486 => ((spec_l1Has.f k t486 a2).bind fun t489 => (some (!t489)))) else (some false)))) = some r := h
 clear h
 replace H := Option.bind_eq_some_iff.mp H
 obtain ⟨t482, A40, H⟩ := H
 replace H : ((spec_l1Has.f k t482 a2).bind fun t485 => (if t485 = true then ((spec_l3Reach.f k l0_0 a0_1 l0_2 a1).bind fun t486 => ((spec_l1Has.f k t486 a2).bind fun t489 => (some (!t489)))) else (some false))) = some r := H
 have A4 := Aside0.mk A40
 clear A40
 replace H := Option.bind_eq_some_iff.mp H
 obtain ⟨t485, A50, H⟩ := H
 replace H : (if t485 = true then ((spec_l3Reach.f k l0_0 a0_1 l0_2 a1).bind fun t486 => ((spec_l1Has.f k t486 a2).bind fun t489 => (some (!t489)))) else (some false)) = some r := H
 have A5 := Aside0.mk A50
 clear A50
 by_cases c6 : t485 = true
 ·subst c6
  have H1 := (if_pos rfl).symm.trans H
  clear H
  have H := H1
  clear H1
  replace H := Option.bind_eq_some_iff.mp H
  obtain ⟨t486, A70, H⟩ := H
  replace H : ((spec_l1Has.f k t486 a2).bind fun t489 => (some (!t489))) = some r := H
  have A7 := Aside0.mk A70
  clear A70
  replace H := Option.bind_eq_some_iff.mp H
  obtain ⟨t489, A80, H⟩ := H
  replace H : (some (!t489)) = some r := H
  have A8 := Aside0.mk A80
  clear A80
  obtain rfl := Option.some.inj H
  go_enter Try.func72, Try.ntmps72
  go_wp2_with (first | ((with_reducible refine gate_dst (N := 3) rfl ?_); refine box_event ?hg (N := 3) ?hd (cs := #[.slice A0_0 l0_0.length c0_0, .int .i64 a0_1, .slice A0_2 l0_2.length c0_2]) (t := 41) ?hr ?_; (case hd => rfl); (case hg => rfl); (case hr => first | (go_simp; done) | (go_simp; rfl)); intro gb481 hg w9 hbox hb; have n0_ := Aside0.mk (below_step hB_ hb); have n1_ := Aside0.mk (hbox); have n2_ := Aside0.mk ((sz_ hg (below_size hB_) : w.heap.size ≤ gb481)); have n3_ := Aside0.mk ((sz_ hg (below_size hB_) : w.heap.size ≤ gb481)); clear HB; have HB := n0_; have BK481 := n1_; have GW481 := n2_; have GE481 := n3_; clear n0_ n1_ n2_ n3_; clear hb hbox hg; obtain ⟨hcz10_0, hcz10_1, hcz10_2, hfz10_0, hfz10_1, hfz10_2⟩ := blkc3_ BK481.out) | ((with_reducible refine gate_callee (f := 106) rfl ?_); refine gL_ (some 8) Try.func106 #[.agg #[.slice A0_0 l0_0.length c0_0, .int .i64 a0_1, .slice A0_2 l0_2.length c0_2], .int .i64 (-1)] ?_; (with_reducible refine (spec_l3Reach.calls k _ _ l0_0 a0_1 _ _ l0_2 (-1) t482 _ ?side1 ?side2 ?side3 ?side4 A4.out).mono ?_); (case side1 => exact cHR0_0_); (case side2 => exact HC0_0.out); (case side3 => exact cHR0_2_); (case side4 => exact HC0_2.out); rintro e w11 ⟨v483, rfl, ho0, hb⟩; refine ⟨_, rfl, ?_⟩; have n0_ := Aside0.mk (Kd.R_lower ho0 (below_size hS_)); have n1_ := Aside0.mk (blk_below (g := gb481) (o := .cells #[.slice A0_0 l0_0.length c0_0, .int .i64 a0_1, .slice A0_2 l0_2.length c0_2] 41 (0, 0)) bK481_ hb); have n2_ := Aside0.mk (below_step hS_ hb); clear BK481; clear HB; have HO484 := n0_; have BK481 := n1_; have HB := n2_; clear n0_ n1_ n2_; (try clear hb); (try clear hb2); (try clear hk); (try clear hi); (try clear ho0); obtain ⟨Ao12, co12, eo12⟩ := Kd.R_slice HO484.out; subst eo12) | ((with_reducible refine gate_callee (f := 105) rfl ?_); refine gL_ (some 10) Try.func105 #[.slice Ao12 t482.length co12, .int .i64 a2] ?_; (with_reducible refine (spec_l1Has.calls k _ _ t482 a2 true _ ?side1 ?side2 A5.out).mono ?_); (case side1 => repeat (first | exact (Kd.R_reads' HO484.out).2.2 | (with_reducible refine Kd.C_alloc ?_ _) | (with_reducible refine Kd.C_drewN ?_ _) | (with_reducible refine Kd.C_drew ?_))); (case side2 => exact (Kd.R_reads' HO484.out).2.1); rintro e w' ⟨rfl, ⟨nd, rfl⟩⟩; refine ⟨_, rfl, ?_⟩; obtain ⟨hcz13_0, hcz13_1, hcz13_2, hfz13_0, hfz13_1, hfz13_2⟩ := blkc3_ BK481.out) | (go_at_call 106; (with_reducible refine (spec_l3Reach.calls k _ _ l0_0 a0_1 _ _ l0_2 a1 t486 _ ?side1 ?side2 ?side3 ?side4 A7.out).mono ?_); (case side1 => repeat (first | exact (Kd.C_below HR0_0.out hS_) | (with_reducible refine Kd.C_alloc ?_ _) | (with_reducible refine Kd.C_drewN ?_ _) | (with_reducible refine Kd.C_drew ?_))); (case side2 => exact HC0_0.out); (case side3 => repeat (first | exact (Kd.C_below HR0_2.out hS_) | (with_reducible refine Kd.C_alloc ?_ _) | (with_reducible refine Kd.C_drewN ?_ _) | (with_reducible refine Kd.C_drew ?_))); (case side4 => exact HC0_2.out); rintro e w14 ⟨v487, rfl, ho0, hb⟩; have n0_ := Aside0.mk (Kd.R_elder' rHO484_ (Kd.R_base ho0) hb); have n1_ := Aside0.mk (Kd.R_lower (Kd.R_new' ho0 (Kd.R_lt rHO484_)) (below_size hS_)); have n2_ := Aside0.mk (blk_below (g := gb481) (o := .cells #[.slice A0_0 l0_0.length c0_0, .int .i64 a0_1, .slice A0_2 l0_2.length c0_2] 41 (0, 0)) bK481_ hb); have n3_ := Aside0.mk (below_step hS_ hb); clear HO484; clear BK481; clear HB; have HO484 := n0_; have HO488 := n1_; have BK481 := n2_; have HB := n3_; clear n0_ n1_ n2_ n3_; (try clear hb); (try clear hb2); (try clear hk); (try clear hi); (try clear ho0); obtain ⟨Ao15, co15, eo15⟩ := Kd.R_slice HO488.out; subst eo15) | (go_at_call 105; (with_reducible refine (spec_l1Has.calls k _ _ t486 a2 t489 _ ?side1 ?side2 A8.out).mono ?_); (case side1 => repeat (first | exact (Kd.R_reads' HO488.out).2.2 | (with_reducible refine Kd.C_alloc ?_ _) | (with_reducible refine Kd.C_drewN ?_ _) | (with_reducible refine Kd.C_drew ?_))); (case side2 => exact (Kd.R_reads' HO488.out).2.1); rintro e w' ⟨rfl, ⟨nd, rfl⟩⟩))
  go_ret
  exact ⟨rG_, hS_⟩
 ·replace c6 := Bool.eq_false_iff.mpr c6
  subst c6
  have H1 := (if_neg (show ¬ (false = true) by decide)).symm.trans H
  clear H
  have H := H1
  clear H1
  obtain rfl := Option.some.inj H
  go_enter Try.func72, Try.ntmps72
  go_wp2_with (first | ((with_reducible refine gate_dst (N := 3) rfl ?_); refine box_event ?hg (N := 3) ?hd (cs := #[.slice A0_0 l0_0.length c0_0, .int .i64 a0_1, .slice A0_2 l0_2.length c0_2]) (t := 41) ?hr ?_; (case hd => rfl); (case hg => rfl); (case hr => first | (go_simp; done) | (go_simp; rfl)); intro gb481 hg w16 hbox hb; have n0_ := Aside0.mk (below_step hB_ hb); have n1_ := Aside0.mk (hbox); have n2_ := Aside0.mk ((sz_ hg (below_size hB_) : w.heap.size ≤ gb481)); have n3_ := Aside0.mk ((sz_ hg (below_size hB_) : w.heap.size ≤ gb481)); clear HB; have HB := n0_; have BK481 := n1_; have GW481 := n2_; have GE481 := n3_; clear n0_ n1_ n2_ n3_; clear hb hbox hg; obtain ⟨hcz17_0, hcz17_1, hcz17_2, hfz17_0, hfz17_1, hfz17_2⟩ := blkc3_ BK481.out) | ((with_reducible refine gate_callee (f := 106) rfl ?_); refine gL_ (some 8) Try.func106 #[.agg #[.slice A0_0 l0_0.length c0_0, .int .i64 a0_1, .slice A0_2 l0_2.length c0_2], .int .i64 (-1)] ?_; (with_reducible refine (spec_l3Reach.calls k _ _ l0_0 a0_1 _ _ l0_2 (-1) t482 _ ?side1 ?side2 ?side3 ?side4 A4.out).mono ?_); (case side1 => exact cHR0_0_); (case side2 => exact HC0_0.out); (case side3 => exact cHR0_2_); (case side4 => exact HC0_2.out); rintro e w18 ⟨v483, rfl, ho0, hb⟩; refine ⟨_, rfl, ?_⟩; have n0_ := Aside0.mk (Kd.R_lower ho0 (below_size hS_)); have n1_ := Aside0.mk (blk_below (g := gb481) (o := .cells #[.slice A0_0 l0_0.length c0_0, .int .i64 a0_1, .slice A0_2 l0_2.length c0_2] 41 (0, 0)) bK481_ hb); have n2_ := Aside0.mk (below_step hS_ hb); clear BK481; clear HB; have HO484 := n0_; have BK481 := n1_; have HB := n2_; clear n0_ n1_ n2_; (try clear hb); (try clear hb2); (try clear hk); (try clear hi); (try clear ho0); obtain ⟨Ao19, co19, eo19⟩ := Kd.R_slice HO484.out; subst eo19) | ((with_reducible refine gate_callee (f := 105) rfl ?_); refine gL_ (some 10) Try.func105 #[.slice Ao19 t482.length co19, .int .i64 a2] ?_; (with_reducible refine (spec_l1Has.calls k _ _ t482 a2 false _ ?side1 ?side2 A5.out).mono ?_); (case side1 => repeat (first | exact (Kd.R_reads' HO484.out).2.2 | (with_reducible refine Kd.C_alloc ?_ _) | (with_reducible refine Kd.C_drewN ?_ _) | (with_reducible refine Kd.C_drew ?_))); (case side2 => exact (Kd.R_reads' HO484.out).2.1); rintro e w' ⟨rfl, ⟨nd, rfl⟩⟩; refine ⟨_, rfl, ?_⟩))
  go_ret
  exact ⟨rG_, hS_⟩
/-! ### spec_IdomOf: function 32 -/
def spec_IdomOf.l0 : Nat → Int → Int → Int → List Int → Int → List (S88) → Option (Int)
 | 0, _, _, _, _, _, _ => none
 | k + 1, x1, x5, x6, x559000, x559001, x559002 => if x6 < (x559002.length : Int) then (if x6 = x1 then (spec_IdomOf.l0 k x1 x5 (wrap64 (x6 + 1)) x559000 x559001 x559002) else ((spec_l3Dom.f k x559000 x559001 x559002 x6 x1).bind fun t560 => (if t560 = true then (if x5 < 0 then (spec_IdomOf.l0 k x1 x6 (wrap64 (x6 + 1)) x559000 x559001 x559002) else ((spec_l3Dom.f k x559000 x559001 x559002 x5 x6).bind fun t561 => (if t561 = true then (spec_IdomOf.l0 k x1 x6 (wrap64 (x6 + 1)) x559000 x559001 x559002) else (spec_IdomOf.l0 k x1 x5 (wrap64 (x6 + 1)) x559000 x559001 x559002)))) else (spec_IdomOf.l0 k x1 x5 (wrap64 (x6 + 1)) x559000 x559001 x559002)))) else (some x5)
def spec_IdomOf.f (k : Nat) (l0_0 : List Int) (a0_1 : Int) (l0_2 : List (S88)) (a1 : Int) : Option (Int) := (spec_l3There.f k l0_0 a0_1 l0_2 a1).bind fun t559 => (if t559 = true then (spec_IdomOf.l0 k a1 (-1) 0 l0_0 a0_1 l0_2) else (some (-1)))
theorem spec_IdomOf.mono_l : ∀ k, (∀ y0 y1 y2 y3 y4 y5, LeO (spec_IdomOf.l0 k y0 y1 y2 y3 y4 y5) (spec_IdomOf.l0 (k + 1) y0 y1 y2 y3 y4 y5))
 | 0 => fun _ _ _ _ _ _ r h => by simp [spec_IdomOf.l0] at h
 | k + 1 => by
  have ih0 := spec_IdomOf.mono_l k
  ·intro y0 y1 y2 y3 y4 y5
   unfold spec_IdomOf.l0
   repeat' first
   | (with_reducible exact ih0 _ _ _ _ _ _)
   | (with_reducible exact spec_l3Dom.mono _ _ _ _ _ _)
   | (with_reducible exact spec_l3There.mono _ _ _ _ _)
   | (with_reducible exact LeO.refl _)
   | (with_reducible exact LeO.none _)
   | (with_reducible refine LeO.ite ?_ ?_)
   | (with_reducible refine LeO.bind ?_ (fun _ => ?_))
   | exact ih0 _ _ _ _ _ _
   | exact spec_l3Dom.mono _ _ _ _ _ _
   | exact spec_l3There.mono _ _ _ _ _
   | exact LeO.none _
   | refine LeO.ite ?_ ?_
   | refine LeO.bind ?_ (fun _ => ?_)
theorem spec_IdomOf.mono : ∀ a0 a1 a2 a3 k, LeO (spec_IdomOf.f k a0 a1 a2 a3) (spec_IdomOf.f (k + 1) a0 a1 a2 a3) := by
 intro a0 a1 a2 a3 k
 have ih0 := spec_IdomOf.mono_l k
 unfold spec_IdomOf.f
 repeat' first
   | (with_reducible exact ih0 _ _ _ _ _ _)
   | (with_reducible exact spec_l3Dom.mono _ _ _ _ _ _)
   | (with_reducible exact spec_l3There.mono _ _ _ _ _)
   | (with_reducible exact LeO.refl _)
   | (with_reducible exact LeO.none _)
   | (with_reducible refine LeO.ite ?_ ?_)
   | (with_reducible refine LeO.bind ?_ (fun _ => ?_))
   | exact ih0 _ _ _ _ _ _
   | exact spec_l3Dom.mono _ _ _ _ _ _
   | exact spec_l3There.mono _ _ _ _ _
   | exact LeO.none _
   | refine LeO.ite ?_ ?_
   | refine LeO.bind ?_ (fun _ => ?_)
set_option maxHeartbeats 8000000 in
set_option maxRecDepth 100000 in
theorem spec_IdomOf.calls (k : Nat) (A0_0 : Option Addr) (c0_0 : Nat) (l0_0 : List Int) (a0_1 : Int) (A0_2 : Option Addr) (c0_2 : Nat) (l0_2 : List (S88)) (a1 : Int) (r : Int) (w : World) (hr0_0 : Kd.C (Kd.int .i64) w A0_0 l0_0.length l0_0) (hc0_0 : l0_0.length ≤ c0_0) (hr0_2 : Kd.C k88 w A0_2 l0_2.length l0_2) (hc0_2 : l0_2.length ≤ c0_2) (h : spec_IdomOf.f k l0_0 a0_1 l0_2 a1 = some r) :
  Calls Try.prog 32 #[.agg #[.slice A0_0 l0_0.length c0_0, .int .i64 a0_1, .slice A0_2 l0_2.length c0_2], .int .i64 a1] w fun e w' => e = .returned (.int .i64 r) ∧ Below w.heap.size w w' := by
 have hu41 := Try.underlying41
 have HR0_0 := Aside0.mk hr0_0
 have HC0_0 := Aside0.mk hc0_0
 clear hr0_0 hc0_0
 have HR0_2 := Aside0.mk hr0_2
 have HC0_2 := Aside0.mk hc0_2
 clear hr0_2 hc0_2
 have HB := Aside0.mk (Below.refl w.heap.size w)
 have H : ((spec_l3There.f k l0_0 a0_1 l0_2 a1).bind fun t559 => (if t559 = true then (spec_IdomOf.l0 k a1 (-1) 0 l0_0 a0_1 l0_2) else (some (-1)))) = some r := h
 clear h
 replace H := Option.bind_eq_some_iff.mp H
 obtain ⟨t559, A30, H⟩ := H
 replace H : (if t559 = true then (spec_IdomOf.l0 k a1 (-1) 0 l0_0 a0_1 l0_2) else (some (-1))) = some r := H
 have A3 := Aside0.mk A30
 clear A30
 by_cases c4 : t559 = true
 ·subst c4
  have H1 := (if_pos rfl).symm.trans H
  clear H
  have H := H1
  clear H1
  have H' := Aside0.mk H
  clear H
  go_enter Try.func32, Try.ntmps32
  go_wp2_with (first | ((with_reducible refine gate_dst (N := 2) rfl ?_); refine box_event ?hg (N := 2) ?hd (cs := #[.slice A0_0 l0_0.length c0_0, .int .i64 a0_1, .slice A0_2 l0_2.length c0_2]) (t := 41) ?hr ?_; (case hd => rfl); (case hg => rfl); (case hr => first | (go_simp; done) | (go_simp; rfl)); intro gb558 hg w5 hbox hb; have n0_ := Aside0.mk (below_step hB_ hb); have n1_ := Aside0.mk (hbox); have n2_ := Aside0.mk ((sz_ hg (below_size hB_) : w.heap.size ≤ gb558)); have n3_ := Aside0.mk ((sz_ hg (below_size hB_) : w.heap.size ≤ gb558)); clear HB; have HB := n0_; have BK558 := n1_; have GW558 := n2_; have GE558 := n3_; clear n0_ n1_ n2_ n3_; clear hb hbox hg; obtain ⟨hcz6_0, hcz6_1, hcz6_2, hfz6_0, hfz6_1, hfz6_2⟩ := blkc3_ BK558.out) | ((with_reducible refine gate_callee (f := 71) rfl ?_); refine gL_ (some 9) Try.func71 #[.agg #[.slice A0_0 l0_0.length c0_0, .int .i64 a0_1, .slice A0_2 l0_2.length c0_2], .int .i64 a1] ?_; (with_reducible refine (spec_l3There.calls k _ _ l0_0 a0_1 _ _ l0_2 a1 true _ ?side1 ?side2 ?side3 ?side4 A3.out).mono ?_); (case side1 => exact cHR0_0_); (case side2 => exact HC0_0.out); (case side3 => exact cHR0_2_); (case side4 => exact HC0_2.out); rintro e w7 ⟨rfl, hb⟩; refine ⟨_, rfl, ?_⟩; have n0_ := Aside0.mk (blk_below (g := gb558) (o := .cells #[.slice A0_0 l0_0.length c0_0, .int .i64 a0_1, .slice A0_2 l0_2.length c0_2] 41 (0, 0)) bK558_ hb); have n1_ := Aside0.mk (below_step hS_ hb); clear BK558; clear HB; have BK558 := n0_; have HB := n1_; clear n0_ n1_; (try clear hb); (try clear hb2); (try clear hk); (try clear hi)))
  go_loopg [5, 6] k (fun kq v5 v6 w' => ∃ (x5_1 : Int) (x6_1 : Int), v5 = .int .i64 x5_1 ∧ v6 = .int .i64 x6_1 ∧ Aside0 (spec_IdomOf.l0 kq a1 x5_1 x6_1 l0_0 a0_1 l0_2 = some r) ∧ Aside0 (kq ≤ k) ∧ Aside0 (w'.heap[gb558]? = some (.cells #[(.slice A0_0 l0_0.length c0_0), .int .i64 a0_1, (.slice A0_2 l0_2.length c0_2)] 41 (0, 0))) ∧ Aside0 (Below w.heap.size w w'))
  case atStart => exact ⟨((-1)), (0), rF_, rF_, H', ⟨Nat.le_refl _⟩, ⟨bK558_⟩, ⟨hS_⟩⟩
  case round =>
   clear H'
   try clear p2
   try clear c3
   try clear c4
   try clear c7
   try clear hcz6_0 hcz6_1 hcz6_2 hfz6_0 hfz6_1 hfz6_2
   obtain ⟨x5_1, x6_1, rfl, rfl, HA, HK1, BK558, HB⟩ := hrel
   cases gk with
   | zero => exact absurd HA.out (by simp [spec_IdomOf.l0])
   | succ k1 =>
    have H := HA.out
    clear HA
    simp only [spec_IdomOf.l0] at H
    by_cases c8 : x6_1 < (l0_2.length : Int)
    ·rw [if_pos c8] at H
     have c8b0 : decide (x6_1 < (l0_2.length : Int)) = true := decide_eq_true c8
     clear c8
     by_cases c9 : x6_1 = a1
     ·rw [if_pos c9] at H
      have c9b0 : (x6_1 == a1) = true := beq_iff_eq.mpr c9
      have c9b1 : (x6_1 != a1) = false := bne_eq_false_iff_eq.mpr c9
      clear c9
      have H' := Aside0.mk H
      clear H
      obtain ⟨hcz10_0, hcz10_1, hcz10_2, hfz10_0, hfz10_1, hfz10_2⟩ := blkc3_ BK558.out
      go_wp2
      go_roundg k1
      case measure => have := HK1.out; omega
      case rel => exact ⟨(x5_1), (wrap64 (x6_1 + 1)), rF_, rF_, H', ⟨by have := HK1.out; omega⟩, ⟨bK558_⟩, ⟨hS_⟩⟩
     ·rw [if_neg c9] at H
      have c9b0 : (x6_1 == a1) = false := beq_eq_false_iff_ne.mpr c9
      have c9b1 : (x6_1 != a1) = true := bne_iff_ne.mpr c9
      replace H := Option.bind_eq_some_iff.mp H
      obtain ⟨t560, A110, H⟩ := H
      replace H : (if t560 = true then (if x5_1 < 0 then (spec_IdomOf.l0 k1 a1 x6_1 (wrap64 (x6_1 + 1)) l0_0 a0_1 l0_2) else ((spec_l3Dom.f k1 l0_0 a0_1 l0_2 x5_1 x6_1).bind fun t561 => (if t561 = true then (spec_IdomOf.l0 k1 a1 x6_1 (wrap64 (x6_1 + 1)) l0_0 a0_1 l0_2) else (spec_IdomOf.l0 k1 a1 x5_1 (wrap64 (x6_1 + 1)) l0_0 a0_1 l0_2)))) else (spec_IdomOf.l0 k1 a1 x5_1 (wrap64 (x6_1 + 1)) l0_0 a0_1 l0_2)) = some r := H
      have A11 := Aside0.mk A110
      clear A110
      by_cases c12 : t560 = true
      ·subst c12
       have H1 := (if_pos rfl).symm.trans H
       clear H
       have H := H1
       clear H1
       by_cases c13 : x5_1 < 0
       ·rw [if_pos c13] at H
        have c13b0 : decide (x5_1 < 0) = true := decide_eq_true c13
        clear c13
        have H' := Aside0.mk H
        clear H
        obtain ⟨hcz14_0, hcz14_1, hcz14_2, hfz14_0, hfz14_1, hfz14_2⟩ := blkc3_ BK558.out
        go_wp2_with (first | (go_at_call 72; (with_reducible refine (spec_l3Dom.calls k1 _ _ l0_0 a0_1 _ _ l0_2 x6_1 a1 true _ ?side1 ?side2 ?side3 ?side4 A11.out).mono ?_); (case side1 => exact cHR0_0_); (case side2 => exact HC0_0.out); (case side3 => exact cHR0_2_); (case side4 => exact HC0_2.out); rintro e w15 ⟨rfl, hb⟩; have n0_ := Aside0.mk (blk_below (g := gb558) (o := .cells #[.slice A0_0 l0_0.length c0_0, .int .i64 a0_1, .slice A0_2 l0_2.length c0_2] 41 (0, 0)) bK558_ hb); have n1_ := Aside0.mk (below_step hS_ hb); clear BK558; clear HB; have BK558 := n0_; have HB := n1_; clear n0_ n1_; (try clear hb); (try clear hb2); (try clear hk); (try clear hi)))
        go_roundg k1
        case measure => have := HK1.out; omega
        case rel => exact ⟨(x6_1), (wrap64 (x6_1 + 1)), rF_, rF_, H', ⟨by have := HK1.out; omega⟩, ⟨bK558_⟩, ⟨hS_⟩⟩
       ·rw [if_neg c13] at H
        have c13b0 : decide (x5_1 < 0) = false := decide_eq_false c13
        clear c13
        replace H := Option.bind_eq_some_iff.mp H
        obtain ⟨t561, A160, H⟩ := H
        replace H : (if t561 = true then (spec_IdomOf.l0 k1 a1 x6_1 (wrap64 (x6_1 + 1)) l0_0 a0_1 l0_2) else (spec_IdomOf.l0 k1 a1 x5_1 (wrap64 (x6_1 + 1)) l0_0 a0_1 l0_2)) = some r := H
        have A16 := Aside0.mk A160
        clear A160
        by_cases c17 : t561 = true
        ·subst c17
         have H1 := (if_pos rfl).symm.trans H
         clear H
         have H := H1
         clear H1
         have H' := Aside0.mk H
         clear H
         obtain ⟨hcz18_0, hcz18_1, hcz18_2, hfz18_0, hfz18_1, hfz18_2⟩ := blkc3_ BK558.out
         go_wp2_with (first | (go_at_call 72; (with_reducible refine (spec_l3Dom.calls k1 _ _ l0_0 a0_1 _ _ l0_2 x6_1 a1 true _ ?side1 ?side2 ?side3 ?side4 A11.out).mono ?_); (case side1 => exact cHR0_0_); (case side2 => exact HC0_0.out); (case side3 => exact cHR0_2_); (case side4 => exact HC0_2.out); rintro e w19 ⟨rfl, hb⟩; have n0_ := Aside0.mk (blk_below (g := gb558) (o := .cells #[.slice A0_0 l0_0.length c0_0, .int .i64 a0_1, .slice A0_2 l0_2.length c0_2] 41 (0, 0)) bK558_ hb); have n1_ := Aside0.mk (below_step hS_ hb); clear BK558; clear HB; have BK558 := n0_; have HB := n1_; clear n0_ n1_; (try clear hb); (try clear hb2); (try clear hk); (try clear hi); obtain ⟨hcz20_0, hcz20_1, hcz20_2, hfz20_0, hfz20_1, hfz20_2⟩ := blkc3_ BK558.out) | (go_at_call 72; (with_reducible refine (spec_l3Dom.calls k1 _ _ l0_0 a0_1 _ _ l0_2 x5_1 x6_1 true _ ?side1 ?side2 ?side3 ?side4 A16.out).mono ?_); (case side1 => exact cHR0_0_); (case side2 => exact HC0_0.out); (case side3 => exact cHR0_2_); (case side4 => exact HC0_2.out); rintro e w21 ⟨rfl, hb⟩; have n0_ := Aside0.mk (blk_below (g := gb558) (o := .cells #[.slice A0_0 l0_0.length c0_0, .int .i64 a0_1, .slice A0_2 l0_2.length c0_2] 41 (0, 0)) bK558_ hb); have n1_ := Aside0.mk (below_step hS_ hb); clear BK558; clear HB; have BK558 := n0_; have HB := n1_; clear n0_ n1_; (try clear hb); (try clear hb2); (try clear hk); (try clear hi)))
         go_roundg k1
         case measure => have := HK1.out; omega
         case rel => exact ⟨(x6_1), (wrap64 (x6_1 + 1)), rF_, rF_, H', ⟨by have := HK1.out; omega⟩, ⟨bK558_⟩, ⟨hS_⟩⟩
        ·replace c17 := Bool.eq_false_iff.mpr c17
         subst c17
         have H1 := (if_neg (show ¬ (false = true) by decide)).symm.trans H
         clear H
         have H := H1
         clear H1
         have H' := Aside0.mk H
         clear H
         obtain ⟨hcz22_0, hcz22_1, hcz22_2, hfz22_0, hfz22_1, hfz22_2⟩ := blkc3_ BK558.out
         go_wp2_with (first | (go_at_call 72; (with_reducible refine (spec_l3Dom.calls k1 _ _ l0_0 a0_1 _ _ l0_2 x6_1 a1 true _ ?side1 ?side2 ?side3 ?side4 A11.out).mono ?_); (case side1 => exact cHR0_0_); (case side2 => exact HC0_0.out); (case side3 => exact cHR0_2_); (case side4 => exact HC0_2.out); rintro e w23 ⟨rfl, hb⟩; have n0_ := Aside0.mk (blk_below (g := gb558) (o := .cells #[.slice A0_0 l0_0.length c0_0, .int .i64 a0_1, .slice A0_2 l0_2.length c0_2] 41 (0, 0)) bK558_ hb); have n1_ := Aside0.mk (below_step hS_ hb); clear BK558; clear HB; have BK558 := n0_; have HB := n1_; clear n0_ n1_; (try clear hb); (try clear hb2); (try clear hk); (try clear hi); obtain ⟨hcz24_0, hcz24_1, hcz24_2, hfz24_0, hfz24_1, hfz24_2⟩ := blkc3_ BK558.out) | (go_at_call 72; (with_reducible refine (spec_l3Dom.calls k1 _ _ l0_0 a0_1 _ _ l0_2 x5_1 x6_1 false _ ?side1 ?side2 ?side3 ?side4 A16.out).mono ?_); (case side1 => exact cHR0_0_); (case side2 => exact HC0_0.out); (case side3 => exact cHR0_2_); (case side4 => exact HC0_2.out); rintro e w25 ⟨rfl, hb⟩; have n0_ := Aside0.mk (blk_below (g := gb558) (o := .cells #[.slice A0_0 l0_0.length c0_0, .int .i64 a0_1, .slice A0_2 l0_2.length c0_2] 41 (0, 0)) bK558_ hb); have n1_ := Aside0.mk (below_step hS_ hb); clear BK558; clear HB; have BK558 := n0_; have HB := n1_; clear n0_ n1_; (try clear hb); (try clear hb2); (try clear hk); (try clear hi)))
         go_roundg k1
         case measure => have := HK1.out; omega
         case rel => exact ⟨(x5_1), (wrap64 (x6_1 + 1)), rF_, rF_, H', ⟨by have := HK1.out; omega⟩, ⟨bK558_⟩, ⟨hS_⟩⟩
      ·replace c12 := Bool.eq_false_iff.mpr c12
       subst c12
       have H1 := (if_neg (show ¬ (false = true) by decide)).symm.trans H
       clear H
       have H := H1
       clear H1
       have H' := Aside0.mk H
       clear H
       obtain ⟨hcz26_0, hcz26_1, hcz26_2, hfz26_0, hfz26_1, hfz26_2⟩ := blkc3_ BK558.out
       go_wp2_with (first | (go_at_call 72; (with_reducible refine (spec_l3Dom.calls k1 _ _ l0_0 a0_1 _ _ l0_2 x6_1 a1 false _ ?side1 ?side2 ?side3 ?side4 A11.out).mono ?_); (case side1 => exact cHR0_0_); (case side2 => exact HC0_0.out); (case side3 => exact cHR0_2_); (case side4 => exact HC0_2.out); rintro e w27 ⟨rfl, hb⟩; have n0_ := Aside0.mk (blk_below (g := gb558) (o := .cells #[.slice A0_0 l0_0.length c0_0, .int .i64 a0_1, .slice A0_2 l0_2.length c0_2] 41 (0, 0)) bK558_ hb); have n1_ := Aside0.mk (below_step hS_ hb); clear BK558; clear HB; have BK558 := n0_; have HB := n1_; clear n0_ n1_; (try clear hb); (try clear hb2); (try clear hk); (try clear hi)))
       go_roundg k1
       case measure => have := HK1.out; omega
       case rel => exact ⟨(x5_1), (wrap64 (x6_1 + 1)), rF_, rF_, H', ⟨by have := HK1.out; omega⟩, ⟨bK558_⟩, ⟨hS_⟩⟩
    ·rw [if_neg c8] at H
     have c8b0 : decide (x6_1 < (l0_2.length : Int)) = false := decide_eq_false c8
     clear c8
     obtain rfl := Option.some.inj H
     obtain ⟨hcz28_0, hcz28_1, hcz28_2, hfz28_0, hfz28_1, hfz28_2⟩ := blkc3_ BK558.out
     go_wp2
     go_ret
     exact ⟨rG_, hS_⟩
 ·replace c4 := Bool.eq_false_iff.mpr c4
  subst c4
  have H1 := (if_neg (show ¬ (false = true) by decide)).symm.trans H
  clear H
  have H := H1
  clear H1
  obtain rfl := Option.some.inj H
  go_enter Try.func32, Try.ntmps32
  go_wp2_with (first | ((with_reducible refine gate_dst (N := 2) rfl ?_); refine box_event ?hg (N := 2) ?hd (cs := #[.slice A0_0 l0_0.length c0_0, .int .i64 a0_1, .slice A0_2 l0_2.length c0_2]) (t := 41) ?hr ?_; (case hd => rfl); (case hg => rfl); (case hr => first | (go_simp; done) | (go_simp; rfl)); intro gb558 hg w29 hbox hb; have n0_ := Aside0.mk (below_step hB_ hb); have n1_ := Aside0.mk (hbox); have n2_ := Aside0.mk ((sz_ hg (below_size hB_) : w.heap.size ≤ gb558)); have n3_ := Aside0.mk ((sz_ hg (below_size hB_) : w.heap.size ≤ gb558)); clear HB; have HB := n0_; have BK558 := n1_; have GW558 := n2_; have GE558 := n3_; clear n0_ n1_ n2_ n3_; clear hb hbox hg; obtain ⟨hcz30_0, hcz30_1, hcz30_2, hfz30_0, hfz30_1, hfz30_2⟩ := blkc3_ BK558.out) | ((with_reducible refine gate_callee (f := 71) rfl ?_); refine gL_ (some 9) Try.func71 #[.agg #[.slice A0_0 l0_0.length c0_0, .int .i64 a0_1, .slice A0_2 l0_2.length c0_2], .int .i64 a1] ?_; (with_reducible refine (spec_l3There.calls k _ _ l0_0 a0_1 _ _ l0_2 a1 false _ ?side1 ?side2 ?side3 ?side4 A3.out).mono ?_); (case side1 => exact cHR0_0_); (case side2 => exact HC0_0.out); (case side3 => exact cHR0_2_); (case side4 => exact HC0_2.out); rintro e w31 ⟨rfl, hb⟩; refine ⟨_, rfl, ?_⟩; have n0_ := Aside0.mk (blk_below (g := gb558) (o := .cells #[.slice A0_0 l0_0.length c0_0, .int .i64 a0_1, .slice A0_2 l0_2.length c0_2] 41 (0, 0)) bK558_ hb); have n1_ := Aside0.mk (below_step hS_ hb); clear BK558; clear HB; have BK558 := n0_; have HB := n1_; clear n0_ n1_; (try clear hb); (try clear hb2); (try clear hk); (try clear hi)))
  go_ret
  exact ⟨rG_, hS_⟩
/-! ### impl_Dominates: function 27 -/
def impl_Dominates.f (k : Nat) (l0_0 : List Int) (a0_1 : Int) (l0_2 : List (S88)) (a1 : Int) (a2 : Int) : Option (Bool) := (impl_isBlockOf.f l0_0 a0_1 l0_2 a1).bind fun t391 => (if t391 = true then ((impl_isBlockOf.f l0_0 a0_1 l0_2 a2).bind fun t392 => (if t392 = true then ((impl_dominates.f k l0_0 a0_1 l0_2 a1 a2).bind fun t393 => (some t393)) else (some false))) else (some false))
theorem impl_Dominates.mono : ∀ a0 a1 a2 a3 a4 k, LeO (impl_Dominates.f k a0 a1 a2 a3 a4) (impl_Dominates.f (k + 1) a0 a1 a2 a3 a4) := by
 intro a0 a1 a2 a3 a4 k
 unfold impl_Dominates.f
 repeat' first
   | (with_reducible exact impl_dominates.mono _ _ _ _ _ _)
   | (with_reducible exact LeO.refl _)
   | (with_reducible exact LeO.none _)
   | (with_reducible refine LeO.ite ?_ ?_)
   | (with_reducible refine LeO.bind ?_ (fun _ => ?_))
   | exact impl_dominates.mono _ _ _ _ _ _
   | exact LeO.none _
   | refine LeO.ite ?_ ?_
   | refine LeO.bind ?_ (fun _ => ?_)
set_option maxHeartbeats 8000000 in
set_option maxRecDepth 100000 in
theorem impl_Dominates.calls (k : Nat) (A0_0 : Option Addr) (c0_0 : Nat) (l0_0 : List Int) (a0_1 : Int) (A0_2 : Option Addr) (c0_2 : Nat) (l0_2 : List (S88)) (a1 : Int) (a2 : Int) (r : Bool) (w : World) (hr0_0 : Kd.C (Kd.int .i64) w A0_0 l0_0.length l0_0) (hc0_0 : l0_0.length ≤ c0_0) (hr0_2 : Kd.C k88 w A0_2 l0_2.length l0_2) (hc0_2 : l0_2.length ≤ c0_2) (h : impl_Dominates.f k l0_0 a0_1 l0_2 a1 a2 = some r) :
  Calls Try.prog 27 #[.agg #[.slice A0_0 l0_0.length c0_0, .int .i64 a0_1, .slice A0_2 l0_2.length c0_2], .int .i64 a1, .int .i64 a2] w fun e w' => e = .returned (.bool r) ∧ Below w.heap.size w w' := by
 have hu41 := Try.underlying41
 have HR0_0 := Aside0.mk hr0_0
 have HC0_0 := Aside0.mk hc0_0
 clear hr0_0 hc0_0
 have HR0_2 := Aside0.mk hr0_2
 have HC0_2 := Aside0.mk hc0_2
 clear hr0_2 hc0_2
 have HB := Aside0.mk (Below.refl w.heap.size w)
 have H : ((impl_isBlockOf.f l0_0 a0_1 l0_2 a1).bind fun t391 => (if t391 = true then ((impl_isBlockOf.f l0_0 a0_1 l0_2 a2).bind fun t392 => (if t392 = true then ((impl_dominates.f k l0_0 a0_1 l0_2 a1 a2).bind fun t393 => (some t393)) else (some false))) else (some false))) = some r := h
 clear h
 replace H := Option.bind_eq_some_iff.mp H
 obtain ⟨t391, A40, H⟩ := H
 replace H : (if t391 = true then ((impl_isBlockOf.f l0_0 a0_1 l0_2 a2).bind fun t392 => (if t392 = true then ((impl_dominates.f k l0_0 a0_1 l0_2 a1 a2).bind fun t393 => (some t393)) else (some false))) else (some false)) = some r := H
 have A4 := Aside0.mk A40
 clear A40
 by_cases c5 : t391 = true
 ·subst c5
  have H1 := (if_pos rfl).symm.trans H
  clear H
  have H := H1
  clear H1
  replace H := Option.bind_eq_some_iff.mp H
  obtain ⟨t392, A60, H⟩ := H
  replace H : (if t392 = true then ((impl_dominates.f k l0_0 a0_1 l0_2 a1 a2).bind fun t393 => (some t393)) else (some false)) = some r := H
  have A6 := Aside0.mk A60
  clear A60
  by_cases c7 : t392 = true
  ·subst c7
   have H1 := (if_pos rfl).symm.trans H
   clear H
   have H := H1
   clear H1
   replace H := Option.bind_eq_some_iff.mp H
   obtain ⟨t393, A80, H⟩ := H
   replace H : (some t393) = some r := H
   have A8 := Aside0.mk A80
   clear A80
   obtain rfl := Option.some.inj H
   go_enter Try.func27, Try.ntmps27
   go_wp2_with (first | ((with_reducible refine gate_dst (N := 3) rfl ?_); refine box_event ?hg (N := 3) ?hd (cs := #[.slice A0_0 l0_0.length c0_0, .int .i64 a0_1, .slice A0_2 l0_2.length c0_2]) (t := 41) ?hr ?_; (case hd => rfl); (case hg => rfl); (case hr => first | (go_simp; done) | (go_simp; rfl)); intro gb390 hg w9 hbox hb; have n0_ := Aside0.mk (below_step hB_ hb); have n1_ := Aside0.mk (hbox); have n2_ := Aside0.mk ((sz_ hg (below_size hB_) : w.heap.size ≤ gb390)); have n3_ := Aside0.mk ((sz_ hg (below_size hB_) : w.heap.size ≤ gb390)); clear HB; have HB := n0_; have BK390 := n1_; have GW390 := n2_; have GE390 := n3_; clear n0_ n1_ n2_ n3_; clear hb hbox hg; obtain ⟨hcz10_0, hcz10_1, hcz10_2, hfz10_0, hfz10_1, hfz10_2⟩ := blkc3_ BK390.out) | ((with_reducible refine gate_callee (f := 69) rfl ?_); refine gL_ (some 9) Try.func69 #[.agg #[.slice A0_0 l0_0.length c0_0, .int .i64 a0_1, .slice A0_2 l0_2.length c0_2], .int .i64 a1] ?_; (with_reducible refine (impl_isBlockOf.calls _ _ l0_0 a0_1 _ _ l0_2 a1 true _ ?side1 ?side2 ?side3 ?side4 A4.out).mono ?_); (case side1 => exact cHR0_0_); (case side2 => exact HC0_0.out); (case side3 => exact cHR0_2_); (case side4 => exact HC0_2.out); rintro e w11 ⟨rfl, hb⟩; refine ⟨_, rfl, ?_⟩; have n0_ := Aside0.mk (blk_below (g := gb390) (o := .cells #[.slice A0_0 l0_0.length c0_0, .int .i64 a0_1, .slice A0_2 l0_2.length c0_2] 41 (0, 0)) bK390_ hb); have n1_ := Aside0.mk (below_step hS_ hb); clear BK390; clear HB; have BK390 := n0_; have HB := n1_; clear n0_ n1_; (try clear hb); (try clear hb2); (try clear hk); (try clear hi); obtain ⟨hcz12_0, hcz12_1, hcz12_2, hfz12_0, hfz12_1, hfz12_2⟩ := blkc3_ BK390.out) | (go_at_call 69; (with_reducible refine (impl_isBlockOf.calls _ _ l0_0 a0_1 _ _ l0_2 a2 true _ ?side1 ?side2 ?side3 ?side4 A6.out).mono ?_); (case side1 => exact cHR0_0_); (case side2 => exact HC0_0.out); (case side3 => exact cHR0_2_); (case side4 => exact HC0_2.out); rintro e w13 ⟨rfl, hb⟩; have n0_ := Aside0.mk (blk_below (g := gb390) (o := .cells #[.slice A0_0 l0_0.length c0_0, .int .i64 a0_1, .slice A0_2 l0_2.length c0_2] 41 (0, 0)) bK390_ hb); have n1_ := Aside0.mk (below_step hS_ hb); clear BK390; clear HB; have BK390 := n0_; have HB := n1_; clear n0_ n1_; (try clear hb); (try clear hb2); (try clear hk); (try clear hi); obtain ⟨hcz14_0, hcz14_1, hcz14_2, hfz14_0, hfz14_1, hfz14_2⟩ := blkc3_ BK390.out) | (go_at_call 70; (with_reducible refine (impl_dominates.calls k _ _ l0_0 a0_1 _ _ l0_2 a1 a2 t393 _ ?side1 ?side2 ?side3 ?side4 A8.out).mono ?_); (case side1 => exact cHR0_0_); (case side2 => exact HC0_0.out); (case side3 => exact cHR0_2_); (case side4 => exact HC0_2.out); rintro e w15 ⟨rfl, hb⟩; have n0_ := Aside0.mk (blk_below (g := gb390) (o := .cells #[.slice A0_0 l0_0.length c0_0, .int .i64 a0_1, .slice A0_2 l0_2.length c0_2] 41 (0, 0)) bK390_ hb); have n1_ := Aside0.mk (below_step hS_ hb); clear BK390; clear HB; have BK390 := n0_; have HB := n1_; clear n0_ n1_; (try clear hb); (try clear hb2); (try clear hk); (try clear hi)))
   go_ret
   exact ⟨rG_, hS_⟩
  ·replace c7 := Bool.eq_false_iff.mpr c7
   subst c7
   have H1 := (if_neg (show ¬ (false = true) by decide)).symm.trans H
   clear H
   have H := H1
   clear H1
   obtain rfl := Option.some.inj H
   go_enter Try.func27, Try.ntmps27
   go_wp2_with (first | ((with_reducible refine gate_dst (N := 3) rfl ?_); refine box_event ?hg (N := 3) ?hd (cs := #[.slice A0_0 l0_0.length c0_0, .int .i64 a0_1, .slice A0_2 l0_2.length c0_2]) (t := 41) ?hr ?_; (case hd => rfl); (case hg => rfl); (case hr => first | (go_simp; done) | (go_simp; rfl)); intro gb390 hg w16 hbox hb; have n0_ := Aside0.mk (below_step hB_ hb); have n1_ := Aside0.mk (hbox); have n2_ := Aside0.mk ((sz_ hg (below_size hB_) : w.heap.size ≤ gb390)); have n3_ := Aside0.mk ((sz_ hg (below_size hB_) : w.heap.size ≤ gb390)); clear HB; have HB := n0_; have BK390 := n1_; have GW390 := n2_; have GE390 := n3_; clear n0_ n1_ n2_ n3_; clear hb hbox hg; obtain ⟨hcz17_0, hcz17_1, hcz17_2, hfz17_0, hfz17_1, hfz17_2⟩ := blkc3_ BK390.out) | ((with_reducible refine gate_callee (f := 69) rfl ?_); refine gL_ (some 9) Try.func69 #[.agg #[.slice A0_0 l0_0.length c0_0, .int .i64 a0_1, .slice A0_2 l0_2.length c0_2], .int .i64 a1] ?_; (with_reducible refine (impl_isBlockOf.calls _ _ l0_0 a0_1 _ _ l0_2 a1 true _ ?side1 ?side2 ?side3 ?side4 A4.out).mono ?_); (case side1 => exact cHR0_0_); (case side2 => exact HC0_0.out); (case side3 => exact cHR0_2_); (case side4 => exact HC0_2.out); rintro e w18 ⟨rfl, hb⟩; refine ⟨_, rfl, ?_⟩; have n0_ := Aside0.mk (blk_below (g := gb390) (o := .cells #[.slice A0_0 l0_0.length c0_0, .int .i64 a0_1, .slice A0_2 l0_2.length c0_2] 41 (0, 0)) bK390_ hb); have n1_ := Aside0.mk (below_step hS_ hb); clear BK390; clear HB; have BK390 := n0_; have HB := n1_; clear n0_ n1_; (try clear hb); (try clear hb2); (try clear hk); (try clear hi); obtain ⟨hcz19_0, hcz19_1, hcz19_2, hfz19_0, hfz19_1, hfz19_2⟩ := blkc3_ BK390.out) | (go_at_call 69; (with_reducible refine (impl_isBlockOf.calls _ _ l0_0 a0_1 _ _ l0_2 a2 false _ ?side1 ?side2 ?side3 ?side4 A6.out).mono ?_); (case side1 => exact cHR0_0_); (case side2 => exact HC0_0.out); (case side3 => exact cHR0_2_); (case side4 => exact HC0_2.out); rintro e w20 ⟨rfl, hb⟩; have n0_ := Aside0.mk (blk_below (g := gb390) (o := .cells #[.slice A0_0 l0_0.length c0_0, .int .i64 a0_1, .slice A0_2 l0_2.length c0_2] 41 (0, 0)) bK390_ hb); have n1_ := Aside0.mk (below_step hS_ hb); clear BK390; clear HB; have BK390 := n0_; have HB := n1_; clear n0_ n1_; (try clear hb); (try clear hb2); (try clear hk); (try clear hi)))
   go_ret
   exact ⟨rG_, hS_⟩
 ·replace c5 := Bool.eq_false_iff.mpr c5
  subst c5
  have H1 := (if_neg (show ¬ (false = true) by decide)).symm.trans H
  clear H
  have H := H1
  clear H1
  obtain rfl := Option.some.inj H
  go_enter Try.func27, Try.ntmps27
  go_wp2_with (first | ((with_reducible refine gate_dst (N := 3) rfl ?_); refine box_event ?hg (N := 3) ?hd (cs := #[.slice A0_0 l0_0.length c0_0, .int .i64 a0_1, .slice A0_2 l0_2.length c0_2]) (t := 41) ?hr ?_; (case hd => rfl); (case hg => rfl); (case hr => first | (go_simp; done) | (go_simp; rfl)); intro gb390 hg w21 hbox hb; have n0_ := Aside0.mk (below_step hB_ hb); have n1_ := Aside0.mk (hbox); have n2_ := Aside0.mk ((sz_ hg (below_size hB_) : w.heap.size ≤ gb390)); have n3_ := Aside0.mk ((sz_ hg (below_size hB_) : w.heap.size ≤ gb390)); clear HB; have HB := n0_; have BK390 := n1_; have GW390 := n2_; have GE390 := n3_; clear n0_ n1_ n2_ n3_; clear hb hbox hg; obtain ⟨hcz22_0, hcz22_1, hcz22_2, hfz22_0, hfz22_1, hfz22_2⟩ := blkc3_ BK390.out) | ((with_reducible refine gate_callee (f := 69) rfl ?_); refine gL_ (some 9) Try.func69 #[.agg #[.slice A0_0 l0_0.length c0_0, .int .i64 a0_1, .slice A0_2 l0_2.length c0_2], .int .i64 a1] ?_; (with_reducible refine (impl_isBlockOf.calls _ _ l0_0 a0_1 _ _ l0_2 a1 false _ ?side1 ?side2 ?side3 ?side4 A4.out).mono ?_); (case side1 => exact cHR0_0_); (case side2 => exact HC0_0.out); (case side3 => exact cHR0_2_); (case side4 => exact HC0_2.out); rintro e w23 ⟨rfl, hb⟩; refine ⟨_, rfl, ?_⟩; have n0_ := Aside0.mk (blk_below (g := gb390) (o := .cells #[.slice A0_0 l0_0.length c0_0, .int .i64 a0_1, .slice A0_2 l0_2.length c0_2] 41 (0, 0)) bK390_ hb); have n1_ := Aside0.mk (below_step hS_ hb); clear BK390; clear HB; have BK390 := n0_; have HB := n1_; clear n0_ n1_; (try clear hb); (try clear hb2); (try clear hk); (try clear hi)))
  go_ret
  exact ⟨rG_, hS_⟩
/-! ### spec_Dominates: function 28 -/
def spec_Dominates.f (k : Nat) (l0_0 : List Int) (a0_1 : Int) (l0_2 : List (S88)) (a1 : Int) (a2 : Int) : Option (Bool) := (spec_l3There.f k l0_0 a0_1 l0_2 a1).bind fun t491 => (if t491 = true then ((spec_l3There.f k l0_0 a0_1 l0_2 a2).bind fun t492 => (if t492 = true then ((spec_l3Dom.f k l0_0 a0_1 l0_2 a1 a2).bind fun t493 => (some t493)) else (some false))) else (some false))
theorem spec_Dominates.mono : ∀ a0 a1 a2 a3 a4 k, LeO (spec_Dominates.f k a0 a1 a2 a3 a4) (spec_Dominates.f (k + 1) a0 a1 a2 a3 a4) := by
 intro a0 a1 a2 a3 a4 k
 unfold spec_Dominates.f
 repeat' first
   | (with_reducible exact spec_l3Dom.mono _ _ _ _ _ _)
   | (with_reducible exact spec_l3There.mono _ _ _ _ _)
   | (with_reducible exact LeO.refl _)
   | (with_reducible exact LeO.none _)
   | (with_reducible refine LeO.ite ?_ ?_)
   | (with_reducible refine LeO.bind ?_ (fun _ => ?_))
   | exact spec_l3Dom.mono _ _ _ _ _ _
   | exact spec_l3There.mono _ _ _ _ _
   | exact LeO.none _
   | refine LeO.ite ?_ ?_
   | refine LeO.bind ?_ (fun _ => ?_)
set_option maxHeartbeats 8000000 in
set_option maxRecDepth 100000 in
theorem spec_Dominates.calls (k : Nat) (A0_0 : Option Addr) (c0_0 : Nat) (l0_0 : List Int) (a0_1 : Int) (A0_2 : Option Addr) (c0_2 : Nat) (l0_2 : List (S88)) (a1 : Int) (a2 : Int) (r : Bool) (w : World) (hr0_0 : Kd.C (Kd.int .i64) w A0_0 l0_0.length l0_0) (hc0_0 : l0_0.length ≤ c0_0) (hr0_2 : Kd.C k88 w A0_2 l0_2.length l0_2) (hc0_2 : l0_2.length ≤ c0_2) (h : spec_Dominates.f k l0_0 a0_1 l0_2 a1 a2 = some r) :
  Calls Try.prog 28 #[.agg #[.slice A0_0 l0_0.length c0_0, .int .i64 a0_1, .slice A0_2 l0_2.length c0_2], .int .i64 a1, .int .i64 a2] w fun e w' => e = .returned (.bool r) ∧ Below w.heap.size w w' := by
 have hu41 := Try.underlying41
 have HR0_0 := Aside0.mk hr0_0
 have HC0_0 := Aside0.mk hc0_0
 clear hr0_0 hc0_0
 have HR0_2 := Aside0.mk hr0_2
 have HC0_2 := Aside0.mk hc0_2
 clear hr0_2 hc0_2
 have HB := Aside0.mk (Below.refl w.heap.size w)
 have H : ((spec_l3There.f k l0_0 a0_1 l0_2 a1).bind fun t491 => (if t491 = true then ((spec_l3There.f k l0_0 a0_1 l0_2 a2).bind fun t492 => (if t492 = true then ((spec_l3Dom.f k l0_0 a0_1 l0_2 a1 a2).bind fun t493 => (some t493)) else (some false))) else (some false))) = some r := h
 clear h
 replace H := Option.bind_eq_some_iff.mp H
 obtain ⟨t491, A40, H⟩ := H
 replace H : (if t491 = true then ((spec_l3There.f k l0_0 a0_1 l0_2 a2).bind fun t492 => (if t492 = true then ((spec_l3Dom.f k l0_0 a0_1 l0_2 a1 a2).bind fun t493 => (some t493)) else (some false))) else (some false)) = some r := H
 have A4 := Aside0.mk A40
 clear A40
 by_cases c5 : t491 = true
 ·subst c5
  have H1 := (if_pos rfl).symm.trans H
  clear H
  have H := H1
  clear H1
  replace H := Option.bind_eq_some_iff.mp H
  obtain ⟨t492, A60, H⟩ := H
  replace H : (if t492 = true then ((spec_l3Dom.f k l0_0 a0_1 l0_2 a1 a2).bind fun t493 => (some t493)) else (some false)) = some r := H
  have A6 := Aside0.mk A60
  clear A60
  by_cases c7 : t492 = true
  ·subst c7
   have H1 := (if_pos rfl).symm.trans H
   clear H
   have H := H1
   clear H1
   replace H := Option.bind_eq_some_iff.mp H
   obtain ⟨t493, A80, H⟩ := H
   replace H : (some t493) = some r := H
   have A8 := Aside0.mk A80
   clear A80
   obtain rfl := Option.some.inj H
   go_enter Try.func28, Try.ntmps28
   go_wp2_with (first | ((with_reducible refine gate_dst (N := 3) rfl ?_); refine box_event ?hg (N := 3) ?hd (cs := #[.slice A0_0 l0_0.length c0_0, .int .i64 a0_1, .slice A0_2 l0_2.length c0_2]) (t := 41) ?hr ?_; (case hd => rfl); (case hg => rfl); (case hr => first | (go_simp; done) | (go_simp; rfl)); intro gb490 hg w9 hbox hb; have n0_ := Aside0.mk (below_step hB_ hb); have n1_ := Aside0.mk (hbox); have n2_ := Aside0.mk ((sz_ hg (below_size hB_) : w.heap.size ≤ gb490)); have n3_ := Aside0.mk ((sz_ hg (below_size hB_) : w.heap.size ≤ gb490)); clear HB; have HB := n0_; have BK490 := n1_; have GW490 := n2_; have GE490 := n3_; clear n0_ n1_ n2_ n3_; clear hb hbox hg; obtain ⟨hcz10_0, hcz10_1, hcz10_2, hfz10_0, hfz10_1, hfz10_2⟩ := blkc3_ BK490.out) | ((with_reducible refine gate_callee (f := 71) rfl ?_); refine gL_ (some 9) Try.func71 #[.agg #[.slice A0_0 l0_0.length c0_0, .int .i64 a0_1, .slice A0_2 l0_2.length c0_2], .int .i64 a1] ?_; (with_reducible refine (spec_l3There.calls k _ _ l0_0 a0_1 _ _ l0_2 a1 true _ ?side1 ?side2 ?side3 ?side4 A4.out).mono ?_); (case side1 => exact cHR0_0_); (case side2 => exact HC0_0.out); (case side3 => exact cHR0_2_); (case side4 => exact HC0_2.out); rintro e w11 ⟨rfl, hb⟩; refine ⟨_, rfl, ?_⟩; have n0_ := Aside0.mk (blk_below (g := gb490) (o := .cells #[.slice A0_0 l0_0.length c0_0, .int .i64 a0_1, .slice A0_2 l0_2.length c0_2] 41 (0, 0)) bK490_ hb); have n1_ := Aside0.mk (below_step hS_ hb); clear BK490; clear HB; have BK490 := n0_; have HB := n1_; clear n0_ n1_; (try clear hb); (try clear hb2); (try clear hk); (try clear hi); obtain ⟨hcz12_0, hcz12_1, hcz12_2, hfz12_0, hfz12_1, hfz12_2⟩ := blkc3_ BK490.out) | (go_at_call 71; (with_reducible refine (spec_l3There.calls k _ _ l0_0 a0_1 _ _ l0_2 a2 true _ ?side1 ?side2 ?side3 ?side4 A6.out).mono ?_); (case side1 => exact cHR0_0_); (case side2 => exact HC0_0.out); (case side3 => exact cHR0_2_); (case side4 => exact HC0_2.out); rintro e w13 ⟨rfl, hb⟩; have n0_ := Aside0.mk (blk_below (g := gb490) (o := .cells #[.slice A0_0 l0_0.length c0_0, .int .i64 a0_1, .slice A0_2 l0_2.length c0_2] 41 (0, 0)) bK490_ hb); have n1_ := Aside0.mk (below_step hS_ hb); clear BK490; clear HB; have BK490 := n0_; have HB := n1_; clear n0_ n1_; (try clear hb); (try clear hb2); (try clear hk); (try clear hi); obtain ⟨hcz14_0, hcz14_1, hcz14_2, hfz14_0, hfz14_1, hfz14_2⟩ := blkc3_ BK490.out) | (go_at_call 72; (with_reducible refine (spec_l3Dom.calls k _ _ l0_0 a0_1 _ _ l0_2 a1 a2 t493 _ ?side1 ?side2 ?side3 ?side4 A8.out).mono ?_); (case side1 => exact cHR0_0_); (case side2 => exact HC0_0.out); (case side3 => exact cHR0_2_); (case side4 => exact HC0_2.out); rintro e w15 ⟨rfl, hb⟩; have n0_ := Aside0.mk (blk_below (g := gb490) (o := .cells #[.slice A0_0 l0_0.length c0_0, .int .i64 a0_1, .slice A0_2 l0_2.length c0_2] 41 (0, 0)) bK490_ hb); have n1_ := Aside0.mk (below_step hS_ hb); clear BK490; clear HB; have BK490 := n0_; have HB := n1_; clear n0_ n1_; (try clear hb); (try clear hb2); (try clear hk); (try clear hi)))
   go_ret
   exact ⟨rG_, hS_⟩
  ·replace c7 := Bool.eq_false_iff.mpr c7
   subst c7
   have H1 := (if_neg (show ¬ (false = true) by decide)).symm.trans H
   clear H
   have H := H1
   clear H1
   obtain rfl := Option.some.inj H
   go_enter Try.func28, Try.ntmps28
   go_wp2_with (first | ((with_reducible refine gate_dst (N := 3) rfl ?_); refine box_event ?hg (N := 3) ?hd (cs := #[.slice A0_0 l0_0.length c0_0, .int .i64 a0_1, .slice A0_2 l0_2.length c0_2]) (t := 41) ?hr ?_; (case hd => rfl); (case hg => rfl); (case hr => first | (go_simp; done) | (go_simp; rfl)); intro gb490 hg w16 hbox hb; have n0_ := Aside0.mk (below_step hB_ hb); have n1_ := Aside0.mk (hbox); have n2_ := Aside0.mk ((sz_ hg (below_size hB_) : w.heap.size ≤ gb490)); have n3_ := Aside0.mk ((sz_ hg (below_size hB_) : w.heap.size ≤ gb490)); clear HB; have HB := n0_; have BK490 := n1_; have GW490 := n2_; have GE490 := n3_; clear n0_ n1_ n2_ n3_; clear hb hbox hg; obtain ⟨hcz17_0, hcz17_1, hcz17_2, hfz17_0, hfz17_1, hfz17_2⟩ := blkc3_ BK490.out) | ((with_reducible refine gate_callee (f := 71) rfl ?_); refine gL_ (some 9) Try.func71 #[.agg #[.slice A0_0 l0_0.length c0_0, .int .i64 a0_1, .slice A0_2 l0_2.length c0_2], .int .i64 a1] ?_; (with_reducible refine (spec_l3There.calls k _ _ l0_0 a0_1 _ _ l0_2 a1 true _ ?side1 ?side2 ?side3 ?side4 A4.out).mono ?_); (case side1 => exact cHR0_0_); (case side2 => exact HC0_0.out); (case side3 => exact cHR0_2_); (case side4 => exact HC0_2.out); rintro e w18 ⟨rfl, hb⟩; refine ⟨_, rfl, ?_⟩; have n0_ := Aside0.mk (blk_below (g := gb490) (o := .cells #[.slice A0_0 l0_0.length c0_0, .int .i64 a0_1, .slice A0_2 l0_2.length c0_2] 41 (0, 0)) bK490_ hb); have n1_ := Aside0.mk (below_step hS_ hb); clear BK490; clear HB; have BK490 := n0_; have HB := n1_; clear n0_ n1_; (try clear hb); (try clear hb2); (try clear hk); (try clear hi); obtain ⟨hcz19_0, hcz19_1, hcz19_2, hfz19_0, hfz19_1, hfz19_2⟩ := blkc3_ BK490.out) | (go_at_call 71; (with_reducible refine (spec_l3There.calls k _ _ l0_0 a0_1 _ _ l0_2 a2 false _ ?side1 ?side2 ?side3 ?side4 A6.out).mono ?_); (case side1 => exact cHR0_0_); (case side2 => exact HC0_0.out); (case side3 => exact cHR0_2_); (case side4 => exact HC0_2.out); rintro e w20 ⟨rfl, hb⟩; have n0_ := Aside0.mk (blk_below (g := gb490) (o := .cells #[.slice A0_0 l0_0.length c0_0, .int .i64 a0_1, .slice A0_2 l0_2.length c0_2] 41 (0, 0)) bK490_ hb); have n1_ := Aside0.mk (below_step hS_ hb); clear BK490; clear HB; have BK490 := n0_; have HB := n1_; clear n0_ n1_; (try clear hb); (try clear hb2); (try clear hk); (try clear hi)))
   go_ret
   exact ⟨rG_, hS_⟩
 ·replace c5 := Bool.eq_false_iff.mpr c5
  subst c5
  have H1 := (if_neg (show ¬ (false = true) by decide)).symm.trans H
  clear H
  have H := H1
  clear H1
  obtain rfl := Option.some.inj H
  go_enter Try.func28, Try.ntmps28
  go_wp2_with (first | ((with_reducible refine gate_dst (N := 3) rfl ?_); refine box_event ?hg (N := 3) ?hd (cs := #[.slice A0_0 l0_0.length c0_0, .int .i64 a0_1, .slice A0_2 l0_2.length c0_2]) (t := 41) ?hr ?_; (case hd => rfl); (case hg => rfl); (case hr => first | (go_simp; done) | (go_simp; rfl)); intro gb490 hg w21 hbox hb; have n0_ := Aside0.mk (below_step hB_ hb); have n1_ := Aside0.mk (hbox); have n2_ := Aside0.mk ((sz_ hg (below_size hB_) : w.heap.size ≤ gb490)); have n3_ := Aside0.mk ((sz_ hg (below_size hB_) : w.heap.size ≤ gb490)); clear HB; have HB := n0_; have BK490 := n1_; have GW490 := n2_; have GE490 := n3_; clear n0_ n1_ n2_ n3_; clear hb hbox hg; obtain ⟨hcz22_0, hcz22_1, hcz22_2, hfz22_0, hfz22_1, hfz22_2⟩ := blkc3_ BK490.out) | ((with_reducible refine gate_callee (f := 71) rfl ?_); refine gL_ (some 9) Try.func71 #[.agg #[.slice A0_0 l0_0.length c0_0, .int .i64 a0_1, .slice A0_2 l0_2.length c0_2], .int .i64 a1] ?_; (with_reducible refine (spec_l3There.calls k _ _ l0_0 a0_1 _ _ l0_2 a1 false _ ?side1 ?side2 ?side3 ?side4 A4.out).mono ?_); (case side1 => exact cHR0_0_); (case side2 => exact HC0_0.out); (case side3 => exact cHR0_2_); (case side4 => exact HC0_2.out); rintro e w23 ⟨rfl, hb⟩; refine ⟨_, rfl, ?_⟩; have n0_ := Aside0.mk (blk_below (g := gb490) (o := .cells #[.slice A0_0 l0_0.length c0_0, .int .i64 a0_1, .slice A0_2 l0_2.length c0_2] 41 (0, 0)) bK490_ hb); have n1_ := Aside0.mk (below_step hS_ hb); clear BK490; clear HB; have BK490 := n0_; have HB := n1_; clear n0_ n1_; (try clear hb); (try clear hb2); (try clear hk); (try clear hi)))
  go_ret
  exact ⟨rG_, hS_⟩
end Go.Proofs.Ytjkbafcepblacaa.X
namespace Go.Proofs.Ytjkbafcepblacaa.X
set_option linter.unusedVariables false
set_option linter.unusedSimpArgs false
open Go.RowKit Go.Proofs.YtjkbafcepblacaaW.PrintWords Go.Proofs.YtjkbafcepblacaaW.PrintLast Go.Proofs.YtjkbafcepblacaaW.PrintMore
theorem implDom_ev (p : List Int) (r : Int) (l : List Block) (ht : There l) (a b : Int) (h0 : 0 ≤ b) (h1 : b < l.length) : Ev (fun k => impl_dominates.f k p r l a b) (domB l a b) := by
  have hl := reachB_length l (-1)
  have hl' := reachB_length l a
  refine Ev.bind (implReach_ev p r l (-1) ht (by omega)) (Ev.ipos h0 (Ev.ipos (by omega) ?_))
  unfold domB
  by_cases hv : (reachB l (-1)).getD b.toNat false = true
  · refine Ev.ipos hv (Ev.bind (implReach_ev p r l a ht (by omega)) (Ev.ipos (by omega) (Ev.rw (Ev.now _) ?_)))
    rw [hv]; rfl
  · refine Ev.ineg hv (Ev.rw (Ev.now _) ?_)
    rw [show (reachB l (-1)).getD b.toNat false = false by simpa using hv]; rfl
def dominatesB (l : List Block) (a b : Int) : Bool := decide ((0 ≤ a ∧ a < (l.length : Int)) ∧ There l) && (decide ((0 ≤ b ∧ b < (l.length : Int)) ∧ There l) && domB l a b)
theorem dominatesB_iff {l : List Block} (ht : There l) {a b : Int} (ha : 0 ≤ a ∧ a < (l.length : Int)) (hb : 0 ≤ b ∧ b < (l.length : Int)) : dominatesB l a b = true ↔ Dm l a b := by
  unfold dominatesB
  rw [decide_eq_true ⟨ha, ht⟩, decide_eq_true ⟨hb, ht⟩, Bool.true_and, Bool.true_and]
  exact domB_iff l ht (by omega) a b hb.1
end Go.Proofs.Ytjkbafcepblacaa.X
namespace Go.Proofs.Ytjkbafcepblacaa.X
set_option linter.unusedVariables false
set_option linter.unusedSimpArgs false
open Go.RowKit Go.Proofs.YtjkbafcepblacaaW.PrintWords Go.Proofs.YtjkbafcepblacaaW.PrintLast Go.Proofs.YtjkbafcepblacaaW.PrintMore
/-- The nearest one among the blocks below i, -1 for none. -/
def Near (l : List Block) (b best : Int) (i : Int) : Prop :=
  (best = -1 ∧ ∀ k, 0 ≤ k → k < i → k ≠ b → ¬ Dm l k b) ∨ ((0 ≤ best ∧ best < (l.length : Int)) ∧ best ≠ b ∧ Dm l best b ∧ ∀ k, 0 ≤ k → k < i → k ≠ b → Dm l k b → Dm l k best)
theorem near_l (p : List Int) (r : Int) (l : List Block) (b : Int) (ht : There l) (h0 : 0 ≤ b) (h1 : b < (l.length : Int)) : ∀ (d i : Nat) (best : Int), i + d = l.length → Near l b best i →
    ∃ R, Ev (fun k => impl_IdomOf.l0 k b best (l.length : Int) i p r l) R ∧ Near l b R (l.length : Int) := by
  have ht10 := ht.1
  intro d
  induction d with
  | zero =>
    intro i best hi hN
    obtain rfl : i = l.length := by omega
    exact ⟨best, Ev.step (fun k => rfl) (Ev.ineg (by omega) (Ev.now _)), hN⟩
  | succ d ih =>
    intro i best hi hN
    have hw : wrap64 ((i : Int) + 1) = ((i + 1 : Nat) : Int) := by rw [w64 (by omega) (by omega)]; rfl
    have hcast : ((i + 1 : Nat) : Int) = (i : Int) + 1 := by push_cast; rfl
    have hir : 0 ≤ (i : Int) ∧ (i : Int) < (l.length : Int) := by omega
    -- best stays, when i is told of
    have keep : (((i : Int) = b) ∨ ¬ Dm l i b ∨ (0 ≤ best ∧ Dm l i best)) → Near l b best ((i + 1 : Nat) : Int) := by
      intro hc
      rw [hcast]
      rcases hN with ⟨e, hn⟩ | ⟨hb, hbb, hdb, hn⟩
      · refine .inl ⟨e, fun k hk hk1 hkb hd => ?_⟩
        by_cases e' : k = (i : Int)
        · subst e'
          rcases hc with hc | hc | hc
          · exact hkb hc
          · exact hc hd
          · omega
        · exact hn k hk (by omega) hkb hd
      · refine .inr ⟨hb, hbb, hdb, fun k hk hk1 hkb hd => ?_⟩
        by_cases e' : k = (i : Int)
        · subst e'
          rcases hc with hc | hc | hc
          · exact absurd hc hkb
          · exact absurd hd hc
          · exact hc.2
        · exact hn k hk (by omega) hkb hd
    by_cases hb : (i : Int) = b
    · obtain ⟨R, e, hR⟩ := ih (i + 1) best (by omega) (keep (.inl hb))
      refine ⟨R, Ev.step (fun k => rfl) (Ev.ipos (by omega) (Ev.ipos hb ?_)), hR⟩
      rw [hw]; exact e
    · have d1 := implDom_ev p r l ht i b h0 h1
      have di := domB_iff l ht (by omega) i b h0
      by_cases hd : domB l i b = true
      · have hdm := di.1 hd
        by_cases hn : best < 0
        · have hN' : Near l b i ((i + 1 : Nat) : Int) := by
            rw [hcast]
            refine .inr ⟨hir, hb, hdm, fun k hk hk1 hkb hdk => ?_⟩
            rcases hN with ⟨e, hno⟩ | ⟨hb', _⟩
            · by_cases e' : k = (i : Int)
              · subst e'; exact Dm.self hdm.reached
              · exact absurd hdk (hno k hk (by omega) hkb)
            · omega
          obtain ⟨R, e, hR⟩ := ih (i + 1) i (by omega) hN'
          refine ⟨R, Ev.step (fun k => rfl) (Ev.ipos (by omega) (Ev.ineg hb (Ev.bind d1 (Ev.ipos hd (Ev.ipos hn ?_))))), hR⟩
          rw [hw]; exact e
        · have hbest : (0 ≤ best ∧ best < (l.length : Int)) ∧ best ≠ b ∧ Dm l best b ∧ ∀ k, 0 ≤ k → k < (i : Int) → k ≠ b → Dm l k b → Dm l k best := by
            rcases hN with ⟨e, _⟩ | h
            · omega
            · exact h
          obtain ⟨hbr, hbb, hdb, hall⟩ := hbest
          have e1 := implDom_ev p r l ht best i hir.1 hir.2
          have de := domB_iff l ht (by omega) best i hir.1
          by_cases he : domB l best i = true
          · have hbi := de.1 he
            have hN' : Near l b i ((i + 1 : Nat) : Int) := by
              rw [hcast]
              refine .inr ⟨hir, hb, hdm, fun k hk hk1 hkb hdk => ?_⟩
              by_cases e' : k = (i : Int)
              · subst e'; exact Dm.self hdm.reached
              · exact (hall k hk (by omega) hkb hdk).trans hbi
            obtain ⟨R, e, hR⟩ := ih (i + 1) i (by omega) hN'
            refine ⟨R, Ev.step (fun k => rfl) (Ev.ipos (by omega) (Ev.ineg hb (Ev.bind d1 (Ev.ipos hd (Ev.ineg hn (Ev.bind e1 (Ev.ipos he ?_))))))), hR⟩
            rw [hw]; exact e
          · have hib : Dm l i best := by
              rcases hdm.chain hdb with h | h
              · exact h
              · exact absurd (de.2 h) he
            obtain ⟨R, e, hR⟩ := ih (i + 1) best (by omega) (keep (.inr (.inr ⟨hbr.1, hib⟩)))
            refine ⟨R, Ev.step (fun k => rfl) (Ev.ipos (by omega) (Ev.ineg hb (Ev.bind d1 (Ev.ipos hd (Ev.ineg hn (Ev.bind e1 (Ev.ineg he ?_))))))), hR⟩
            rw [hw]; exact e
      · obtain ⟨R, e, hR⟩ := ih (i + 1) best (by omega) (keep (.inr (.inl (fun h => hd (di.2 h)))))
        refine ⟨R, Ev.step (fun k => rfl) (Ev.ipos (by omega) (Ev.ineg hb (Ev.bind d1 (Ev.ineg hd ?_)))), hR⟩
        rw [hw]; exact e
/-- What is asked of the nearest one: with D as to dominate. -/
def NearB (D : Int → Int → Bool) (n b d : Int) : Prop :=
  (d = -1 ∧ ∀ k, 0 ≤ k → k < n → k ≠ b → D k b = false) ∨ (0 ≤ d ∧ d ≠ b ∧ D d b = true ∧ ∀ k, 0 ≤ k → k < n → k ≠ b → D k b = true → D k d = true)
theorem idom_near (p : List Int) (r : Int) (l : List Block) (b : Int) (h : l.length ≤ 1048576) : ∃ R, Ev (fun k => impl_IdomOf.f k p r l b) R ∧ NearB (dominatesB l) (l.length : Int) b R := by
  by_cases cb : (0 ≤ b ∧ b < (l.length : Int)) ∧ There l
  · obtain ⟨R, e1, hR⟩ := near_l p r l b cb.2 cb.1.1 cb.1.2 l.length 0 (-1) (by omega) (.inl ⟨rfl, fun k hk hk1 => by omega⟩)
    refine ⟨R, Ev.bind (Ev.cst (implBlockOf_eq p r l b h)) (Ev.ipos (decide_eq_true cb) e1), ?_⟩
    rcases hR with ⟨e, hn⟩ | ⟨hr, hb, hd, hn⟩
    · refine .inl ⟨e, fun k hk hk1 hkb => ?_⟩
      have := hn k hk hk1 hkb
      rw [← dominatesB_iff cb.2 ⟨hk, hk1⟩ cb.1] at this
      simpa using this
    · refine .inr ⟨hr.1, hb, (dominatesB_iff cb.2 hr cb.1).2 hd, fun k hk hk1 hkb hkd => ?_⟩
      exact (dominatesB_iff cb.2 ⟨hk, hk1⟩ hr).2 (hn k hk hk1 hkb ((dominatesB_iff cb.2 ⟨hk, hk1⟩ cb.1).1 hkd))
  · refine ⟨-1, Ev.bind (Ev.cst (implBlockOf_eq p r l b h)) (Ev.ineg (by rw [decide_eq_false cb]; decide) (Ev.now _)), .inl ⟨rfl, fun k hk hk1 hkb => ?_⟩⟩
    unfold dominatesB
    rw [decide_eq_false cb, Bool.false_and, Bool.and_false]
end Go.Proofs.Ytjkbafcepblacaa.X
namespace Go.Proofs.Ytjkbafcepblacaa.X
set_option linter.unusedVariables false
set_option linter.unusedSimpArgs false
open Go.RowKit Go.Proofs.YtjkbafcepblacaaW.PrintWords Go.Proofs.YtjkbafcepblacaaW.PrintLast Go.Proofs.YtjkbafcepblacaaW.PrintMore
theorem next_some (l : List Int) (hl : ∀ x ∈ l, 0 ≤ x ∧ x ≤ 255) (hn : l.length ≤ 1048576) (p : Int) (h0 : 0 ≤ p) (h1 : p ≤ l.length) :
    ∃ v p', spec_l1Rd_next.f l p = some (v, p') ∧ 0 ≤ v ∧ v ≤ 255 ∧ 0 ≤ p' ∧ p' ≤ l.length := by
  unfold spec_l1Rd_next.f
  by_cases c : p ≥ (l.length : Int)
  · rw [if_pos c]; exact ⟨0, p, rfl, by omega, by omega, h0, h1⟩
  · have e1 : wrap64 (p + 1) = p + 1 := by unfold wrap64; omega
    have e2 : wrap64 (p + 1 - 1) = p := by unfold wrap64; omega
    rw [if_neg c, e1, e2, if_pos h0, if_pos (by omega)]
    have hm : rd l p ∈ l := by
      unfold rd
      have hp : p.toNat < l.length := by omega
      rw [List.getD_eq_getElem?_getD, List.getElem?_eq_getElem hp]
      exact List.getElem_mem hp
    have hr := hl _ hm
    exact ⟨_, _, rfl, by unfold wrap64; omega, by unfold wrap64; omega, by omega, by omega⟩
theorem below_some (l : List Int) (hl : ∀ x ∈ l, 0 ≤ x ∧ x ≤ 255) (hn : l.length ≤ 1048576) (p : Int) (h0 : 0 ≤ p) (h1 : p ≤ l.length) (n : Int) (hn1 : 1 < n) :
    ∃ v p', spec_l1Rd_below.f l p n = some (v, p') ∧ 0 ≤ v ∧ v < n ∧ 0 ≤ p' ∧ p' ≤ l.length := by
  unfold spec_l1Rd_below.f
  rw [if_neg (by omega)]
  obtain ⟨v, p', e, a, b, c, d⟩ := next_some l hl hn p h0 h1
  rw [e]; simp only [Option.bind_some]
  by_cases c2 : n ≤ 256
  · rw [if_pos c2, if_neg (by omega)]
    have e1 : Int.tmod v n = v % n := Int.tmod_eq_emod_of_nonneg a
    exact ⟨_, _, rfl, by rw [e1]; exact Int.emod_nonneg _ (by omega), by rw [e1]; exact Int.emod_lt_of_pos _ (by omega), c, d⟩
  · rw [if_neg c2]
    obtain ⟨v2, p2, e2, a2, b2, c3, d2⟩ := next_some l hl hn p' c d
    rw [e2]; simp only [Option.bind_some]
    rw [if_neg (by omega)]
    have e0 : wrap64 (wrap64 (v * 256) + v2) = v * 256 + v2 := by unfold wrap64; omega
    have e1 : Int.tmod (v * 256 + v2) n = (v * 256 + v2) % n := Int.tmod_eq_emod_of_nonneg (by omega)
    exact ⟨_, _, rfl, by rw [e0, e1]; exact Int.emod_nonneg _ (by omega), by rw [e0, e1]; exact Int.emod_lt_of_pos _ (by omega), c3, d2⟩
theorem once_some (l : List Int) (hl : ∀ x ∈ l, 0 ≤ x ∧ x ≤ 255) (hn : l.length ≤ 1048576) (p : Int) (h0 : 0 ≤ p) (h1 : p ≤ l.length) (n : Int) (hn1 : 1 < n) :
    ∃ b p', spec_l1Rd_once.f l p n = some (b, p') ∧ 0 ≤ p' ∧ p' ≤ l.length := by
  unfold spec_l1Rd_once.f
  obtain ⟨v, p', e, -, -, c, d⟩ := below_some l hl hn p h0 h1 n hn1
  rw [e]; exact ⟨_, _, rfl, c, d⟩
theorem word_some_l (l : List Int) (hl : ∀ x ∈ l, 0 ≤ x ∧ x ≤ 255) (hn : l.length ≤ 1048576) (d : Nat) : ∀ (k : Nat) (x i p : Int), 0 ≤ i → i + d = 8 → d < k → 0 ≤ p → p ≤ l.length → ∃ v p', spec_l1Rd_word.l0 k x i l p = some (v, p') ∧ 0 ≤ p' ∧ p' ≤ l.length := by
  induction d with
  | zero =>
    intro k x i p hi0 hi hk h0 h1
    obtain ⟨k, rfl⟩ : ∃ m, k = m + 1 := ⟨k - 1, by omega⟩
    simp only [spec_l1Rd_word.l0]
    rw [if_neg (by omega)]; exact ⟨_, _, rfl, h0, h1⟩
  | succ d ih =>
    intro k x i p hi0 hi hk h0 h1
    obtain ⟨k, rfl⟩ : ∃ m, k = m + 1 := ⟨k - 1, by omega⟩
    obtain ⟨v, p', e, -, -, c, d'⟩ := next_some l hl hn p h0 h1
    simp only [spec_l1Rd_word.l0]
    rw [if_pos (by omega), e]; simp only [Option.bind_some]
    rw [show wrap64 (i + 1) = i + 1 by unfold wrap64; omega]
    exact ih k _ (i + 1) p' (by omega) (by omega) (by omega) c d'
theorem word_some (l : List Int) (hl : ∀ x ∈ l, 0 ≤ x ∧ x ≤ 255) (hn : l.length ≤ 1048576) (p : Int) (h0 : 0 ≤ p) (h1 : p ≤ l.length) (k : Nat) (hk : 8 < k) : ∃ v p', spec_l1Rd_word.f k l p = some (v, p') ∧ 0 ≤ p' ∧ p' ≤ l.length :=
  word_some_l l hl hn 8 k 0 0 p (by decide) (by decide) hk h0 h1
theorem off_some (l : List Int) (hl : ∀ x ∈ l, 0 ≤ x ∧ x ≤ 255) (hn : l.length ≤ 1048576) (p : Int) (h0 : 0 ≤ p) (h1 : p ≤ l.length) (k : Nat) (hk : 8 < k) (a b : Int) (hab : 0 ≤ b - a) (hab2 : b - a < 9223372036854775807) :
    ∃ v p', spec_l1Rd_off.f k l p a b = some (v, p') ∧ 0 ≤ p' ∧ p' ≤ l.length := by
  unfold spec_l1Rd_off.f
  obtain ⟨t, p1, e1, c1, d1⟩ := once_some l hl hn p h0 h1 24 (by decide)
  rw [e1]; simp only [Option.bind_some]
  cases t with
  | true =>
    obtain ⟨v, p2, e2, a2, b2, c2, d2⟩ := below_some l hl hn p1 c1 d1 4 (by decide)
    rw [if_pos rfl, e2]; simp only [Option.bind_some]
    rw [if_pos a2, if_pos (by simpa using b2)]
    exact ⟨_, _, rfl, c2, d2⟩
  | false =>
    rw [if_neg (by decide)]
    unfold spec_l1Rd_near.f
    obtain ⟨v, p2, e2, a2, b2, c2, d2⟩ := below_some l hl hn p1 c1 d1 8 (by decide)
    rw [e2]; simp only [Option.bind_some]
    by_cases q1 : v = 0
    · rw [if_pos q1]; exact ⟨_, _, rfl, c2, d2⟩
    · rw [if_neg q1]
      by_cases q2 : v = 1
      · rw [if_pos q2]; exact ⟨_, _, rfl, c2, d2⟩
      · rw [if_neg q2, if_neg (by omega)]
        obtain ⟨v3, p3, e3, c3, d3⟩ := word_some l hl hn p2 c2 d2 k hk
        rw [e3]; simp only [Option.bind_some]
        rw [if_neg]
        · exact ⟨_, _, rfl, c3, d3⟩
        · rw [IntKind.wrap_u64]; unfold wrap64; omega
/-- What one round tells, all later ones do. -/
theorem Ev.of_mono {α : Type} {g : Nat → Option α} (hm : ∀ k, LeO (g k) (g (k + 1))) {K : Nat} {r : α} (h : g K = some r) : Ev g r := by
  refine ⟨K, fun k hk => ?_⟩
  obtain ⟨d, rfl⟩ : ∃ d, k = K + d := ⟨k - K, by omega⟩
  clear hk
  induction d with
  | zero => exact h
  | succ d ih => exact hm (K + d) r ih
theorem below1_some (l : List Int) (hl : ∀ x ∈ l, 0 ≤ x ∧ x ≤ 255) (hn : l.length ≤ 1048576) (p : Int) (h0 : 0 ≤ p) (h1 : p ≤ l.length) (n : Int) (hn1 : 1 ≤ n) :
    ∃ v p', spec_l1Rd_below.f l p n = some (v, p') ∧ 0 ≤ v ∧ v < n ∧ 0 ≤ p' ∧ p' ≤ l.length := by
  by_cases c : n ≤ 1
  · unfold spec_l1Rd_below.f
    rw [if_pos c]
    exact ⟨0, p, rfl, by omega, by omega, h0, h1⟩
  · exact below_some l hl hn p h0 h1 n (by omega)
theorem off_ev (l : List Int) (hl : ∀ x ∈ l, 0 ≤ x ∧ x ≤ 255) (hn : l.length ≤ 1048576) (p : Int) (h0 : 0 ≤ p) (h1 : p ≤ l.length) (a b : Int) (hab : 0 ≤ b - a) (hab2 : b - a < 9223372036854775807) :
    ∃ v p', Ev (fun k => spec_l1Rd_off.f k l p a b) (v, p') ∧ 0 ≤ p' ∧ p' ≤ l.length := by
  obtain ⟨v, p', e, c, d⟩ := off_some l hl hn p h0 h1 9 (by decide) a b hab hab2
  exact ⟨v, p', Ev.of_mono (fun k => spec_l1Rd_off.mono l p a b k) e, c, d⟩
end Go.Proofs.Ytjkbafcepblacaa.X
namespace Go.Proofs.Ytjkbafcepblacaa.X
set_option linter.unusedVariables false
set_option linter.unusedSimpArgs false
open Go.RowKit Go.Proofs.YtjkbafcepblacaaW.PrintWords Go.Proofs.YtjkbafcepblacaaW.PrintLast Go.Proofs.YtjkbafcepblacaaW.PrintMore
theorem graph_l (l : List Int) (hl : ∀ x ∈ l, 0 ≤ x ∧ x ≤ 255) (hn : l.length ≤ 1048576) (n : Int) (hn1 : 1 ≤ n) (hn7 : n ≤ 7) : ∀ (d i : Nat) (p : Int) (bs : List S88), (i : Int) + d = n → 0 ≤ p → p ≤ l.length → bs.length = i →
    ∃ ps r bs' p', Ev (fun k => spec_l1Rd_graph.l0 k n i l p 8 bs) (ps, r, bs', p') ∧ bs'.length ≤ 8 ∧ 0 ≤ p' ∧ p' ≤ l.length := by
  intro d
  induction d with
  | zero =>
    intro i p bs hi h0 h1 hb
    obtain ⟨b, p1, e1, c1, d1⟩ := once_some l hl hn p h0 h1 30 (by decide)
    cases b with
    | true =>
      obtain ⟨v, p2, e2, c2, d2⟩ := off_ev l hl hn p1 c1 d1 0 7 (by decide) (by decide)
      have e : Ev (fun k => spec_l1Rd_graph.l0 k n i l p 8 bs) (([] : List Int), (8 : Int), (bs.set (0 : Int).toNat (⟨(rd_T88 bs 0).f0, (rd_T88 bs 0).f1, (⟨(rd_T88 bs 0).f2.f0, (rd_T88 bs 0).f2.f1, v, (rd_T88 bs 0).f2.f3⟩ : S86)⟩ : S88)), p2) := by
        refine Ev.succ ?_
        simp only [spec_l1Rd_graph.l0]
        exact Ev.ineg (by omega) (Ev.bind (Ev.cst e1) (Ev.ipos rfl (Ev.bind e2 (Ev.ipos (by omega) (Ev.now _)))))
      exact ⟨_, _, _, _, e, by rw [List.length_set]; omega, c2, d2⟩
    | false =>
      have e : Ev (fun k => spec_l1Rd_graph.l0 k n i l p 8 bs) (([] : List Int), (8 : Int), bs, p1) := by
        refine Ev.succ ?_
        simp only [spec_l1Rd_graph.l0]
        exact Ev.ineg (by omega) (Ev.bind (Ev.cst e1) (Ev.ineg (show ¬ (false = true) by decide) (Ev.now _)))
      exact ⟨_, _, _, _, e, by omega, c1, d1⟩
  | succ d ih =>
    intro i p bs hi h0 h1 hb
    have hw : wrap64 ((i : Int) + 1) = ((i + 1 : Nat) : Int) := by rw [w64 (by omega) (by omega)]; rfl
    obtain ⟨t, p1, e1, a1, b1, c1, d1⟩ := below_some l hl hn p h0 h1 4 (by decide)
    have hj : ∀ x : Bool, ∃ ps r bs' p', Ev (fun k => spec_l1Rd_graph.j1 k n i t x l p1 8 bs 4 0 0 0) (ps, r, bs', p') ∧ bs'.length ≤ 8 ∧ 0 ≤ p' ∧ p' ≤ l.length := by
      intro x
      cases x with
      | true =>
        obtain ⟨u, p2, e2, a2, b2, c2, d2⟩ := below1_some l hl hn p1 c1 d1 n hn1
        obtain ⟨v, p3, e3, a3, b3, c3, d3⟩ := below1_some l hl hn p2 c2 d2 n hn1
        obtain ⟨ps, r, bs', p', e, hb', c', d'⟩ := ih (i + 1) p3 (bs ++ [(⟨([] : List (S95)), ([] : List (S27)), (⟨3, 0, u, v⟩ : S86)⟩ : S88)]) (by push_cast; omega) c3 d3 (by simp [hb])
        refine ⟨ps, r, bs', p', Ev.succ ?_, hb', c', d'⟩
        simp only [spec_l1Rd_graph.j1]
        rw [hw]
        exact Ev.ipos trivial (Ev.bind (Ev.cst e2) (Ev.bind (Ev.cst e3) (Ev.ipos (by omega) e)))
      | false =>
        by_cases h2 : t = 2
        · obtain ⟨u, p2, e2, a2, b2, c2, d2⟩ := below1_some l hl hn p1 c1 d1 n hn1
          obtain ⟨ps, r, bs', p', e, hb', c', d'⟩ := ih (i + 1) p2 (bs ++ [(⟨([] : List (S95)), ([] : List (S27)), (⟨2, 0, u, 0⟩ : S86)⟩ : S88)]) (by push_cast; omega) c2 d2 (by simp [hb])
          refine ⟨ps, r, bs', p', Ev.succ ?_, hb', c', d'⟩
          simp only [spec_l1Rd_graph.j1]
          rw [hw]
          exact Ev.ineg (by decide) (Ev.ipos h2 (Ev.bind (Ev.cst e2) (Ev.ipos (by omega) e)))
        · obtain ⟨ps, r, bs', p', e, hb', c', d'⟩ := ih (i + 1) p1 (bs ++ [(⟨([] : List (S95)), ([] : List (S27)), (⟨4, 0, 0, 0⟩ : S86)⟩ : S88)]) (by push_cast; omega) c1 d1 (by simp [hb])
          refine ⟨ps, r, bs', p', Ev.succ ?_, hb', c', d'⟩
          simp only [spec_l1Rd_graph.j1]
          rw [hw]
          exact Ev.ineg (by decide) (Ev.ineg h2 (Ev.ipos (by omega) e))
    by_cases ht : t = 0
    · obtain ⟨ps, r, bs', p', e, hb', c', d'⟩ := hj (t == 0)
      refine ⟨ps, r, bs', p', Ev.succ ?_, hb', c', d'⟩
      simp only [spec_l1Rd_graph.l0]
      exact Ev.ipos (by omega) (Ev.bind (Ev.cst e1) (Ev.ipos ht e))
    · obtain ⟨ps, r, bs', p', e, hb', c', d'⟩ := hj (t == 1)
      refine ⟨ps, r, bs', p', Ev.succ ?_, hb', c', d'⟩
      simp only [spec_l1Rd_graph.l0]
      exact Ev.ipos (by omega) (Ev.bind (Ev.cst e1) (Ev.ineg ht e))
theorem graph_ev (l : List Int) (hl : ∀ x ∈ l, 0 ≤ x ∧ x ≤ 255) (hn : l.length ≤ 1048576) (p : Int) (h0 : 0 ≤ p) (h1 : p ≤ l.length) :
    ∃ ps r bs' p', Ev (fun k => spec_l1Rd_graph.f k l p) (ps, r, bs', p') ∧ bs'.length ≤ 8 ∧ 0 ≤ p' ∧ p' ≤ l.length := by
  obtain ⟨v, p1, e1, a1, b1, c1, d1⟩ := below_some l hl hn p h0 h1 7 (by decide)
  obtain ⟨ps, r, bs', p', e, hb', c', d'⟩ := graph_l l hl hn (1 + v) (by omega) (by omega) (1 + v).toNat 0 p1 [] (by push_cast; omega) c1 d1 rfl
  refine ⟨ps, r, bs', p', Ev.bind (Ev.cst e1) ?_, hb', c', d'⟩
  rw [w64 (x := 1 + v) (by omega) (by omega)]
  exact e
end Go.Proofs.Ytjkbafcepblacaa.X
namespace Go.Proofs.Ytjkbafcepblacaa.Pure
set_option linter.unusedVariables false
set_option linter.unusedSimpArgs false
open Go.RowKit Go.Proofs.Ytjkbafcepblacaa.X Go.Proofs.YtjkbafcepblacaaW.PrintWords Go.Proofs.YtjkbafcepblacaaW.PrintLast
theorem lhas_l (l : List Int) (n : Int) (h : l.length ≤ 1000) : ∀ (d i : Nat), i + d = l.length → Ev (fun k => laws_has.l0 k l n i) (decide (n ∈ l.drop i)) := by
  intro d
  induction d with
  | zero =>
    intro i hi
    refine Ev.step (fun k => rfl) (Ev.ineg (by omega) (Ev.rw (Ev.now _) ?_))
    rw [List.drop_of_length_le (by omega)]; simp
  | succ d ih =>
    intro i hi
    have hlt : i < l.length := by omega
    refine Ev.step (fun k => rfl) (Ev.ipos (by omega) (Ev.ipos (by omega) ?_))
    rw [show rd l (i : Int) = l[i] from getD_at l _ i hlt, List.drop_eq_getElem_cons hlt]
    by_cases c : l[i] = n
    · exact Ev.ipos c (Ev.rw (Ev.now _) (by simp [c]))
    · refine Ev.ineg c ?_
      rw [show wrap64 ((i : Int) + 1) = ((i + 1 : Nat) : Int) by rw [w64 (by omega) (by omega)]; rfl]
      refine Ev.rw (ih (i + 1) (by omega)) ?_
      rw [decide_eq_decide, List.mem_cons]
      exact ⟨.inr, fun h => h.elim (fun e => absurd e.symm c) id⟩
theorem lhas_ev (l : List Int) (n : Int) (h : l.length ≤ 1000) : Ev (fun k => laws_has.f k l n) (decide (n ∈ l)) := by
  have := lhas_l l n h l.length 0 (by omega)
  rw [List.drop_zero] at this
  exact this
theorem same_ev (l : List Int) (h : l.length ≤ 1000) : Ev (fun k => laws_sameInts.f k l l) true := by
  refine Ev.ipos rfl ?_
  suffices hh : ∀ (d i : Nat), i + d = l.length → Ev (fun k => laws_sameInts.l0 k l l i) true from hh l.length 0 (by omega)
  intro d
  induction d with
  | zero => intro i hi; exact Ev.step (fun k => rfl) (Ev.ineg (by omega) (Ev.now true))
  | succ d ih =>
    intro i hi
    refine Ev.step (fun k => rfl) (Ev.ipos (by omega) (Ev.ipos (by omega) (Ev.ipos (by omega) (Ev.ipos rfl ?_))))
    rw [show wrap64 ((i : Int) + 1) = ((i + 1 : Nat) : Int) by rw [w64 (by omega) (by omega)]; rfl]
    exact ih (i + 1) (by omega)
theorem within_ev (a b : List Int) (ha : a.length ≤ 1000) (hb : b.length ≤ 1000) (h : ∀ x ∈ a, x ∈ b) : Ev (fun k => laws_within.f k a b) true := by
  suffices hh : ∀ (d i : Nat), i + d = a.length → Ev (fun k => laws_within.l0 k a b i) true from hh a.length 0 (by omega)
  intro d
  induction d with
  | zero => intro i hi; exact Ev.step (fun k => rfl) (Ev.ineg (by omega) (Ev.now true))
  | succ d ih =>
    intro i hi
    have hlt : i < a.length := by omega
    refine Ev.step (fun k => rfl) (Ev.ipos (by omega) (Ev.ipos (by omega) ?_))
    rw [show rd a (i : Int) = a[i] from getD_at a _ i hlt, show wrap64 ((i : Int) + 1) = ((i + 1 : Nat) : Int) by rw [w64 (by omega) (by omega)]; rfl]
    exact Ev.bind (lhas_ev b _ hb) (Ev.ipos (decide_eq_true (h _ (List.getElem_mem hlt))) (ih (i + 1) (by omega)))
theorem ahead_l (p : List Int) (r : Int) (bs : List Block) (L R : List Int) (i : Nat) (hi : i < L.length) (hL : L.length ≤ 10) (hR : R.length ≤ 20) (d0 : Int) (hd : Ev (fun k => impl_IdomOf.f k p r bs L[i]) d0) (hdom : d0 < 0 ∨ d0 ∈ L.take i)
    (hN : Ev (fun k => laws_FnOrder.l0 k L ((i + 1 : Nat) : Int) p r bs) true) : ∀ (d j : Nat) (x : Bool), j + d = R.length → (x = true ∨ ∃ q ∈ R.drop j, q ∈ L.take i) → Ev (fun k => laws_FnOrder.l1 k L i R x j p r bs) true := by
  have htk : (L.take i).length ≤ 1000 := by rw [List.length_take]; omega
  have hwi : wrap64 ((i : Int) + 1) = ((i + 1 : Nat) : Int) := by rw [w64 (by omega) (by omega)]; rfl
  intro d
  induction d with
  | zero =>
    intro j x hj hx
    have hx' : x = true := by
      rcases hx with h | ⟨q, hq, _⟩
      · exact h
      · rw [List.drop_of_length_le (by omega)] at hq; cases hq
    subst hx'
    refine Ev.succ ?_
    simp only [laws_FnOrder.l1]
    rw [show rd L (i : Int) = L[i] from getD_at L _ i hi, hwi, show ((i : Int)).toNat = i from rfl]
    refine Ev.ineg (by omega) (Ev.ipos (by omega) (Ev.ipos (by omega) (Ev.bind hd (Ev.ipos trivial ?_))))
    rcases hdom with h | h
    · exact Ev.ineg (by omega) hN
    · by_cases h' : d0 ≥ 0
      · exact Ev.ipos h' (Ev.ipos (by omega) (Ev.bind (lhas_ev _ _ htk) (Ev.ipos (decide_eq_true h) hN)))
      · exact Ev.ineg h' hN
  | succ d ih =>
    intro j x hj hx
    have hlt : j < R.length := by omega
    refine Ev.succ ?_
    simp only [laws_FnOrder.l1]
    rw [show rd R (j : Int) = R[j] from getD_at R _ j hlt, show wrap64 ((j : Int) + 1) = ((j + 1 : Nat) : Int) by rw [w64 (by omega) (by omega)]; rfl, show ((i : Int)).toNat = i from rfl]
    refine Ev.ipos (by omega) ?_
    cases x with
    | true => exact Ev.ipos rfl (ih (j + 1) true (by omega) (.inl rfl))
    | false =>
      refine Ev.ineg (by decide) (Ev.ipos (by omega) (Ev.ipos (by omega) (Ev.ipos (by omega) (Ev.bind (lhas_ev _ _ htk) ?_))))
      refine ih (j + 1) _ (by omega) ?_
      rcases hx with h | ⟨q, hq, hm⟩
      · cases h
      · rw [List.drop_eq_getElem_cons hlt, List.mem_cons] at hq
        rcases hq with rfl | hq
        · exact .inl (decide_eq_true hm)
        · exact .inr ⟨q, hq, hm⟩
theorem order_l0 (p : List Int) (r : Int) (bs : List Block) (hc : 1 ≤ bs.length ∧ There bs) : ∀ (d i : Nat), i + d = (orderL bs).length → Ev (fun k => laws_FnOrder.l0 k (orderL bs) i p r bs) true := by
  have O := order_ordered bs hc
  have hL := orderL_len bs
  have h10 := hc.2.1
  have hbs : bs.length ≤ 1048576 := by omega
  intro d
  induction d with
  | zero =>
    intro i hi
    refine Ev.succ ?_
    simp only [laws_FnOrder.l0]
    have hRl := reachedL_len bs
    have hsub : ∀ x ∈ reachedL bs, x ∈ orderL bs := fun x hx => (O.mem x).2 (mem_reachedL hx).2.2
    have hsub' : ∀ x ∈ orderL bs, x ∈ reachedL bs := by
      intro x hx
      have hre := (O.mem x).1 hx
      have hr := hre.range hc.2 (by omega)
      unfold reachedL
      rw [if_pos hc]
      exact (mem_idx0 _ x hr.1).2 ((reach_iff bs (-1) hc.2 (by omega) x hr.1).2 hre)
    have hnd : (reachedL bs).Nodup := by
      unfold reachedL
      rw [if_pos hc]
      exact (idx_lt _ _).imp (fun h => by omega)
    have hlen : (reachedL bs).length = (orderL bs).length := Nat.le_antisymm (nodup_len _ _ hnd hsub) (nodup_len _ _ O.nodup hsub')
    obtain ⟨v, hv⟩ := O.first
    refine Ev.ineg (by omega) (Ev.bind (implReached_ev p r bs hbs) (Ev.bind (within_ev _ _ (by omega) (by omega) hsub) (Ev.ipos rfl (Ev.ipos (by omega) (Ev.ipos (by rw [hv]; simp) (Ev.rw (Ev.now _) ?_))))))
    rw [hv]; rfl
  | succ d ih =>
    intro i hi
    have hlt : i < (orderL bs).length := by omega
    have hsplit : orderL bs = (orderL bs).take i ++ (orderL bs)[i] :: (orderL bs).drop (i + 1) := by
      rw [← List.drop_eq_getElem_cons hlt, List.take_append_drop]
    have hre := (O.mem _).1 (List.getElem_mem hlt)
    have hr := hre.range hc.2 (by omega)
    have hno : (orderL bs)[i] ∉ (orderL bs).take i := by
      have hn := O.nodup
      rw [hsplit, List.nodup_append] at hn
      intro h
      exact hn.2.2 _ h _ List.mem_cons_self rfl
    obtain ⟨R, hR, eR, hm⟩ := predsM_ev p r bs (orderL bs)[i] hc.2 hr
    obtain ⟨d0, ed, hN⟩ := idom_near p r bs (orderL bs)[i] hbs
    have hdom : d0 < 0 ∨ d0 ∈ (orderL bs).take i := by
      rcases hN with ⟨e, _⟩ | ⟨h0, hne, hD, _⟩
      · exact .inl (by omega)
      · right
        have hdr : 0 ≤ d0 ∧ d0 < (bs.length : Int) := by
          unfold dominatesB at hD
          by_cases c : (0 ≤ d0 ∧ d0 < (bs.length : Int)) ∧ There bs
          · exact c.1
          · rw [decide_eq_false c, Bool.false_and] at hD; cases hD
        exact O.dom _ _ _ hsplit d0 ((dominatesB_iff hc.2 hdr hr).1 hD) hne
    refine Ev.succ ?_
    simp only [laws_FnOrder.l0]
    rw [show rd (orderL bs) (i : Int) = (orderL bs)[i] from getD_at _ _ i hlt, show ((i : Int)).toNat = i from rfl]
    refine Ev.ipos (by omega) (Ev.ipos (by omega) (Ev.ipos (by omega) (Ev.bind (lhas_ev _ _ (by rw [List.length_take]; omega)) (Ev.ineg (by rw [decide_eq_false hno]; decide) (Ev.bind eR ?_)))))
    refine ahead_l p r bs (orderL bs) R i hlt hL hR d0 ed hdom (ih (i + 1) (by omega)) R.length 0 _ (by omega) ?_
    rcases O.pred _ _ _ hsplit with ⟨hu, _⟩ | ⟨y, hy, hb⟩
    · left
      have : i = 0 := by
        have := congrArg List.length hu
        rw [List.length_take, List.length_nil] at this
        omega
      subst this; rfl
    · right
      have hyr := ((O.mem y).1 (List.mem_of_mem_take hy)).range hc.2 (by omega)
      exact ⟨y, by rw [List.drop_zero]; exact hm y hyr.1 hyr.2 hb, hy⟩
theorem FnOrder : laws_FnOrder.Pure := by
  intro l _ _ hwf
  suffices e : Ev (fun k => laws_FnOrder.f k l) true from e.rounds
  have hl : ∀ x ∈ l, 0 ≤ x ∧ x ≤ 255 := fun x hx => by
    have := hwf x hx
    simp [Lit.wf, IntKind.min, IntKind.max, IntKind.signed, IntKind.bits] at this
    omega
  refine Ev.bind (Ev.cst rfl) ?_
  by_cases hbig : (l.length : Int) > 1048576
  · exact Ev.ipos (by simpa using hbig) (Ev.now true)
  · have hn : l.length ≤ 1048576 := by omega
    obtain ⟨ps, r, bs, p1, e1, hb, c1, d1⟩ := graph_ev l hl hn 0 (by omega) (by omega)
    have hDr : Ev (fun k => spec_DrawReached.f k l) (ps, r, bs) := Ev.bind (Ev.cst rfl) (Ev.bind e1 (Ev.now _))
    have hD : Ev (fun k => spec_DrawOrderOf.f k l) (ps, r, bs) := Ev.bind hDr (Ev.now _)
    have hbs : bs.length ≤ 1048576 := by omega
    have hL := orderL_len bs
    refine Ev.ineg (by simpa using hbig) (Ev.bind hD (Ev.bind (implOrder_ev ps r bs hbs) (Ev.bind (specOrder_ev ps r bs hbs) (Ev.bind (same_ev _ (by omega)) (Ev.ipos rfl ?_)))))
    by_cases hc : 1 ≤ bs.length ∧ There bs
    · obtain ⟨v, hv⟩ := (order_ordered bs hc).first
      have hz : (((orderL bs).length : Int) == 0) = false := by
        rw [hv]; simp; omega
      rw [hz]
      refine Ev.succ ?_
      simp only [laws_FnOrder.j0]
      exact Ev.ineg (by decide) (order_l0 ps r bs hc (orderL bs).length 0 (by omega))
    · have hv : orderL bs = [] := by unfold orderL; rw [if_neg hc]
      rw [hv]
      refine Ev.succ ?_
      simp only [laws_FnOrder.j0]
      have hso := specOrder_ev ps r bs hbs
      rw [hv] at hso
      exact Ev.ipos rfl (Ev.bind hso (Ev.bind (same_ev [] (by simp)) (Ev.now true)))
end Go.Proofs.Ytjkbafcepblacaa.Pure
