/- PROVED HERE: what the functions that the law FnExactConstOf reaches do in memory, each as a plain Lean function, and what these tell: part 3 of 4 of the proof of that law; no condition beyond those written out at each theorem. -/
import Derived.Deep.Slices
import Derived.ProofKit
import Derived.Test.YtjkbafcepblacaaZFnExactConstOf0
import Derived.Test.YtjkbafcepblacaaZFnExactConstOf1
namespace Go.Proofs.Ytjkbafcepblacaa.X
open Go.RowKit Go.Proofs.YtjkbafcepblacaaW.PrintWords Go.Proofs.YtjkbafcepblacaaW.PrintLast Go.Proofs.YtjkbafcepblacaaW.PrintMore
theorem far7_ {W : World} {g : Nat} {a : Addr} {u0 u1 u2 u3 u4 u5 u6 : Value} (h : a.block ≠ g) : (((((((W.setCell ⟨g, 0, none⟩ u0).setCell ⟨g, 1, none⟩ u1).setCell ⟨g, 2, none⟩ u2).setCell ⟨g, 3, none⟩ u3).setCell ⟨g, 4, none⟩ u4).setCell ⟨g, 5, none⟩ u5).setCell ⟨g, 6, none⟩ u6).cell? a = W.cell? a := by
 rw [cell_far h, cell_far h, cell_far h, cell_far h, cell_far h, cell_far h, cell_far h]
theorem far7h_ {W : World} {g : Nat} {a : Addr} {v : Value} {u0 u1 u2 u3 u4 u5 u6 : Value} (h0 : W.cell? a = some v) (h : a.block ≠ g) : (((((((W.setCell ⟨g, 0, none⟩ u0).setCell ⟨g, 1, none⟩ u1).setCell ⟨g, 2, none⟩ u2).setCell ⟨g, 3, none⟩ u3).setCell ⟨g, 4, none⟩ u4).setCell ⟨g, 5, none⟩ u5).setCell ⟨g, 6, none⟩ u6).cell? a = some v := (far7_ h).trans h0
theorem add_ne_ {ad : Addr} {n g : Nat} (h : ad.block ≠ g) : (ad.add n).block ≠ g := by rw [add_block]; exact h
attribute [local go_sem] max2_int min2_int max_two min_two max_three min_three max_four min_four   -- for this text's walks alone
set_option linter.unusedVariables false
set_option linter.unusedSimpArgs false
/-! ### impl_instOf: function 86 -/
def impl_instOf.f (k : Nat) (l0_0 : List Int) (a0_1 : Int) (l0_2 : List (S88)) (a1 : Int) : Option (Int × Int × Int × Int × Int × Int × List Int × Bool) := (impl_PlaceOf.f k l0_0 a0_1 l0_2 a1).bind fun bt935 => (if bt935.1 < 0 then (some (0, 0, 0, 0, 0, 0, ([] : List Int), false)) else (if 0 ≤ bt935.1 then (if bt935.1 < (l0_2.length : Int) then (if bt935.2 < (((rd_T88 l0_2 bt935.1).f0).length : Int) then (some (0, 0, 0, 0, 0, 0, ([] : List Int), false)) else (if 0 ≤ (wrap64 (bt935.2 - (((rd_T88 l0_2 bt935.1).f0).length : Int))) then (if (wrap64 (bt935.2 - (((rd_T88 l0_2 bt935.1).f0).length : Int))) < (((rd_T88 l0_2 bt935.1).f1).length : Int) then (some ((rd_T27 ((rd_T88 l0_2 bt935.1).f1) (wrap64 (bt935.2 - (((rd_T88 l0_2 bt935.1).f0).length : Int)))).f0, (rd_T27 ((rd_T88 l0_2 bt935.1).f1) (wrap64 (bt935.2 - (((rd_T88 l0_2 bt935.1).f0).length : Int)))).f1, (rd_T27 ((rd_T88 l0_2 bt935.1).f1) (wrap64 (bt935.2 - (((rd_T88 l0_2 bt935.1).f0).length : Int)))).f2, (rd_T27 ((rd_T88 l0_2 bt935.1).f1) (wrap64 (bt935.2 - (((rd_T88 l0_2 bt935.1).f0).length : Int)))).f3, (rd_T27 ((rd_T88 l0_2 bt935.1).f1) (wrap64 (bt935.2 - (((rd_T88 l0_2 bt935.1).f0).length : Int)))).f4, (rd_T27 ((rd_T88 l0_2 bt935.1).f1) (wrap64 (bt935.2 - (((rd_T88 l0_2 bt935.1).f0).length : Int)))).f5, (rd_T27 ((rd_T88 l0_2 bt935.1).f1) (wrap64 (bt935.2 - (((rd_T88 l0_2 bt935.1).f0).length : Int)))).f6, true)) else (none)) else (none))) else (none)) else (none)))
theorem impl_instOf.mono : ∀ a0 a1 a2 a3 k, LeO (impl_instOf.f k a0 a1 a2 a3) (impl_instOf.f (k + 1) a0 a1 a2 a3) := by
 intro a0 a1 a2 a3 k
 unfold impl_instOf.f
 repeat' first
   | (with_reducible exact impl_PlaceOf.mono _ _ _ _ _)
   | (with_reducible exact LeO.refl _)
   | (with_reducible exact LeO.none _)
   | (with_reducible refine LeO.ite ?_ ?_)
   | (with_reducible refine LeO.bind ?_ (fun _ => ?_))
   | exact impl_PlaceOf.mono _ _ _ _ _
   | exact LeO.none _
   | refine LeO.ite ?_ ?_
   | refine LeO.bind ?_ (fun _ => ?_)
def impl_instOf.T4 : Bool × List (List Nat × List Nat) := (true, [([], []), ([0], [0]), ([], []), ([1, 2], [1, 2]), ([3], [3]), ([4], [4]), ([], []), ([], []), ([7], [7]), ([], []), ([8, 9], [8, 9]), ([10], [10]), ([11], [11]), ([12], [12]), ([6, 13], [6, 13]), ([5, 14], [5, 14]), ([15], [15]), ([16, 0, 1, 2, 3, 4, 5, 6, 7, 8, 9, 10, 11, 12, 13, 14, 15, 16], [16]), ([17, 0, 1, 2, 3, 4, 5, 6, 7, 8, 9, 10, 11, 12, 13, 14, 15, 16, 17], [])])
def impl_instOf.B4 : List Nat := [0, 1, 0, 7, 15, 31, 0, 0, 128, 0, 896, 1920, 3968, 8064, 16320, 32767, 65535, 131071, 262143]
theorem impl_instOf.tab4 : rtab .any (opsOf Try.f86 4) = impl_instOf.T4 := by kernel_rfl
theorem impl_instOf.bits4 : waitsOk impl_instOf.T4.2 impl_instOf.B4 = true := by kernel_rfl
set_option maxHeartbeats 8000000 in
set_option maxRecDepth 100000 in
theorem impl_instOf.calls (k : Nat) (A0_0 : Option Addr) (c0_0 : Nat) (l0_0 : List Int) (a0_1 : Int) (P0_2_ : Nat → Prop) (A0_2 : Option Addr) (c0_2 : Nat) (l0_2 : List (S88)) (a1 : Int) (r1 : Int) (r2 : Int) (r3 : Int) (r4 : Int) (r5 : Int) (r6 : Int) (r7 : List Int) (r8 : Bool) (w : World) (hr0_0 : Kd.C (Kd.int .i64) w A0_0 l0_0.length l0_0) (hc0_0 : l0_0.length ≤ c0_0) (hs0_2 : Kd.V k88 88 w w.heap.size (fun k_ => P0_2_ k_) (.slice A0_2 l0_2.length c0_2) l0_2) (h : impl_instOf.f k l0_0 a0_1 l0_2 a1 = some (r1, r2, r3, r4, r5, r6, r7, r8)) :
  Calls Try.prog 86 #[.agg #[.slice A0_0 l0_0.length c0_0, .int .i64 a0_1, .slice A0_2 l0_2.length c0_2], .int .i64 a1] w fun e w' => ∃ v6_ : Value, e = .returned (.tuple #[.agg #[.int .i64 r1, .int .i64 r2, .int .i64 r3, .int .i64 r4, .int .i64 r5, .int .i64 r6, v6_], .bool r8]) ∧ Kd.V (Kd.int .i64) 2 w' w.heap.size (fun k_ => (P0_2_ k_ ∨ w.heap.size ≤ k_)) v6_ r7 ∧ Below w.heap.size w w' := by
 have hu41 := Try.underlying41
 have hu27 := Try.underlying27
 have HR0_0 := Aside0.mk hr0_0
 have HC0_0 := Aside0.mk hc0_0
 clear hr0_0 hc0_0
 have HO0_2 := Aside0.mk (show Kd.V k88 88 w w.heap.size (fun k_ => (P0_2_ k_ ∨ w.heap.size ≤ k_)) (.slice A0_2 l0_2.length c0_2) l0_2 from Kd.V_mono hs0_2 (fun k_ hk => .inl hk))
 have HCw := Aside0.mk (Kd.V_reads' hs0_2).2.2
 have HB := Aside0.mk (Below.refl w.heap.size w)
 have H : ((impl_PlaceOf.f k l0_0 a0_1 l0_2 a1).bind fun bt935 => (if bt935.1 < 0 then (some (0, 0, 0, 0, 0, 0, ([] : List Int), false)) else (if 0 ≤ bt935.1 then (if bt935.1 < (l0_2.length : Int) then (if bt935.2 < (((rd_T88 l0_2 bt935.1).f0).length : Int) then (some (0, 0, 0, 0, 0, 0, ([] : List Int), false)) else (if 0 ≤ (wrap64 (bt935.2 - (((rd_T88 l0_2 bt935.1).f0).length : Int))) then (if (wrap64 (bt935.2 - (((rd_T88 l0_2 bt935.1).f0).length : Int))) < (((rd_T88 l0_2 bt935.1).f1).length : Int) then (some ((rd_T27 ((rd_T88 l0_2 bt935.1).f1) (wrap64 (bt935.2 - (((rd_T88 l0_2 bt935.1).f0).length : Int)))).f0, (rd_T27 ((rd_T88 l0_2 bt935.1).f1) (wrap64 (bt935.2 - (((rd_T88 l0_2 bt935.1).f0).length : Int)))).f1, (rd_T27 ((rd_T88 l0_2 bt935.1).f1) (wrap64 (bt935.2 - (((rd_T88 l0_2 bt935.1).f0).length : Int)))).f2, (rd_T27 ((rd_T88 l0_2 bt935.1).f1) (wrap64 (bt935.2 - (((rd_T88 l0_2 bt935.1).f0).length : Int)))).f3, (rd_T27 ((rd_T88 l0_2 bt935.1).f1) (wrap64 (bt935.2 - (((rd_T88 l0_2 bt935.1).f0).length : Int)))).f4, (rd_T27 ((rd_T88 l0_2 bt935.1).f1) (wrap64 (bt935.2 - (((rd_T88 l0_2 bt935.1).f0).length : Int)))).f5, (rd_T27 ((rd_T88 l0_2 bt935.1).f1) (wrap64 (bt935.2 - (((rd_T88 l0_2 bt935.1).f0).length : Int)))).f6, true)) else (none)) else (none))) else (none)) else (none)))) = some (r1, r2, r3, r4, r5, r6, r7, r8) := h
 clear h
 replace H := Option.bind_eq_some_iff.mp H
 obtain ⟨⟨t935, t936⟩, A30, H⟩ := H
 replace H : (if t935 < 0 then (some (0, 0, 0, 0, 0, 0, ([] : List Int), false)) else (if 0 ≤ t935 then (if t935 < (l0_2.length : Int) then (if t936 < (((rd_T88 l0_2 t935).f0).length : Int) then (some (0, 0, 0, 0, 0, 0, ([] : List Int), false)) else (if 0 ≤ (wrap64 (t936 - (((rd_T88 l0_2 t935).f0).length : Int))) then (if (wrap64 (t936 - (((rd_T88 l0_2 t935).f0).length : Int))) < (((rd_T88 l0_2 t935).f1).length : Int) then (some ((rd_T27 ((rd_T88 l0_2 t935).f1) (wrap64 (t936 - (((rd_T88 l0_2 t935).f0).length : Int)))).f0, (rd_T27 ((rd_T88 l0_2 t935).f1) (wrap64 (t936 - (((rd_T88 l0_2 t935).f0).length : Int)))).f1, (rd_T27 ((rd_T88 l0_2 t935).f1) (wrap64 (t936 - (((rd_T88 l0_2 t935).f0).length : Int)))).f2, (rd_T27 ((rd_T88 l0_2 t935).f1) (wrap64 (t936 - (((rd_T88 l0_2 t935).f0).length : Int)))).f3, (rd_T27 ((rd_T88 l0_2 t935).f1) (wrap64 (t936 - (((rd_T88 l0_2 t935).f0).length : Int)))).f4, (rd_T27 ((rd_T88 l0_2 t935).f1) (wrap64 (t936 - (((rd_T88 l0_2 t935).f0).length : Int)))).f5, (rd_T27 ((rd_T88 l0_2 t935).f1) (wrap64 (t936 - (((rd_T88 l0_2 t935).f0).length : Int)))).f6, true)) else (none)) else (none))) else (none)) else (none))) = some (r1, r2, r3, r4, r5, r6, r7, r8) := H
 have A3 := Aside0.mk A30
 clear A30
 by_cases c4 : t935 < 0
 ·rw [if_pos c4] at H
  have c4b0 : decide (t935 < 0) = true := decide_eq_true c4
  clear c4
  simp only [Option.some.injEq, Prod.mk.injEq] at H
  obtain ⟨rfl, rfl, rfl, rfl, rfl, rfl, rfl, rfl⟩ := H
  go_enter Try.func86, Try.ntmps86
  go_wp2_with (first | ((with_reducible refine gate_dst (N := 2) rfl ?_); (try (refine gate_guard (by rfl) ?_; dsimp only)); refine box_event ?hg (N := 2) ?hd (cs := #[.slice A0_0 l0_0.length c0_0, .int .i64 a0_1, .slice A0_2 l0_2.length c0_2]) (t := 41) ?hr ?_; (case hd => rfl); (case hg => rfl); (case hr => first | (go_simp; done) | (go_simp; rfl)); intro gb933 hg w5 hbox hb; have n0_ := Aside0.mk (Kd.V_below (Kd.V_elderB (by (with_reducible repeat (first | apply Kd.V_alloc | apply Kd.V_drewN | apply Kd.V_drew)); exact HO0_2.out) gb933 (Nat.le_of_eq hg.symm)) hb); have n1_ := Aside0.mk (below_step hB_ hb); have n2_ := Aside0.mk (hbox); have n3_ := Aside0.mk ((sz_ hg (below_size hB_) : w.heap.size ≤ gb933)); have n4_ := Aside0.mk ((sz_ hg (below_size hB_) : w.heap.size ≤ gb933)); clear HO0_2; clear HB; have HO0_2 := n0_; have HB := n1_; have BK933 := n2_; have GW933 := n3_; have GE933 := n4_; clear n0_ n1_ n2_ n3_ n4_; clear hb hbox hg) | ((with_reducible refine gate_dst (N := 4) rfl ?_); (try (refine gate_guard (by rfl) ?_; dsimp only)); refine box_event ?hg (N := 4) ?hd (cs := #[.int .i64 0, .int .i64 0, .int .i64 0, .int .i64 0, .int .i64 0, .int .i64 0, .slice none 0 0]) (t := 27) ?hr ?_; (case hd => rfl); (case hg => rfl); (case hr => first | (go_simp; done) | (go_simp; rfl)); intro gb934 hg w6 hbox hb; have n0_ := Aside0.mk (Kd.V_below (Kd.V_elderB (by (with_reducible repeat (first | apply Kd.V_alloc | apply Kd.V_drewN | apply Kd.V_drew)); exact HO0_2.out) gb934 (Nat.le_of_eq hg.symm)) hb); have n1_ := Aside0.mk (blk_below (g := gb933) (o := .cells #[.slice A0_0 l0_0.length c0_0, .int .i64 a0_1, .slice A0_2 l0_2.length c0_2] 41 (0, 0)) bK933_ hb); have n2_ := Aside0.mk (below_step hS_ hb); have n3_ := Aside0.mk (hbox); have n4_ := Aside0.mk ((sz_ hg (below_size hS_) : w.heap.size ≤ gb934)); have n5_ := Aside0.mk ((sz_ hg (below_size hS_) : w.heap.size ≤ gb934)); have n6_ := Aside0.mk ((by rw [hg]; exact Nat.ne_of_lt (blk_lt (g := gb933) (o := .cells #[.slice A0_0 l0_0.length c0_0, .int .i64 a0_1, .slice A0_2 l0_2.length c0_2] 41 (0, 0)) bK933_) : gb933 ≠ gb934)); have n7_ := Aside0.mk ((by rw [hg]; exact Nat.ne_of_gt (blk_lt (g := gb933) (o := .cells #[.slice A0_0 l0_0.length c0_0, .int .i64 a0_1, .slice A0_2 l0_2.length c0_2] 41 (0, 0)) bK933_) : gb934 ≠ gb933)); clear HO0_2; clear BK933; clear HB; have HO0_2 := n0_; have BK933 := n1_; have HB := n2_; have BK934 := n3_; have GW934 := n4_; have GE934 := n5_; have NB933_934 := n6_; have NB934_933 := n7_; clear n0_ n1_ n2_ n3_ n4_ n5_ n6_ n7_; clear hb hbox hg; have hnb7 := NB933_934.out; have hnc7 := NB934_933.out; obtain ⟨hcz8_0, hcz8_1, hcz8_2, hfz8_0, hfz8_1, hfz8_2⟩ := blkc3_ BK933.out) | ((with_reducible refine gate_callee (f := 46) rfl ?_); refine gL_ (some 11) Try.func46 #[.agg #[.slice A0_0 l0_0.length c0_0, .int .i64 a0_1, .slice A0_2 l0_2.length c0_2], .int .i64 a1] ?_; (with_reducible refine (impl_PlaceOf.calls k _ _ l0_0 a0_1 _ _ l0_2 a1 t935 t936 _ ?side1 ?side2 ?side3 ?side4 A3.out).mono ?_); (case side1 => exact cHR0_0_); (case side2 => exact HC0_0.out); (case side3 => repeat (first | exact (Kd.V_reads' HO0_2.out).2.2 | (with_reducible refine Kd.C_alloc ?_ _) | (with_reducible refine Kd.C_drewN ?_ _) | (with_reducible refine Kd.C_drew ?_))); (case side4 => exact (Kd.V_reads' HO0_2.out).2.1); rintro e w9 ⟨rfl, hb⟩; refine ⟨_, rfl, ?_⟩; have n0_ := Aside0.mk (Kd.V_below (by (with_reducible repeat (first | apply Kd.V_alloc | apply Kd.V_drewN | apply Kd.V_drew)); exact HO0_2.out) hb); have n1_ := Aside0.mk (blk_below (g := gb933) (o := .cells #[.slice A0_0 l0_0.length c0_0, .int .i64 a0_1, .slice A0_2 l0_2.length c0_2] 41 (0, 0)) bK933_ hb); have n2_ := Aside0.mk (blk_below (g := gb934) (o := .cells #[.int .i64 0, .int .i64 0, .int .i64 0, .int .i64 0, .int .i64 0, .int .i64 0, .slice none 0 0] 27 (0, 0)) bK934_ hb); have n3_ := Aside0.mk (below_step hS_ hb); clear HO0_2; clear BK933; clear BK934; clear HB; have HO0_2 := n0_; have BK933 := n1_; have BK934 := n2_; have HB := n3_; clear n0_ n1_ n2_ n3_; (try clear hb); (try clear hb2); (try clear hk); (try clear hi); obtain ⟨hcz10_0, hcz10_1, hcz10_2, hcz10_3, hcz10_4, hcz10_5, hcz10_6, hfz10_0, hfz10_1, hfz10_2, hfz10_3, hfz10_4, hfz10_5, hfz10_6⟩ := blkc7_ BK934.out))
  refine bodyPost_ret (results_ct rfl _ _ gb934 27 #[.int .i64 0, .int .i64 0, .int .i64 0, .int .i64 0, .int .i64 0, .int .i64 0, .slice none 0 0] (0, 0) _ rfl (by (with_reducible repeat (first | refine blk_drewN ?_ _ | refine blk_drew ?_ | refine blk_alloc ?_ _)); refine blk_put (cs := #[.int .i64 0, .int .i64 0, .int .i64 0, .int .i64 0, .int .i64 0, .int .i64 0, .slice none 0 0]) ?_ 6 _ rfl; (with_reducible repeat (first | refine blk_drewN ?_ _ | refine blk_drew ?_ | refine blk_alloc ?_ _)); refine blk_put (cs := #[.int .i64 0, .int .i64 0, .int .i64 0, .int .i64 0, .int .i64 0, .int .i64 0, .slice none 0 0]) ?_ 5 _ rfl; (with_reducible repeat (first | refine blk_drewN ?_ _ | refine blk_drew ?_ | refine blk_alloc ?_ _)); refine blk_put (cs := #[.int .i64 0, .int .i64 0, .int .i64 0, .int .i64 0, .int .i64 0, .int .i64 0, .slice none 0 0]) ?_ 4 _ rfl; (with_reducible repeat (first | refine blk_drewN ?_ _ | refine blk_drew ?_ | refine blk_alloc ?_ _)); refine blk_put (cs := #[.int .i64 0, .int .i64 0, .int .i64 0, .int .i64 0, .int .i64 0, .int .i64 0, .slice none 0 0]) ?_ 3 _ rfl; (with_reducible repeat (first | refine blk_drewN ?_ _ | refine blk_drew ?_ | refine blk_alloc ?_ _)); refine blk_put (cs := #[.int .i64 0, .int .i64 0, .int .i64 0, .int .i64 0, .int .i64 0, .int .i64 0, .slice none 0 0]) ?_ 2 _ rfl; (with_reducible repeat (first | refine blk_drewN ?_ _ | refine blk_drew ?_ | refine blk_alloc ?_ _)); refine blk_put (cs := #[.int .i64 0, .int .i64 0, .int .i64 0, .int .i64 0, .int .i64 0, .int .i64 0, .slice none 0 0]) ?_ 1 _ rfl; (with_reducible repeat (first | refine blk_drewN ?_ _ | refine blk_drew ?_ | refine blk_alloc ?_ _)); refine blk_put (cs := #[.int .i64 0, .int .i64 0, .int .i64 0, .int .i64 0, .int .i64 0, .int .i64 0, .slice none 0 0]) ?_ 0 _ rfl; (with_reducible repeat (first | refine blk_drewN ?_ _ | refine blk_drew ?_ | refine blk_alloc ?_ _)); exact BK934.out) Try.underlying27 rfl (by kernel_rfl)) rfl ?_
  exact ⟨_, rG_, (by first | exact Kd.V_nil _ _ _ _ _), hS_⟩
 ·rw [if_neg c4] at H
  have c4b0 : decide (t935 < 0) = false := decide_eq_false c4
  clear c4
  by_cases c11 : 0 ≤ t935
  ·rw [if_pos c11] at H
   have c11b0 : decide (0 ≤ t935) = true := decide_eq_true c11
   clear c11
   by_cases c12 : t935 < (l0_2.length : Int)
   ·rw [if_pos c12] at H
    have c12b0 : decide (t935 < (l0_2.length : Int)) = true := decide_eq_true c12
    clear c12
    by_cases c13 : t936 < (((rd_T88 l0_2 t935).f0).length : Int)
    ·rw [if_pos c13] at H
     have c13b0 : decide (t936 < (((rd_T88 l0_2 t935).f0).length : Int)) = true := decide_eq_true c13
     clear c13
     simp only [Option.some.injEq, Prod.mk.injEq] at H
     obtain ⟨rfl, rfl, rfl, rfl, rfl, rfl, rfl, rfl⟩ := H
     go_enter Try.func86, Try.ntmps86
     go_wp2_with (first | ((with_reducible refine gate_dst (N := 2) rfl ?_); (try (refine gate_guard (by rfl) ?_; dsimp only)); refine box_event ?hg (N := 2) ?hd (cs := #[.slice A0_0 l0_0.length c0_0, .int .i64 a0_1, .slice A0_2 l0_2.length c0_2]) (t := 41) ?hr ?_; (case hd => rfl); (case hg => rfl); (case hr => first | (go_simp; done) | (go_simp; rfl)); intro gb933 hg w14 hbox hb; have n0_ := Aside0.mk (Kd.V_below (Kd.V_elderB (by (with_reducible repeat (first | apply Kd.V_alloc | apply Kd.V_drewN | apply Kd.V_drew)); exact HO0_2.out) gb933 (Nat.le_of_eq hg.symm)) hb); have n1_ := Aside0.mk (below_step hB_ hb); have n2_ := Aside0.mk (hbox); have n3_ := Aside0.mk ((sz_ hg (below_size hB_) : w.heap.size ≤ gb933)); have n4_ := Aside0.mk ((sz_ hg (below_size hB_) : w.heap.size ≤ gb933)); clear HO0_2; clear HB; have HO0_2 := n0_; have HB := n1_; have BK933 := n2_; have GW933 := n3_; have GE933 := n4_; clear n0_ n1_ n2_ n3_ n4_; clear hb hbox hg) | ((with_reducible refine gate_dst (N := 4) rfl ?_); (try (refine gate_guard (by rfl) ?_; dsimp only)); refine box_event ?hg (N := 4) ?hd (cs := #[.int .i64 0, .int .i64 0, .int .i64 0, .int .i64 0, .int .i64 0, .int .i64 0, .slice none 0 0]) (t := 27) ?hr ?_; (case hd => rfl); (case hg => rfl); (case hr => first | (go_simp; done) | (go_simp; rfl)); intro gb934 hg w15 hbox hb; have n0_ := Aside0.mk (Kd.V_below (Kd.V_elderB (by (with_reducible repeat (first | apply Kd.V_alloc | apply Kd.V_drewN | apply Kd.V_drew)); exact HO0_2.out) gb934 (Nat.le_of_eq hg.symm)) hb); have n1_ := Aside0.mk (blk_below (g := gb933) (o := .cells #[.slice A0_0 l0_0.length c0_0, .int .i64 a0_1, .slice A0_2 l0_2.length c0_2] 41 (0, 0)) bK933_ hb); have n2_ := Aside0.mk (below_step hS_ hb); have n3_ := Aside0.mk (hbox); have n4_ := Aside0.mk ((sz_ hg (below_size hS_) : w.heap.size ≤ gb934)); have n5_ := Aside0.mk ((sz_ hg (below_size hS_) : w.heap.size ≤ gb934)); have n6_ := Aside0.mk ((by rw [hg]; exact Nat.ne_of_lt (blk_lt (g := gb933) (o := .cells #[.slice A0_0 l0_0.length c0_0, .int .i64 a0_1, .slice A0_2 l0_2.length c0_2] 41 (0, 0)) bK933_) : gb933 ≠ gb934)); have n7_ := Aside0.mk ((by rw [hg]; exact Nat.ne_of_gt (blk_lt (g := gb933) (o := .cells #[.slice A0_0 l0_0.length c0_0, .int .i64 a0_1, .slice A0_2 l0_2.length c0_2] 41 (0, 0)) bK933_) : gb934 ≠ gb933)); clear HO0_2; clear BK933; clear HB; have HO0_2 := n0_; have BK933 := n1_; have HB := n2_; have BK934 := n3_; have GW934 := n4_; have GE934 := n5_; have NB933_934 := n6_; have NB934_933 := n7_; clear n0_ n1_ n2_ n3_ n4_ n5_ n6_ n7_; clear hb hbox hg; have hnb16 := NB933_934.out; have hnc16 := NB934_933.out; obtain ⟨hcz17_0, hcz17_1, hcz17_2, hfz17_0, hfz17_1, hfz17_2⟩ := blkc3_ BK933.out) | ((with_reducible refine gate_callee (f := 46) rfl ?_); refine gL_ (some 11) Try.func46 #[.agg #[.slice A0_0 l0_0.length c0_0, .int .i64 a0_1, .slice A0_2 l0_2.length c0_2], .int .i64 a1] ?_; (with_reducible refine (impl_PlaceOf.calls k _ _ l0_0 a0_1 _ _ l0_2 a1 t935 t936 _ ?side1 ?side2 ?side3 ?side4 A3.out).mono ?_); (case side1 => exact cHR0_0_); (case side2 => exact HC0_0.out); (case side3 => repeat (first | exact (Kd.V_reads' HO0_2.out).2.2 | (with_reducible refine Kd.C_alloc ?_ _) | (with_reducible refine Kd.C_drewN ?_ _) | (with_reducible refine Kd.C_drew ?_))); (case side4 => exact (Kd.V_reads' HO0_2.out).2.1); rintro e w18 ⟨rfl, hb⟩; refine ⟨_, rfl, ?_⟩; have n0_ := Aside0.mk (Kd.V_below (by (with_reducible repeat (first | apply Kd.V_alloc | apply Kd.V_drewN | apply Kd.V_drew)); exact HO0_2.out) hb); have n1_ := Aside0.mk (blk_below (g := gb933) (o := .cells #[.slice A0_0 l0_0.length c0_0, .int .i64 a0_1, .slice A0_2 l0_2.length c0_2] 41 (0, 0)) bK933_ hb); have n2_ := Aside0.mk (blk_below (g := gb934) (o := .cells #[.int .i64 0, .int .i64 0, .int .i64 0, .int .i64 0, .int .i64 0, .int .i64 0, .slice none 0 0] 27 (0, 0)) bK934_ hb); have n3_ := Aside0.mk (below_step hS_ hb); clear HO0_2; clear BK933; clear BK934; clear HB; have HO0_2 := n0_; have BK933 := n1_; have BK934 := n2_; have HB := n3_; clear n0_ n1_ n2_ n3_; (try clear hb); (try clear hb2); (try clear hk); (try clear hi); obtain ⟨hcz19_0, hcz19_1, hcz19_2, hfz19_0, hfz19_1, hfz19_2⟩ := blkc3_ BK933.out; have p937 : 0 ≤ (t935 : Int) := oD_; have q937 : t935 < (l0_2.length : Int) := oD_; obtain ⟨ad937, A937_0, c937_0, A937_1, c937_1, e937, hx937_0, hx937_1, hx937_2, hx937_3, hx937_4, hx937_5, hl937_0, hi937_0, hl937_1, hi937_1⟩ := at_T88 (Kd.V_reads' HO0_2.out).2.2 t935 p937 q937; cases e937; obtain ⟨ce937, hce937, hMe937, hcc937⟩ := Kd.V_get HO0_2.out z88 t935 p937 (by first | exact q937 | exact oD_ | (have e_ := (Kd.V_reads' HO0_2.out).1; omega)); obtain ⟨ua937_0, uc937_0, ua937_1, uc937_1, rfl, ul937_0, ge937_0, ul937_1, ge937_1⟩ := k88_openF hMe937; have hv937_0 := hcc937 0 _ rfl; rw [Nat.add_zero] at hv937_0; replace hv937_0 := Option.some.inj (hv937_0.symm.trans hx937_0); injection hv937_0 with hva_ hvn_ hvc_; rw [hva_] at ge937_0; rw [hvc_] at ul937_0; have HL937_0 := Aside0.mk (show Kd.V k95 95 _ w.heap.size _ _ ((rd_T88 l0_2 t935).f0) from Kd.V_mk ul937_0 ge937_0); clear hva_ hvn_ hvc_ ge937_0 ul937_0; have hv937_1 := hcc937 1 _ rfl; rw [add_field _ _ 1 (by omega)] at hv937_1; replace hv937_1 := Option.some.inj (hv937_1.symm.trans hx937_1); injection hv937_1 with hva_ hvn_ hvc_; rw [hva_] at ge937_1; rw [hvc_] at ul937_1; have HL937_1 := Aside0.mk (show Kd.V k27 27 _ w.heap.size _ _ ((rd_T88 l0_2 t935).f1) from Kd.V_mk ul937_1 ge937_1); clear hva_ hvn_ hvc_ ge937_1 ul937_1; clear hcc937 hce937; have HR937_0 := Aside0.mk hi937_0; have HC937_0 := Aside0.mk hl937_0; clear hi937_0 hl937_0; have HR937_1 := Aside0.mk hi937_1; have HC937_1 := Aside0.mk hl937_1; clear hi937_1 hl937_1; replace p937 := eq_true p937; replace q937 := eq_true q937; obtain ⟨hcz20_0, hcz20_1, hcz20_2, hcz20_3, hcz20_4, hcz20_5, hcz20_6, hfz20_0, hfz20_1, hfz20_2, hfz20_3, hfz20_4, hfz20_5, hfz20_6⟩ := blkc7_ BK934.out))
     refine bodyPost_ret (results_ct rfl _ _ gb934 27 #[.int .i64 0, .int .i64 0, .int .i64 0, .int .i64 0, .int .i64 0, .int .i64 0, .slice none 0 0] (0, 0) _ rfl (by (with_reducible repeat (first | refine blk_drewN ?_ _ | refine blk_drew ?_ | refine blk_alloc ?_ _)); refine blk_put (cs := #[.int .i64 0, .int .i64 0, .int .i64 0, .int .i64 0, .int .i64 0, .int .i64 0, .slice none 0 0]) ?_ 6 _ rfl; (with_reducible repeat (first | refine blk_drewN ?_ _ | refine blk_drew ?_ | refine blk_alloc ?_ _)); refine blk_put (cs := #[.int .i64 0, .int .i64 0, .int .i64 0, .int .i64 0, .int .i64 0, .int .i64 0, .slice none 0 0]) ?_ 5 _ rfl; (with_reducible repeat (first | refine blk_drewN ?_ _ | refine blk_drew ?_ | refine blk_alloc ?_ _)); refine blk_put (cs := #[.int .i64 0, .int .i64 0, .int .i64 0, .int .i64 0, .int .i64 0, .int .i64 0, .slice none 0 0]) ?_ 4 _ rfl; (with_reducible repeat (first | refine blk_drewN ?_ _ | refine blk_drew ?_ | refine blk_alloc ?_ _)); refine blk_put (cs := #[.int .i64 0, .int .i64 0, .int .i64 0, .int .i64 0, .int .i64 0, .int .i64 0, .slice none 0 0]) ?_ 3 _ rfl; (with_reducible repeat (first | refine blk_drewN ?_ _ | refine blk_drew ?_ | refine blk_alloc ?_ _)); refine blk_put (cs := #[.int .i64 0, .int .i64 0, .int .i64 0, .int .i64 0, .int .i64 0, .int .i64 0, .slice none 0 0]) ?_ 2 _ rfl; (with_reducible repeat (first | refine blk_drewN ?_ _ | refine blk_drew ?_ | refine blk_alloc ?_ _)); refine blk_put (cs := #[.int .i64 0, .int .i64 0, .int .i64 0, .int .i64 0, .int .i64 0, .int .i64 0, .slice none 0 0]) ?_ 1 _ rfl; (with_reducible repeat (first | refine blk_drewN ?_ _ | refine blk_drew ?_ | refine blk_alloc ?_ _)); refine blk_put (cs := #[.int .i64 0, .int .i64 0, .int .i64 0, .int .i64 0, .int .i64 0, .int .i64 0, .slice none 0 0]) ?_ 0 _ rfl; (with_reducible repeat (first | refine blk_drewN ?_ _ | refine blk_drew ?_ | refine blk_alloc ?_ _)); exact BK934.out) Try.underlying27 rfl (by kernel_rfl)) rfl ?_
     exact ⟨_, rG_, (by first | exact Kd.V_nil _ _ _ _ _), hS_⟩
    ·rw [if_neg c13] at H
     have c13b0 : decide (t936 < (((rd_T88 l0_2 t935).f0).length : Int)) = false := decide_eq_false c13
     clear c13
     obtain ⟨ji21, hji21⟩ : ∃ j_ : Int, (wrap64 (t936 - (((rd_T88 l0_2 t935).f0).length : Int))) = j_ := ⟨_, rfl⟩
     replace H : (if 0 ≤ (ji21) then (if (ji21) < (((rd_T88 l0_2 t935).f1).length : Int) then (some ((rd_T27 ((rd_T88 l0_2 t935).f1) (ji21)).f0, (rd_T27 ((rd_T88 l0_2 t935).f1) (ji21)).f1, (rd_T27 ((rd_T88 l0_2 t935).f1) (ji21)).f2, (rd_T27 ((rd_T88 l0_2 t935).f1) (ji21)).f3, (rd_T27 ((rd_T88 l0_2 t935).f1) (ji21)).f4, (rd_T27 ((rd_T88 l0_2 t935).f1) (ji21)).f5, (rd_T27 ((rd_T88 l0_2 t935).f1) (ji21)).f6, true)) else (none)) else (none)) = some (r1, r2, r3, r4, r5, r6, r7, r8) := by first | (rw [hji21] at H; exact H) | (simp only [hji21] at H ⊢; exact H)
     (try rw [hji21] at A3)
     have hji21w : (IntKind.i64.wrap (t936 - (((rd_T88 l0_2 t935).f0).length : Int))) = ji21 := (i64_w _).trans hji21
     by_cases c22 : 0 ≤ (ji21)
     ·rw [if_pos c22] at H
      have c22b0 : decide (0 ≤ (ji21)) = true := decide_eq_true c22
      clear c22
      by_cases c23 : (ji21) < (((rd_T88 l0_2 t935).f1).length : Int)
      ·rw [if_pos c23] at H
       have c23b0 : decide ((ji21) < (((rd_T88 l0_2 t935).f1).length : Int)) = true := decide_eq_true c23
       clear c23
       simp only [Option.some.injEq, Prod.mk.injEq] at H
       obtain ⟨rfl, rfl, rfl, rfl, rfl, rfl, rfl, rfl⟩ := H
       go_enter Try.func86, Try.ntmps86
       try go_wp2_with (first | ((with_reducible refine gate_dst (N := 2) rfl ?_); (try (refine gate_guard (by rfl) ?_; dsimp only)); refine box_event ?hg (N := 2) ?hd (cs := #[.slice A0_0 l0_0.length c0_0, .int .i64 a0_1, .slice A0_2 l0_2.length c0_2]) (t := 41) ?hr ?_; (case hd => rfl); (case hg => rfl); (case hr => first | (go_simp; done) | (go_simp; rfl)); intro gb933 hg w24 hbox hb; have n0_ := Aside0.mk (Kd.V_below (Kd.V_elderB (by (with_reducible repeat (first | apply Kd.V_alloc | apply Kd.V_drewN | apply Kd.V_drew)); exact HO0_2.out) gb933 (Nat.le_of_eq hg.symm)) hb); have n1_ := Aside0.mk (below_step hB_ hb); have n2_ := Aside0.mk (hbox); have n3_ := Aside0.mk ((sz_ hg (below_size hB_) : w.heap.size ≤ gb933)); have n4_ := Aside0.mk ((sz_ hg (below_size hB_) : w.heap.size ≤ gb933)); clear HO0_2; clear HB; have HO0_2 := n0_; have HB := n1_; have BK933 := n2_; have GW933 := n3_; have GE933 := n4_; clear n0_ n1_ n2_ n3_ n4_; clear hb hbox hg) | ((with_reducible refine gate_dst (N := 4) rfl ?_); (try (refine gate_guard (by rfl) ?_; dsimp only)); refine box_event ?hg (N := 4) ?hd (cs := #[.int .i64 0, .int .i64 0, .int .i64 0, .int .i64 0, .int .i64 0, .int .i64 0, .slice none 0 0]) (t := 27) ?hr ?_; (case hd => rfl); (case hg => rfl); (case hr => first | (go_simp; done) | (go_simp; rfl)); intro gb934 hg w25 hbox hb; have n0_ := Aside0.mk (Kd.V_below (Kd.V_elderB (by (with_reducible repeat (first | apply Kd.V_alloc | apply Kd.V_drewN | apply Kd.V_drew)); exact HO0_2.out) gb934 (Nat.le_of_eq hg.symm)) hb); have n1_ := Aside0.mk (blk_below (g := gb933) (o := .cells #[.slice A0_0 l0_0.length c0_0, .int .i64 a0_1, .slice A0_2 l0_2.length c0_2] 41 (0, 0)) bK933_ hb); have n2_ := Aside0.mk (below_step hS_ hb); have n3_ := Aside0.mk (hbox); have n4_ := Aside0.mk ((sz_ hg (below_size hS_) : w.heap.size ≤ gb934)); have n5_ := Aside0.mk ((sz_ hg (below_size hS_) : w.heap.size ≤ gb934)); have n6_ := Aside0.mk ((by rw [hg]; exact Nat.ne_of_lt (blk_lt (g := gb933) (o := .cells #[.slice A0_0 l0_0.length c0_0, .int .i64 a0_1, .slice A0_2 l0_2.length c0_2] 41 (0, 0)) bK933_) : gb933 ≠ gb934)); have n7_ := Aside0.mk ((by rw [hg]; exact Nat.ne_of_gt (blk_lt (g := gb933) (o := .cells #[.slice A0_0 l0_0.length c0_0, .int .i64 a0_1, .slice A0_2 l0_2.length c0_2] 41 (0, 0)) bK933_) : gb934 ≠ gb933)); clear HO0_2; clear BK933; clear HB; have HO0_2 := n0_; have BK933 := n1_; have HB := n2_; have BK934 := n3_; have GW934 := n4_; have GE934 := n5_; have NB933_934 := n6_; have NB934_933 := n7_; clear n0_ n1_ n2_ n3_ n4_ n5_ n6_ n7_; clear hb hbox hg; have hnb26 := NB933_934.out; have hnc26 := NB934_933.out; obtain ⟨hcz27_0, hcz27_1, hcz27_2, hfz27_0, hfz27_1, hfz27_2⟩ := blkc3_ BK933.out) | ((with_reducible refine gate_callee (f := 46) rfl ?_); refine gL_ (some 11) Try.func46 #[.agg #[.slice A0_0 l0_0.length c0_0, .int .i64 a0_1, .slice A0_2 l0_2.length c0_2], .int .i64 a1] ?_; (with_reducible refine (impl_PlaceOf.calls k _ _ l0_0 a0_1 _ _ l0_2 a1 t935 t936 _ ?side1 ?side2 ?side3 ?side4 A3.out).mono ?_); (case side1 => exact cHR0_0_); (case side2 => exact HC0_0.out); (case side3 => repeat (first | exact (Kd.V_reads' HO0_2.out).2.2 | (with_reducible refine Kd.C_alloc ?_ _) | (with_reducible refine Kd.C_drewN ?_ _) | (with_reducible refine Kd.C_drew ?_))); (case side4 => exact (Kd.V_reads' HO0_2.out).2.1); rintro e w28 ⟨rfl, hb⟩; refine ⟨_, rfl, ?_⟩; have n0_ := Aside0.mk (Kd.V_below (by (with_reducible repeat (first | apply Kd.V_alloc | apply Kd.V_drewN | apply Kd.V_drew)); exact HO0_2.out) hb); have n1_ := Aside0.mk (blk_below (g := gb933) (o := .cells #[.slice A0_0 l0_0.length c0_0, .int .i64 a0_1, .slice A0_2 l0_2.length c0_2] 41 (0, 0)) bK933_ hb); have n2_ := Aside0.mk (blk_below (g := gb934) (o := .cells #[.int .i64 0, .int .i64 0, .int .i64 0, .int .i64 0, .int .i64 0, .int .i64 0, .slice none 0 0] 27 (0, 0)) bK934_ hb); have n3_ := Aside0.mk (below_step hS_ hb); clear HO0_2; clear BK933; clear BK934; clear HB; have HO0_2 := n0_; have BK933 := n1_; have BK934 := n2_; have HB := n3_; clear n0_ n1_ n2_ n3_; (try clear hb); (try clear hb2); (try clear hk); (try clear hi); obtain ⟨hcz29_0, hcz29_1, hcz29_2, hfz29_0, hfz29_1, hfz29_2⟩ := blkc3_ BK933.out; have p937 : 0 ≤ (t935 : Int) := oD_; have q937 : t935 < (l0_2.length : Int) := oD_; obtain ⟨ad937, A937_0, c937_0, A937_1, c937_1, e937, hx937_0, hx937_1, hx937_2, hx937_3, hx937_4, hx937_5, hl937_0, hi937_0, hl937_1, hi937_1⟩ := at_T88 (Kd.V_reads' HO0_2.out).2.2 t935 p937 q937; cases e937; obtain ⟨ce937, hce937, hMe937, hcc937⟩ := Kd.V_get HO0_2.out z88 t935 p937 (by first | exact q937 | exact oD_ | (have e_ := (Kd.V_reads' HO0_2.out).1; omega)); obtain ⟨ua937_0, uc937_0, ua937_1, uc937_1, rfl, ul937_0, ge937_0, ul937_1, ge937_1⟩ := k88_openF hMe937; have hv937_0 := hcc937 0 _ rfl; rw [Nat.add_zero] at hv937_0; replace hv937_0 := Option.some.inj (hv937_0.symm.trans hx937_0); injection hv937_0 with hva_ hvn_ hvc_; rw [hva_] at ge937_0; rw [hvc_] at ul937_0; have HL937_0 := Aside0.mk (show Kd.V k95 95 _ w.heap.size _ _ ((rd_T88 l0_2 t935).f0) from Kd.V_mk ul937_0 ge937_0); clear hva_ hvn_ hvc_ ge937_0 ul937_0; have hv937_1 := hcc937 1 _ rfl; rw [add_field _ _ 1 (by omega)] at hv937_1; replace hv937_1 := Option.some.inj (hv937_1.symm.trans hx937_1); injection hv937_1 with hva_ hvn_ hvc_; rw [hva_] at ge937_1; rw [hvc_] at ul937_1; have HL937_1 := Aside0.mk (show Kd.V k27 27 _ w.heap.size _ _ ((rd_T88 l0_2 t935).f1) from Kd.V_mk ul937_1 ge937_1); clear hva_ hvn_ hvc_ ge937_1 ul937_1; clear hcc937 hce937; have HR937_0 := Aside0.mk hi937_0; have HC937_0 := Aside0.mk hl937_0; clear hi937_0 hl937_0; have HR937_1 := Aside0.mk hi937_1; have HC937_1 := Aside0.mk hl937_1; clear hi937_1 hl937_1; replace p937 := eq_true p937; replace q937 := eq_true q937))
       have n0_ := Aside0.mk (Kd.V_drew HO0_2.out)
       have n1_ := Aside0.mk (Kd.V_drew HL937_0.out)
       have n2_ := Aside0.mk (Kd.V_drew HL937_1.out)
       have n3_ := Aside0.mk (blk_drew BK933.out)
       have n4_ := Aside0.mk (blk_drew BK934.out)
       have n5_ := Aside0.mk (Kd.C_drew HR937_0.out)
       have n6_ := Aside0.mk (Kd.C_drew HR937_1.out)
       have n7_ := Aside0.mk (below_drew1 HB.out)
       clear HO0_2
       clear HL937_0
       clear HL937_1
       clear BK933
       clear BK934
       clear HR937_0
       clear HR937_1
       clear HB
       have HO0_2 := n0_
       have HL937_0 := n1_
       have HL937_1 := n2_
       have BK933 := n3_
       have BK934 := n4_
       have HR937_0 := n5_
       have HR937_1 := n6_
       have HB := n7_
       clear n0_ n1_ n2_ n3_ n4_ n5_ n6_ n7_
       have p938 : 0 ≤ (t935 : Int) := oD_
       have q938 : t935 < (l0_2.length : Int) := oD_
       obtain ⟨ad938, A938_0, c938_0, A938_1, c938_1, e938, hx938_0, hx938_1, hx938_2, hx938_3, hx938_4, hx938_5, hl938_0, hi938_0, hl938_1, hi938_1⟩ := at_T88 (Kd.V_reads' HO0_2.out).2.2 t935 p938 q938
       obtain rfl : ad937 = ad938 := (by injection e938)
       obtain ⟨ce938, hce938, hMe938, hcc938⟩ := Kd.V_get HO0_2.out z88 t935 p938 (by first | exact q938 | exact oD_ | (have e_ := (Kd.V_reads' HO0_2.out).1; omega))
       obtain ⟨ua938_0, uc938_0, ua938_1, uc938_1, rfl, ul938_0, ge938_0, ul938_1, ge938_1⟩ := k88_openF hMe938
       have hv938_0 := hcc938 0 _ rfl
       rw [Nat.add_zero] at hv938_0
       replace hv938_0 := Option.some.inj (hv938_0.symm.trans hx938_0)
       injection hv938_0 with hva_ hvn_ hvc_
       rw [hva_] at ge938_0
       rw [hvc_] at ul938_0
       have HL938_0 := Aside0.mk (show Kd.V k95 95 _ w.heap.size _ _ ((rd_T88 l0_2 t935).f0) from Kd.V_mk ul938_0 ge938_0)
       clear hva_ hvn_ hvc_ ge938_0 ul938_0
       have hv938_1 := hcc938 1 _ rfl
       rw [add_field _ _ 1 (by omega)] at hv938_1
       replace hv938_1 := Option.some.inj (hv938_1.symm.trans hx938_1)
       injection hv938_1 with hva_ hvn_ hvc_
       rw [hva_] at ge938_1
       rw [hvc_] at ul938_1
       have HL938_1 := Aside0.mk (show Kd.V k27 27 _ w.heap.size _ _ ((rd_T88 l0_2 t935).f1) from Kd.V_mk ul938_1 ge938_1)
       clear hva_ hvn_ hvc_ ge938_1 ul938_1
       clear hcc938 hce938
       have HR938_0 := Aside0.mk hi938_0
       have HC938_0 := Aside0.mk hl938_0
       clear hi938_0 hl938_0
       have HR938_1 := Aside0.mk hi938_1
       have HC938_1 := Aside0.mk hl938_1
       clear hi938_1 hl938_1
       replace p938 := eq_true p938
       replace q938 := eq_true q938
       have p939 : 0 ≤ (t935 : Int) := oD_
       have q939 : t935 < (l0_2.length : Int) := oD_
       obtain ⟨ad939, A939_0, c939_0, A939_1, c939_1, e939, hx939_0, hx939_1, hx939_2, hx939_3, hx939_4, hx939_5, hl939_0, hi939_0, hl939_1, hi939_1⟩ := at_T88 (Kd.V_reads' HO0_2.out).2.2 t935 p939 q939
       obtain rfl : ad937 = ad939 := (by injection e939)
       obtain ⟨ce939, hce939, hMe939, hcc939⟩ := Kd.V_get HO0_2.out z88 t935 p939 (by first | exact q939 | exact oD_ | (have e_ := (Kd.V_reads' HO0_2.out).1; omega))
       obtain ⟨ua939_0, uc939_0, ua939_1, uc939_1, rfl, ul939_0, ge939_0, ul939_1, ge939_1⟩ := k88_openF hMe939
       have hv939_0 := hcc939 0 _ rfl
       rw [Nat.add_zero] at hv939_0
       replace hv939_0 := Option.some.inj (hv939_0.symm.trans hx939_0)
       injection hv939_0 with hva_ hvn_ hvc_
       rw [hva_] at ge939_0
       rw [hvc_] at ul939_0
       have HL939_0 := Aside0.mk (show Kd.V k95 95 _ w.heap.size _ _ ((rd_T88 l0_2 t935).f0) from Kd.V_mk ul939_0 ge939_0)
       clear hva_ hvn_ hvc_ ge939_0 ul939_0
       have hv939_1 := hcc939 1 _ rfl
       rw [add_field _ _ 1 (by omega)] at hv939_1
       replace hv939_1 := Option.some.inj (hv939_1.symm.trans hx939_1)
       injection hv939_1 with hva_ hvn_ hvc_
       rw [hva_] at ge939_1
       rw [hvc_] at ul939_1
       have HL939_1 := Aside0.mk (show Kd.V k27 27 _ w.heap.size _ _ ((rd_T88 l0_2 t935).f1) from Kd.V_mk ul939_1 ge939_1)
       clear hva_ hvn_ hvc_ ge939_1 ul939_1
       clear hcc939 hce939
       have HR939_0 := Aside0.mk hi939_0
       have HC939_0 := Aside0.mk hl939_0
       clear hi939_0 hl939_0
       have HR939_1 := Aside0.mk hi939_1
       have HC939_1 := Aside0.mk hl939_1
       clear hi939_1 hl939_1
       replace p939 := eq_true p939
       replace q939 := eq_true q939
       have ea_ := Option.some.inj (hx938_0.symm.trans hx939_0)
       injection ea_ with ea_ en_ ec_
       subst ea_
       subst ec_
       clear en_
       have ea_ := Option.some.inj (hx938_1.symm.trans hx939_1)
       injection ea_ with ea_ en_ ec_
       subst ea_
       subst ec_
       clear en_
       have p940 : 0 ≤ ((ji21) : Int) := oD_
       have q940 : (ji21) < (((rd_T88 l0_2 t935).f1).length : Int) := oD_
       obtain ⟨ad940, A940_6, c940_6, e940, hx940_0, hx940_1, hx940_2, hx940_3, hx940_4, hx940_5, hx940_6, hl940_6, hi940_6⟩ := at_T27 (by repeat (first | (with_reducible exact HR938_1.out) | (with_reducible refine Kd.C_alloc ?_ _) | (with_reducible refine Kd.C_drewN ?_ _) | (with_reducible refine Kd.C_drew ?_) | exact HR938_1.out)) (ji21) p940 q940
       cases e940
       obtain ⟨ce940, hce940, hMe940, hcc940⟩ := Kd.V_get HL938_1.out z27 (ji21) p940 (by first | exact q940 | exact oD_ | (have e_ := (Kd.V_reads' HL938_1.out).1; omega))
       obtain ⟨ua940_6, uc940_6, rfl, ul940_6, ge940_6⟩ := k27_openF hMe940
       have hv940_6 := hcc940 6 _ rfl
       rw [add_field _ _ 6 (by omega)] at hv940_6
       replace hv940_6 := Option.some.inj (hv940_6.symm.trans hx940_6)
       injection hv940_6 with hva_ hvn_ hvc_
       rw [hva_] at ge940_6
       rw [hvc_] at ul940_6
       have HL940_6 := Aside0.mk (show Kd.V (Kd.int .i64) 2 _ w.heap.size _ _ ((rd_T27 ((rd_T88 l0_2 t935).f1) (ji21)).f6) from Kd.V_mk ul940_6 ge940_6)
       clear hva_ hvn_ hvc_ ge940_6 ul940_6
       clear hcc940 hce940
       have HR940_6 := Aside0.mk hi940_6
       have HC940_6 := Aside0.mk hl940_6
       clear hi940_6 hl940_6
       replace p940 := eq_true p940
       replace q940 := eq_true q940
       obtain ⟨adw, Aw0, cw0, Aw1, cw1, ew, xw0, xw1, -, -, -, -, -, -, -, iw1⟩ := at_T88 HCw.out t935 (by first | exact of_eq_true p938 | exact p938) (by first | exact of_eq_true q938 | exact q938)
       obtain rfl : ad937 = adw := by injection ew
       have fbHO0_2_ : ad937.block ≠ gb934 := by
        have h1_ := World.block_lt_of_cell? w _ xw0
        rw [add_block] at h1_
        have h2_ := GE934.out
        omega
       have ew1 := (HB.out.cell (World.block_lt_of_cell? w _ xw1)).trans xw1
       have ew2 := Option.some.inj (hx938_1.symm.trans ew1)
       injection ew2 with ew3 ew4 ew5
       subst ew3
       obtain ⟨adv, _, _, ev, xv0, -⟩ := at_T27 iw1 ji21 (by first | exact of_eq_true p940 | exact p940) (by first | exact of_eq_true q940 | exact q940)
       obtain rfl : ad940 = adv := by injection ev
       have fbHL938_1_ : ad940.block ≠ gb934 := by
        have h1_ := World.block_lt_of_cell? w _ xv0
        rw [add_block] at h1_
        have h2_ := GE934.out
        omega
       clear xw0 xw1 iw1 xv0
       refine start_ (n := 19) (S := fun w' => w'.cell? ⟨gb933, 0, none⟩ = some (.slice A0_0 l0_0.length c0_0) ∧ w'.cell? ⟨gb933, 1, none⟩ = some (.int .i64 a0_1) ∧ w'.cell? ⟨gb933, 2, none⟩ = some (.slice (some ad937) l0_2.length c0_2) ∧ w'.cell? (ad937.add ((t935).toNat * 6)) = some (.slice A938_0 ((rd_T88 l0_2 t935).f0).length c938_0) ∧ w'.cell? ⟨(ad937.add ((t935).toNat * 6)).block, (ad937.add ((t935).toNat * 6)).off + 1, none⟩ = some (.slice (some ad940) ((rd_T88 l0_2 t935).f1).length c938_1) ∧ w'.cell? ⟨(ad937.add ((t935).toNat * 6)).block, (ad937.add ((t935).toNat * 6)).off + 2, none⟩ = some (.int .i64 ((rd_T88 l0_2 t935).f2.f0)) ∧ w'.cell? ⟨(ad937.add ((t935).toNat * 6)).block, (ad937.add ((t935).toNat * 6)).off + 3, none⟩ = some (.int .i64 ((rd_T88 l0_2 t935).f2.f1)) ∧ w'.cell? ⟨(ad937.add ((t935).toNat * 6)).block, (ad937.add ((t935).toNat * 6)).off + 4, none⟩ = some (.int .i64 ((rd_T88 l0_2 t935).f2.f2)) ∧ w'.cell? ⟨(ad937.add ((t935).toNat * 6)).block, (ad937.add ((t935).toNat * 6)).off + 5, none⟩ = some (.int .i64 ((rd_T88 l0_2 t935).f2.f3)) ∧ w'.cell? (ad937.add ((t935).toNat * 6)) = some (.slice A938_0 ((rd_T88 l0_2 t935).f0).length c938_0) ∧ w'.cell? ⟨(ad937.add ((t935).toNat * 6)).block, (ad937.add ((t935).toNat * 6)).off + 1, none⟩ = some (.slice (some ad940) ((rd_T88 l0_2 t935).f1).length c938_1) ∧ w'.cell? ⟨(ad937.add ((t935).toNat * 6)).block, (ad937.add ((t935).toNat * 6)).off + 2, none⟩ = some (.int .i64 ((rd_T88 l0_2 t935).f2.f0)) ∧ w'.cell? ⟨(ad937.add ((t935).toNat * 6)).block, (ad937.add ((t935).toNat * 6)).off + 3, none⟩ = some (.int .i64 ((rd_T88 l0_2 t935).f2.f1)) ∧ w'.cell? ⟨(ad937.add ((t935).toNat * 6)).block, (ad937.add ((t935).toNat * 6)).off + 4, none⟩ = some (.int .i64 ((rd_T88 l0_2 t935).f2.f2)) ∧ w'.cell? ⟨(ad937.add ((t935).toNat * 6)).block, (ad937.add ((t935).toNat * 6)).off + 5, none⟩ = some (.int .i64 ((rd_T88 l0_2 t935).f2.f3)) ∧ w'.cell? (ad940.add (((ji21)).toNat * 7)) = some (.int .i64 ((rd_T27 ((rd_T88 l0_2 t935).f1) (ji21)).f0)) ∧ w'.cell? ⟨(ad940.add (((ji21)).toNat * 7)).block, (ad940.add (((ji21)).toNat * 7)).off + 1, none⟩ = some (.int .i64 ((rd_T27 ((rd_T88 l0_2 t935).f1) (ji21)).f1)) ∧ w'.cell? ⟨(ad940.add (((ji21)).toNat * 7)).block, (ad940.add (((ji21)).toNat * 7)).off + 2, none⟩ = some (.int .i64 ((rd_T27 ((rd_T88 l0_2 t935).f1) (ji21)).f2)) ∧ w'.cell? ⟨(ad940.add (((ji21)).toNat * 7)).block, (ad940.add (((ji21)).toNat * 7)).off + 3, none⟩ = some (.int .i64 ((rd_T27 ((rd_T88 l0_2 t935).f1) (ji21)).f3)) ∧ w'.cell? ⟨(ad940.add (((ji21)).toNat * 7)).block, (ad940.add (((ji21)).toNat * 7)).off + 4, none⟩ = some (.int .i64 ((rd_T27 ((rd_T88 l0_2 t935).f1) (ji21)).f4)) ∧ w'.cell? ⟨(ad940.add (((ji21)).toNat * 7)).block, (ad940.add (((ji21)).toNat * 7)).off + 5, none⟩ = some (.int .i64 ((rd_T27 ((rd_T88 l0_2 t935).f1) (ji21)).f5)) ∧ w'.cell? ⟨(ad940.add (((ji21)).toNat * 7)).block, (ad940.add (((ji21)).toNat * 7)).off + 6, none⟩ = some (.slice A940_6 ((rd_T27 ((rd_T88 l0_2 t935).f1) (ji21)).f6).length c940_6)) (ds := []) #[false, false, false, false, false, false, false, false, false, false, false, false, false, false, false, false, false, false, false] (by kernel_rfl) rfl rfl ⟨(blk_cell BK933.out 0).trans rfl, (blk_cell BK933.out 1).trans rfl, (blk_cell BK933.out 2).trans rfl, hx938_0, hx938_1, hx938_2, hx938_3, hx938_4, hx938_5, hx939_0, hx939_1, hx939_2, hx939_3, hx939_4, hx939_5, hx940_0, hx940_1, hx940_2, hx940_3, hx940_4, hx940_5, hx940_6⟩ (fun hHeld => ?_); refine with_tabW impl_instOf.tab4 impl_instOf.bits4 (fun HT_ HW_ => ?_)
       generalize w28.drew = w30 at HO0_2 HL937_0 HL937_1 BK933 BK934 HR937_0 HR937_1 HB HL938_0 HL938_1 HL939_0 HL939_1 HL940_6 HR938_0 HR938_1 HR939_0 HR939_1 HR940_6 hx938_0 hx938_1 hx938_2 hx938_3 hx938_4 hx938_5 hx939_0 hx939_1 hx939_2 hx939_3 hx939_4 hx939_5 hx940_0 hx940_1 hx940_2 hx940_3 hx940_4 hx940_5 hx940_6 hHeld ⊢
       refine pure_ (i := 0) (N := some 28) (v := ?_) (a' := ?_) #[true, false, false, false, false, false, false, false, false, false, false, false, false, false, false, false, false, false, false] rfl rfl (any_of HT_.out (by kernel_rfl)) (fun _ _ _ h => h) (Or.inl ⟨by rfl, ?_⟩) ?_ ?_
       rotate_left
       ·intro w'
        go_simp
        with_reducible rfl
       rotate_left
       ·simp only [Act.put, List.setIfInBounds_toArray, List.set_cons_zero, List.set_cons_succ, i64_w, i32_w]
        rfl
       refine pure_ (i := 2) (N := some 30) (v := ?_) (a' := ?_) #[true, false, true, false, false, false, false, false, false, false, false, false, false, false, false, false, false, false, false] rfl rfl (any_of HT_.out (by kernel_rfl)) (fun _ _ _ h => h) (Or.inl ⟨by rfl, ?_⟩) ?_ ?_
       rotate_left
       ·intro w'
        go_simp
        with_reducible rfl
       rotate_left
       ·simp only [Act.put, List.setIfInBounds_toArray, List.set_cons_zero, List.set_cons_succ, i64_w, i32_w]
        rfl
       refine pure_ (i := 6) (N := some 34) (v := ?_) (a' := ?_) #[true, false, true, false, false, false, true, false, false, false, false, false, false, false, false, false, false, false, false] rfl rfl (any_of HT_.out (by kernel_rfl)) (fun _ _ _ h => h) (Or.inl ⟨by rfl, ?_⟩) ?_ ?_
       rotate_left
       ·intro w'
        go_simp
        with_reducible rfl
       rotate_left
       ·simp only [Act.put, List.setIfInBounds_toArray, List.set_cons_zero, List.set_cons_succ, i64_w, i32_w]
        rfl
       refine pure_ (i := 7) (N := some 35) (v := ?_) (a' := ?_) #[true, false, true, false, false, false, true, true, false, false, false, false, false, false, false, false, false, false, false] rfl rfl (any_of HT_.out (by kernel_rfl)) (fun _ _ _ h => h) (Or.inl ⟨by rfl, ?_⟩) ?_ ?_
       rotate_left
       ·intro w'
        go_simp
        with_reducible rfl
       rotate_left
       ·simp only [Act.put, List.setIfInBounds_toArray, List.set_cons_zero, List.set_cons_succ, i64_w, i32_w]
        rfl
       refine pure_ (i := 9) (N := some 37) (v := ?_) (a' := ?_) #[true, false, true, false, false, false, true, true, false, true, false, false, false, false, false, false, false, false, false] rfl rfl (any_of HT_.out (by kernel_rfl)) (fun _ _ _ h => h) (Or.inl ⟨by rfl, ?_⟩) ?_ ?_
       rotate_left
       ·intro w'
        go_simp
        with_reducible rfl
       rotate_left
       ·simp only [Act.put, List.setIfInBounds_toArray, List.set_cons_zero, List.set_cons_succ, i64_w, i32_w]
        rfl
       refine take_ (i := 1) (N := some 29) (v := ?_) (a' := ?_) #[true, true, true, false, false, false, true, true, false, true, false, false, false, false, false, false, false, false, false] rfl rfl (take_ofW HT_.out HW_.out (by kernel_rfl)) (fun _ _ _ h => h) (Or.inl ⟨by rfl, ?_⟩) hHeld ?_ ?_
       rotate_left
       ·rintro w' ⟨s0, s1, s2, s3, s4, s5, s6, s7, s8, s9, s10, s11, s12, s13, s14, s15, s16, s17, s18, s19, s20, s21⟩
        go_simp
        with_reducible rfl
       rotate_left
       ·simp only [Act.put, List.setIfInBounds_toArray, List.set_cons_zero, List.set_cons_succ, i64_w, i32_w]
        rfl
       refine pure_ (i := 3) (N := some 31) (v := ?_) (a' := ?_) #[true, true, true, true, false, false, true, true, false, true, false, false, false, false, false, false, false, false, false] rfl rfl (any_of HT_.out (by kernel_rfl)) (fun _ _ _ h => h) (Or.inl ⟨by rfl, ?_⟩) ?_ ?_
       rotate_left
       ·intro w'
        go_simp
        with_reducible rfl
       rotate_left
       ·simp only [Act.put, List.setIfInBounds_toArray, List.set_cons_zero, List.set_cons_succ, i64_w, i32_w]
        rfl
       refine pure_ (i := 4) (N := some 32) (v := ?_) (a' := ?_) #[true, true, true, true, true, false, true, true, false, true, false, false, false, false, false, false, false, false, false] rfl rfl (any_of HT_.out (by kernel_rfl)) (fun _ _ _ h => h) (Or.inl ⟨by rfl, ?_⟩) ?_ ?_
       rotate_left
       ·intro w'
        go_simp
        with_reducible rfl
       rotate_left
       ·simp only [Act.put, List.setIfInBounds_toArray, List.set_cons_zero, List.set_cons_succ, i64_w, i32_w]
        rfl
       refine take_ (i := 5) (N := some 33) (v := ?_) (a' := ?_) #[true, true, true, true, true, true, true, true, false, true, false, false, false, false, false, false, false, false, false] rfl rfl (take_ofW HT_.out HW_.out (by kernel_rfl)) (fun _ _ _ h => h) (Or.inl ⟨by rfl, ?_⟩) hHeld ?_ ?_
       rotate_left
       ·rintro w' ⟨s0, s1, s2, s3, s4, s5, s6, s7, s8, s9, s10, s11, s12, s13, s14, s15, s16, s17, s18, s19, s20, s21⟩
        go_simp
        with_reducible rfl
       rotate_left
       ·simp only [Act.put, List.setIfInBounds_toArray, List.set_cons_zero, List.set_cons_succ, i64_w, i32_w]
        rfl
       refine take_ (i := 8) (N := some 36) (v := ?_) (a' := ?_) #[true, true, true, true, true, true, true, true, true, true, false, false, false, false, false, false, false, false, false] rfl rfl (take_ofW HT_.out HW_.out (by kernel_rfl)) (fun _ _ _ h => h) (Or.inl ⟨by rfl, ?_⟩) hHeld ?_ ?_
       rotate_left
       ·rintro w' ⟨s0, s1, s2, s3, s4, s5, s6, s7, s8, s9, s10, s11, s12, s13, s14, s15, s16, s17, s18, s19, s20, s21⟩
        go_simp
        with_reducible rfl
       rotate_left
       ·simp only [Act.put, List.setIfInBounds_toArray, List.set_cons_zero, List.set_cons_succ, i64_w, i32_w]
        rfl
       refine pure_ (i := 10) (N := some 38) (v := ?_) (a' := ?_) #[true, true, true, true, true, true, true, true, true, true, true, false, false, false, false, false, false, false, false] rfl rfl (any_of HT_.out (by kernel_rfl)) (fun _ _ _ h => h) (Or.inl ⟨by rfl, ?_⟩) ?_ ?_
       rotate_left
       ·intro w'
        go_simp
        with_reducible rfl
       rotate_left
       ·simp only [Act.put, List.setIfInBounds_toArray, List.set_cons_zero, List.set_cons_succ, i64_w, i32_w]
        rfl
       refine pure_ (i := 11) (N := some 39) (v := ?_) (a' := ?_) #[true, true, true, true, true, true, true, true, true, true, true, true, false, false, false, false, false, false, false] rfl rfl (any_of HT_.out (by kernel_rfl)) (fun _ _ _ h => h) (Or.inl ⟨by rfl, ?_⟩) ?_ ?_
       rotate_left
       ·intro w'
        go_simp
        with_reducible rfl
       rotate_left
       ·simp only [Act.put, List.setIfInBounds_toArray, List.set_cons_zero, List.set_cons_succ, i64_w, i32_w]
        rfl
       refine take_ (i := 12) (N := some 40) (v := ?_) (a' := ?_) #[true, true, true, true, true, true, true, true, true, true, true, true, true, false, false, false, false, false, false] rfl rfl (take_ofW HT_.out HW_.out (by kernel_rfl)) (fun _ _ _ h => h) (Or.inl ⟨by rfl, ?_⟩) hHeld ?_ ?_
       rotate_left
       ·rintro w' ⟨s0, s1, s2, s3, s4, s5, s6, s7, s8, s9, s10, s11, s12, s13, s14, s15, s16, s17, s18, s19, s20, s21⟩
        go_simp
        with_reducible rfl
       rotate_left
       ·simp only [Act.put, List.setIfInBounds_toArray, List.set_cons_zero, List.set_cons_succ, i64_w, i32_w]
        rfl
       refine pure_ (i := 13) (N := some 41) (v := ?_) (a' := ?_) #[true, true, true, true, true, true, true, true, true, true, true, true, true, true, false, false, false, false, false] rfl rfl (any_of HT_.out (by kernel_rfl)) (fun _ _ _ h => h) (Or.inl ⟨by rfl, ?_⟩) ?_ ?_
       rotate_left
       ·intro w'
        go_simp
        with_reducible rfl
       rotate_left
       ·simp only [Act.put, List.setIfInBounds_toArray, List.set_cons_zero, List.set_cons_succ, i64_w, i32_w]
        rfl
       refine pure_ (i := 14) (N := some 42) (v := ?_) (a' := ?_) #[true, true, true, true, true, true, true, true, true, true, true, true, true, true, true, false, false, false, false] rfl rfl (any_of HT_.out (by kernel_rfl)) (fun _ _ _ h => h) (Or.inl ⟨by rfl, ?_⟩) ?_ ?_
       rotate_left
       ·intro w'
        go_simp
        with_reducible rfl
       rotate_left
       ·simp only [Act.put, List.setIfInBounds_toArray, List.set_cons_zero, List.set_cons_succ, i64_w, i32_w]
        rfl
       refine pure_ (i := 15) (N := some 43) (v := ?_) (a' := ?_) #[true, true, true, true, true, true, true, true, true, true, true, true, true, true, true, true, false, false, false] rfl rfl (any_of HT_.out (by kernel_rfl)) (fun _ _ _ h => h) (Or.inl ⟨by rfl, ?_⟩) ?_ ?_
       rotate_left
       ·intro w'
        go_simp
        with_reducible rfl
       rotate_left
       ·simp only [Act.put, List.setIfInBounds_toArray, List.set_cons_zero, List.set_cons_succ, i64_w, i32_w]
        rfl
       refine take_ (i := 16) (N := some 44) (v := ?_) (a' := ?_) #[true, true, true, true, true, true, true, true, true, true, true, true, true, true, true, true, true, false, false] rfl rfl (take_ofW HT_.out HW_.out (by kernel_rfl)) (fun _ _ _ h => h) (Or.inl ⟨by rfl, ?_⟩) hHeld ?_ ?_
       rotate_left
       ·rintro w' ⟨s0, s1, s2, s3, s4, s5, s6, s7, s8, s9, s10, s11, s12, s13, s14, s15, s16, s17, s18, s19, s20, s21⟩
        go_simp
        with_reducible rfl
       rotate_left
       ·simp only [Act.put, List.setIfInBounds_toArray, List.set_cons_zero, List.set_cons_succ, i64_w, i32_w]
        rfl
       refine one_ (i := 17) (N := none) #[true, true, true, true, true, true, true, true, true, true, true, true, true, true, true, true, true, true, false] rfl rfl (one_of HT_.out (by kernel_rfl)) (by decide) (fun K hK => ?_)
       have hs31 : w30.cell? ⟨gb934, 0, none⟩ = some (.int .i64 0) := (blk_cell BK934.out 0).trans rfl
       have hfs31 := blk_frozen BK934.out 0
       have hns31_0 := NB933_934.out
       have hms31_0 := NB934_933.out
       have hs32 : w30.cell? ⟨gb934, 1, none⟩ = some (.int .i64 0) := (blk_cell BK934.out 1).trans rfl
       have hfs32 := blk_frozen BK934.out 1
       have hns32_0 := NB933_934.out
       have hms32_0 := NB934_933.out
       have hs33 : w30.cell? ⟨gb934, 2, none⟩ = some (.int .i64 0) := (blk_cell BK934.out 2).trans rfl
       have hfs33 := blk_frozen BK934.out 2
       have hns33_0 := NB933_934.out
       have hms33_0 := NB934_933.out
       have hs34 : w30.cell? ⟨gb934, 3, none⟩ = some (.int .i64 0) := (blk_cell BK934.out 3).trans rfl
       have hfs34 := blk_frozen BK934.out 3
       have hns34_0 := NB933_934.out
       have hms34_0 := NB934_933.out
       have hs35 : w30.cell? ⟨gb934, 4, none⟩ = some (.int .i64 0) := (blk_cell BK934.out 4).trans rfl
       have hfs35 := blk_frozen BK934.out 4
       have hns35_0 := NB933_934.out
       have hms35_0 := NB934_933.out
       have hs36 : w30.cell? ⟨gb934, 5, none⟩ = some (.int .i64 0) := (blk_cell BK934.out 5).trans rfl
       have hfs36 := blk_frozen BK934.out 5
       have hns36_0 := NB933_934.out
       have hms36_0 := NB934_933.out
       have hs37 : w30.cell? ⟨gb934, 6, none⟩ = some (.slice none 0 0) := (blk_cell BK934.out 6).trans rfl
       have hfs37 := blk_frozen BK934.out 6
       have hns37_0 := NB933_934.out
       have hms37_0 := NB934_933.out
       refine skip_ (w1 := ?_) (by rfl) rfl ?_ ?_
       rotate_left
       ·go_simp
        rfl
       refine hK.out _ _ ?held (fun hHeld => ?_)
       case held =>
        obtain ⟨s0_, s1_, s2_, s3_, s4_, s5_, s6_, s7_, s8_, s9_, s10_, s11_, s12_, s13_, s14_, s15_, s16_, s17_, s18_, s19_, s20_, s21_⟩ := hHeld
        exact ⟨far7h_ (g := gb934) s0_ NB933_934.out, far7h_ (g := gb934) s1_ NB933_934.out, far7h_ (g := gb934) s2_ NB933_934.out, far7h_ (g := gb934) s3_ (add_ne_ fbHO0_2_), far7h_ (g := gb934) s4_ (add_ne_ fbHO0_2_), far7h_ (g := gb934) s5_ (add_ne_ fbHO0_2_), far7h_ (g := gb934) s6_ (add_ne_ fbHO0_2_), far7h_ (g := gb934) s7_ (add_ne_ fbHO0_2_), far7h_ (g := gb934) s8_ (add_ne_ fbHO0_2_), far7h_ (g := gb934) s9_ (add_ne_ fbHO0_2_), far7h_ (g := gb934) s10_ (add_ne_ fbHO0_2_), far7h_ (g := gb934) s11_ (add_ne_ fbHO0_2_), far7h_ (g := gb934) s12_ (add_ne_ fbHO0_2_), far7h_ (g := gb934) s13_ (add_ne_ fbHO0_2_), far7h_ (g := gb934) s14_ (add_ne_ fbHO0_2_), far7h_ (g := gb934) s15_ (add_ne_ fbHL938_1_), far7h_ (g := gb934) s16_ (add_ne_ fbHL938_1_), far7h_ (g := gb934) s17_ (add_ne_ fbHL938_1_), far7h_ (g := gb934) s18_ (add_ne_ fbHL938_1_), far7h_ (g := gb934) s19_ (add_ne_ fbHL938_1_), far7h_ (g := gb934) s20_ (add_ne_ fbHL938_1_), far7h_ (g := gb934) s21_ (add_ne_ fbHL938_1_)⟩
       clear hK K
       refine pure_ (i := 18) (N := some 5) (v := ?_) (a' := ?_) #[true, true, true, true, true, true, true, true, true, true, true, true, true, true, true, true, true, true, true] rfl rfl (any_of HT_.out (by kernel_rfl)) (fun _ _ _ h => h) (Or.inl ⟨by rfl, ?_⟩) ?_ ?_
       rotate_left
       ·intro w'
        go_simp
        with_reducible rfl
       rotate_left
       ·simp only [Act.put, List.setIfInBounds_toArray, List.set_cons_zero, List.set_cons_succ, i64_w, i32_w]
        rfl
       refine done_ (done_of HT_.out (by kernel_rfl)) ?_
       try go_wp2
       refine bodyPost_ret (results_ct rfl _ _ gb934 27 #[.int .i64 ((rd_T27 ((rd_T88 l0_2 t935).f1) (ji21)).f0), .int .i64 ((rd_T27 ((rd_T88 l0_2 t935).f1) (ji21)).f1), .int .i64 ((rd_T27 ((rd_T88 l0_2 t935).f1) (ji21)).f2), .int .i64 ((rd_T27 ((rd_T88 l0_2 t935).f1) (ji21)).f3), .int .i64 ((rd_T27 ((rd_T88 l0_2 t935).f1) (ji21)).f4), .int .i64 ((rd_T27 ((rd_T88 l0_2 t935).f1) (ji21)).f5), .slice A940_6 ((rd_T27 ((rd_T88 l0_2 t935).f1) (ji21)).f6).length c940_6] (0, 0) _ rfl (by (with_reducible repeat (first | refine blk_drewN ?_ _ | refine blk_drew ?_ | refine blk_alloc ?_ _)); refine blk_put (cs := #[.int .i64 ((rd_T27 ((rd_T88 l0_2 t935).f1) (ji21)).f0), .int .i64 ((rd_T27 ((rd_T88 l0_2 t935).f1) (ji21)).f1), .int .i64 ((rd_T27 ((rd_T88 l0_2 t935).f1) (ji21)).f2), .int .i64 ((rd_T27 ((rd_T88 l0_2 t935).f1) (ji21)).f3), .int .i64 ((rd_T27 ((rd_T88 l0_2 t935).f1) (ji21)).f4), .int .i64 ((rd_T27 ((rd_T88 l0_2 t935).f1) (ji21)).f5), .slice none 0 0]) ?_ 6 _ rfl; (with_reducible repeat (first | refine blk_drewN ?_ _ | refine blk_drew ?_ | refine blk_alloc ?_ _)); refine blk_put (cs := #[.int .i64 ((rd_T27 ((rd_T88 l0_2 t935).f1) (ji21)).f0), .int .i64 ((rd_T27 ((rd_T88 l0_2 t935).f1) (ji21)).f1), .int .i64 ((rd_T27 ((rd_T88 l0_2 t935).f1) (ji21)).f2), .int .i64 ((rd_T27 ((rd_T88 l0_2 t935).f1) (ji21)).f3), .int .i64 ((rd_T27 ((rd_T88 l0_2 t935).f1) (ji21)).f4), .int .i64 0, .slice none 0 0]) ?_ 5 _ rfl; (with_reducible repeat (first | refine blk_drewN ?_ _ | refine blk_drew ?_ | refine blk_alloc ?_ _)); refine blk_put (cs := #[.int .i64 ((rd_T27 ((rd_T88 l0_2 t935).f1) (ji21)).f0), .int .i64 ((rd_T27 ((rd_T88 l0_2 t935).f1) (ji21)).f1), .int .i64 ((rd_T27 ((rd_T88 l0_2 t935).f1) (ji21)).f2), .int .i64 ((rd_T27 ((rd_T88 l0_2 t935).f1) (ji21)).f3), .int .i64 0, .int .i64 0, .slice none 0 0]) ?_ 4 _ rfl; (with_reducible repeat (first | refine blk_drewN ?_ _ | refine blk_drew ?_ | refine blk_alloc ?_ _)); refine blk_put (cs := #[.int .i64 ((rd_T27 ((rd_T88 l0_2 t935).f1) (ji21)).f0), .int .i64 ((rd_T27 ((rd_T88 l0_2 t935).f1) (ji21)).f1), .int .i64 ((rd_T27 ((rd_T88 l0_2 t935).f1) (ji21)).f2), .int .i64 0, .int .i64 0, .int .i64 0, .slice none 0 0]) ?_ 3 _ rfl; (with_reducible repeat (first | refine blk_drewN ?_ _ | refine blk_drew ?_ | refine blk_alloc ?_ _)); refine blk_put (cs := #[.int .i64 ((rd_T27 ((rd_T88 l0_2 t935).f1) (ji21)).f0), .int .i64 ((rd_T27 ((rd_T88 l0_2 t935).f1) (ji21)).f1), .int .i64 0, .int .i64 0, .int .i64 0, .int .i64 0, .slice none 0 0]) ?_ 2 _ rfl; (with_reducible repeat (first | refine blk_drewN ?_ _ | refine blk_drew ?_ | refine blk_alloc ?_ _)); refine blk_put (cs := #[.int .i64 ((rd_T27 ((rd_T88 l0_2 t935).f1) (ji21)).f0), .int .i64 0, .int .i64 0, .int .i64 0, .int .i64 0, .int .i64 0, .slice none 0 0]) ?_ 1 _ rfl; (with_reducible repeat (first | refine blk_drewN ?_ _ | refine blk_drew ?_ | refine blk_alloc ?_ _)); refine blk_put (cs := #[.int .i64 0, .int .i64 0, .int .i64 0, .int .i64 0, .int .i64 0, .int .i64 0, .slice none 0 0]) ?_ 0 _ rfl; (with_reducible repeat (first | refine blk_drewN ?_ _ | refine blk_drew ?_ | refine blk_alloc ?_ _)); exact BK934.out) Try.underlying27 rfl (by kernel_rfl)) rfl ?_
       exact ⟨_, by first | rfl | (simp [errW_none, errW_some] <;> rfl) | (simp only [← hji21]; first | rfl | (simp [errW_none, errW_some] <;> rfl)) | (simp [*, errW_none, errW_some] <;> rfl), by (with_reducible repeat (first | apply Kd.V_alloc | apply Kd.V_drewN | apply Kd.V_drew)); exact Kd.V_mono (Kd.V_far (p := ⟨gb934, 6, none⟩) (Kd.V_far (p := ⟨gb934, 5, none⟩) (Kd.V_far (p := ⟨gb934, 4, none⟩) (Kd.V_far (p := ⟨gb934, 3, none⟩) (Kd.V_far (p := ⟨gb934, 2, none⟩) (Kd.V_far (p := ⟨gb934, 1, none⟩) (Kd.V_far (p := ⟨gb934, 0, none⟩) (Kd.V_mono HL940_6.out (fun k_ hk => (⟨hk, hk.2⟩ : _ ∧ k_ ≠ gb934))) (fun _ hk => hk.2) (.int .i64 ((rd_T27 ((rd_T88 l0_2 t935).f1) (ji21)).f0))) (fun _ hk => hk.2) (.int .i64 ((rd_T27 ((rd_T88 l0_2 t935).f1) (ji21)).f1))) (fun _ hk => hk.2) (.int .i64 ((rd_T27 ((rd_T88 l0_2 t935).f1) (ji21)).f2))) (fun _ hk => hk.2) (.int .i64 ((rd_T27 ((rd_T88 l0_2 t935).f1) (ji21)).f3))) (fun _ hk => hk.2) (.int .i64 ((rd_T27 ((rd_T88 l0_2 t935).f1) (ji21)).f4))) (fun _ hk => hk.2) (.int .i64 ((rd_T27 ((rd_T88 l0_2 t935).f1) (ji21)).f5))) (fun _ hk => hk.2) (.slice A940_6 ((rd_T27 ((rd_T88 l0_2 t935).f1) (ji21)).f6).length c940_6)) (fun _ hk => hk.1.1.1), hS_⟩
      ·rw [if_neg c23] at H
       exact absurd H (by simp)
     ·rw [if_neg c22] at H
      exact absurd H (by simp)
   ·rw [if_neg c12] at H
    exact absurd H (by simp)
  ·rw [if_neg c11] at H
   exact absurd H (by simp)
end Go.Proofs.Ytjkbafcepblacaa.X
namespace Go.Proofs.Ytjkbafcepblacaa.X
open Go.RowKit Go.Proofs.YtjkbafcepblacaaW.PrintWords Go.Proofs.YtjkbafcepblacaaW.PrintLast Go.Proofs.YtjkbafcepblacaaW.PrintMore
attribute [local go_sem] max2_int min2_int max_two min_two max_three min_three max_four min_four   -- for this text's walks alone
set_option linter.unusedVariables false
set_option linter.unusedSimpArgs false
/-! ### impl_ConstOf: function 48 -/
def impl_ConstOf.f (k : Nat) (l0_0 : List Int) (a0_1 : Int) (l0_2 : List (S88)) (a1 : Int) : Option (Int × Bool) := (impl_instOf.f k l0_0 a0_1 l0_2 a1).bind fun bt942 => (if bt942.2.2.2.2.2.2.2 = true then (if bt942.1 = 21 then (some (bt942.2.2.2.2.2.1, true)) else (some (0, false))) else (some (0, false)))
theorem impl_ConstOf.mono : ∀ a0 a1 a2 a3 k, LeO (impl_ConstOf.f k a0 a1 a2 a3) (impl_ConstOf.f (k + 1) a0 a1 a2 a3) := by
 intro a0 a1 a2 a3 k
 unfold impl_ConstOf.f
 repeat' first
   | (with_reducible exact impl_instOf.mono _ _ _ _ _)
   | (with_reducible exact LeO.refl _)
   | (with_reducible exact LeO.none _)
   | (with_reducible refine LeO.ite ?_ ?_)
   | (with_reducible refine LeO.bind ?_ (fun _ => ?_))
   | exact impl_instOf.mono _ _ _ _ _
   | exact LeO.none _
   | refine LeO.ite ?_ ?_
   | refine LeO.bind ?_ (fun _ => ?_)
set_option maxHeartbeats 8000000 in
set_option maxRecDepth 100000 in
theorem impl_ConstOf.calls (k : Nat) (A0_0 : Option Addr) (c0_0 : Nat) (l0_0 : List Int) (a0_1 : Int) (A0_2 : Option Addr) (c0_2 : Nat) (l0_2 : List (S88)) (a1 : Int) (r1 : Int) (r2 : Bool) (w : World) (hr0_0 : Kd.C (Kd.int .i64) w A0_0 l0_0.length l0_0) (hc0_0 : l0_0.length ≤ c0_0) (hr0_2 : Kd.C k88 w A0_2 l0_2.length l0_2) (hc0_2 : l0_2.length ≤ c0_2) (h : impl_ConstOf.f k l0_0 a0_1 l0_2 a1 = some (r1, r2)) :
  Calls Try.prog 48 #[.agg #[.slice A0_0 l0_0.length c0_0, .int .i64 a0_1, .slice A0_2 l0_2.length c0_2], .int .i64 a1] w fun e w' => e = .returned (.tuple #[.int .i64 r1, .bool r2]) ∧ Below w.heap.size w w' := by
 have hu41 := Try.underlying41
 have hu27 := Try.underlying27
 have HR0_0 := Aside0.mk hr0_0
 have HC0_0 := Aside0.mk hc0_0
 clear hr0_0 hc0_0
 have HR0_2 := Aside0.mk hr0_2
 have HC0_2 := Aside0.mk hc0_2
 clear hr0_2 hc0_2
 have HB := Aside0.mk (Below.refl w.heap.size w)
 have H : ((impl_instOf.f k l0_0 a0_1 l0_2 a1).bind fun bt942 => (if bt942.2.2.2.2.2.2.2 = true then (if bt942.1 = 21 then (some (bt942.2.2.2.2.2.1, true)) else (some (0, false))) else (some (0, false)))) = some (r1, r2) := h
 clear h
 replace H := Option.bind_eq_some_iff.mp H
 obtain ⟨⟨t942, t943, t944, t945, t946, t947, t948, t951⟩, A30, H⟩ := H
 replace H : (if t951 = true then (if t942 = 21 then (some (t947, true)) else (some (0, false))) else (some (0, false))) = some (r1, r2) := H
 have A3 := Aside0.mk A30
 clear A30
 by_cases c4 : t951 = true
 ·subst c4
  have H1 := (if_pos rfl).symm.trans H
  clear H
  have H := H1
  clear H1
  by_cases c5 : t942 = 21
  ·rw [if_pos c5] at H
   have c5b0 : (t942 == 21) = true := beq_iff_eq.mpr c5
   have c5b1 : (t942 != 21) = false := bne_eq_false_iff_eq.mpr c5
   clear c5
   simp only [Option.some.injEq, Prod.mk.injEq] at H
   obtain ⟨rfl, rfl⟩ := H
   go_enter Try.func48, Try.ntmps48
   go_wp2_with (first | ((with_reducible refine gate_dst (N := 2) rfl ?_); refine box_event ?hg (N := 2) ?hd (cs := #[.slice A0_0 l0_0.length c0_0, .int .i64 a0_1, .slice A0_2 l0_2.length c0_2]) (t := 41) ?hr ?_; (case hd => rfl); (case hg => rfl); (case hr => first | (go_simp; done) | (go_simp; rfl)); intro gb941 hg w6 hbox hb; have n0_ := Aside0.mk (below_step hB_ hb); have n1_ := Aside0.mk (hbox); have n2_ := Aside0.mk ((sz_ hg (below_size hB_) : w.heap.size ≤ gb941)); have n3_ := Aside0.mk ((sz_ hg (below_size hB_) : w.heap.size ≤ gb941)); clear HB; have HB := n0_; have BK941 := n1_; have GW941 := n2_; have GE941 := n3_; clear n0_ n1_ n2_ n3_; clear hb hbox hg; obtain ⟨hcz7_0, hcz7_1, hcz7_2, hfz7_0, hfz7_1, hfz7_2⟩ := blkc3_ BK941.out) | ((with_reducible refine gate_callee (f := 86) rfl ?_); refine gL_ (some 11) Try.func86 #[.agg #[.slice A0_0 l0_0.length c0_0, .int .i64 a0_1, .slice A0_2 l0_2.length c0_2], .int .i64 a1] ?_; (with_reducible refine (impl_instOf.calls k _ _ l0_0 a0_1 (fun k_ => k_ < w.heap.size) _ _ l0_2 a1 t942 t943 t944 t945 t946 t947 t948 true _ ?side1 ?side2 ?side3 A3.out).mono ?_); (case side1 => exact cHR0_0_); (case side2 => exact HC0_0.out); (case side3 => exact Kd.V_mk HC0_2.out (Kd.F_below (Kd.C_F k88_heap HR0_2.out) hS_)); rintro e w8 ⟨v949, rfl, ho0, hb⟩; refine ⟨_, rfl, ?_⟩; have n0_ := Aside0.mk (Kd.V_lower (Kd.V_mono (ok' := fun k_ => k_ ≠ gb941) ho0 (fun k_ hk_ => Or.elim hk_ (fun hs_ => fun e_ => Nat.not_le.2 hs_ (by rw [e_]; exact GW941.out)) (fun hn_ => (Kd.freshB (g := gb941) (o := .cells #[.slice A0_0 l0_0.length c0_0, .int .i64 a0_1, .slice A0_2 l0_2.length c0_2] 41 (0, 0)) bK941_ k_ hn_)))) (below_size hS_)); have n1_ := Aside0.mk (blk_below (g := gb941) (o := .cells #[.slice A0_0 l0_0.length c0_0, .int .i64 a0_1, .slice A0_2 l0_2.length c0_2] 41 (0, 0)) bK941_ hb); have n2_ := Aside0.mk (below_step hS_ hb); clear BK941; clear HB; have HO950 := n0_; have BK941 := n1_; have HB := n2_; clear n0_ n1_ n2_; (try clear hb); (try clear hb2); (try clear hk); (try clear hi); (try clear ho0)) | ((with_reducible refine gate_dst (N := 6) rfl ?_); refine box_event ?hg (N := 6) ?hd (cs := #[.int .i64 0, .int .i64 0, .int .i64 0, .int .i64 0, .int .i64 0, .int .i64 0, .slice none 0 0]) (t := 27) ?hr ?_; (case hd => rfl); (case hg => rfl); (case hr => first | (go_simp; done) | (go_simp; rfl)); intro gb952 hg w9 hbox hb; have n0_ := Aside0.mk (Kd.V_below (Kd.V_elderB (by (with_reducible repeat (first | apply Kd.V_alloc | apply Kd.V_drewN | apply Kd.V_drew)); exact HO950.out) gb952 (Nat.le_of_eq hg.symm)) hb); have n1_ := Aside0.mk (blk_below (g := gb941) (o := .cells #[.slice A0_0 l0_0.length c0_0, .int .i64 a0_1, .slice A0_2 l0_2.length c0_2] 41 (0, 0)) bK941_ hb); have n2_ := Aside0.mk (below_step hS_ hb); have n3_ := Aside0.mk (hbox); have n4_ := Aside0.mk ((sz_ hg (below_size hS_) : w.heap.size ≤ gb952)); have n5_ := Aside0.mk ((sz_ hg (below_size hS_) : w.heap.size ≤ gb952)); have n6_ := Aside0.mk ((by rw [hg]; exact Nat.ne_of_lt (blk_lt (g := gb941) (o := .cells #[.slice A0_0 l0_0.length c0_0, .int .i64 a0_1, .slice A0_2 l0_2.length c0_2] 41 (0, 0)) bK941_) : gb941 ≠ gb952)); have n7_ := Aside0.mk ((by rw [hg]; exact Nat.ne_of_gt (blk_lt (g := gb941) (o := .cells #[.slice A0_0 l0_0.length c0_0, .int .i64 a0_1, .slice A0_2 l0_2.length c0_2] 41 (0, 0)) bK941_) : gb952 ≠ gb941)); clear HO950; clear BK941; clear HB; have HO950 := n0_; have BK941 := n1_; have HB := n2_; have BK952 := n3_; have GW952 := n4_; have GE952 := n5_; have NB941_952 := n6_; have NB952_941 := n7_; clear n0_ n1_ n2_ n3_ n4_ n5_ n6_ n7_; clear hb hbox hg; have hnb10 := NB952_941.out; have hnc10 := NB941_952.out; obtain ⟨hcz11_0, hcz11_1, hcz11_2, hcz11_3, hcz11_4, hcz11_5, hcz11_6, hfz11_0, hfz11_1, hfz11_2, hfz11_3, hfz11_4, hfz11_5, hfz11_6⟩ := blkc7_ BK952.out; obtain ⟨Ao12, co12, eo12⟩ := Kd.V_slice HO950.out; subst eo12))
   go_ret2
   exact ⟨rG_, hS_⟩
  ·rw [if_neg c5] at H
   have c5b0 : (t942 == 21) = false := beq_eq_false_iff_ne.mpr c5
   have c5b1 : (t942 != 21) = true := bne_iff_ne.mpr c5
   simp only [Option.some.injEq, Prod.mk.injEq] at H
   obtain ⟨rfl, rfl⟩ := H
   go_enter Try.func48, Try.ntmps48
   go_wp2_with (first | ((with_reducible refine gate_dst (N := 2) rfl ?_); refine box_event ?hg (N := 2) ?hd (cs := #[.slice A0_0 l0_0.length c0_0, .int .i64 a0_1, .slice A0_2 l0_2.length c0_2]) (t := 41) ?hr ?_; (case hd => rfl); (case hg => rfl); (case hr => first | (go_simp; done) | (go_simp; rfl)); intro gb941 hg w13 hbox hb; have n0_ := Aside0.mk (below_step hB_ hb); have n1_ := Aside0.mk (hbox); have n2_ := Aside0.mk ((sz_ hg (below_size hB_) : w.heap.size ≤ gb941)); have n3_ := Aside0.mk ((sz_ hg (below_size hB_) : w.heap.size ≤ gb941)); clear HB; have HB := n0_; have BK941 := n1_; have GW941 := n2_; have GE941 := n3_; clear n0_ n1_ n2_ n3_; clear hb hbox hg; obtain ⟨hcz14_0, hcz14_1, hcz14_2, hfz14_0, hfz14_1, hfz14_2⟩ := blkc3_ BK941.out) | ((with_reducible refine gate_callee (f := 86) rfl ?_); refine gL_ (some 11) Try.func86 #[.agg #[.slice A0_0 l0_0.length c0_0, .int .i64 a0_1, .slice A0_2 l0_2.length c0_2], .int .i64 a1] ?_; (with_reducible refine (impl_instOf.calls k _ _ l0_0 a0_1 (fun k_ => k_ < w.heap.size) _ _ l0_2 a1 t942 t943 t944 t945 t946 t947 t948 true _ ?side1 ?side2 ?side3 A3.out).mono ?_); (case side1 => exact cHR0_0_); (case side2 => exact HC0_0.out); (case side3 => exact Kd.V_mk HC0_2.out (Kd.F_below (Kd.C_F k88_heap HR0_2.out) hS_)); rintro e w15 ⟨v949, rfl, ho0, hb⟩; refine ⟨_, rfl, ?_⟩; have n0_ := Aside0.mk (Kd.V_lower (Kd.V_mono (ok' := fun k_ => k_ ≠ gb941) ho0 (fun k_ hk_ => Or.elim hk_ (fun hs_ => fun e_ => Nat.not_le.2 hs_ (by rw [e_]; exact GW941.out)) (fun hn_ => (Kd.freshB (g := gb941) (o := .cells #[.slice A0_0 l0_0.length c0_0, .int .i64 a0_1, .slice A0_2 l0_2.length c0_2] 41 (0, 0)) bK941_ k_ hn_)))) (below_size hS_)); have n1_ := Aside0.mk (blk_below (g := gb941) (o := .cells #[.slice A0_0 l0_0.length c0_0, .int .i64 a0_1, .slice A0_2 l0_2.length c0_2] 41 (0, 0)) bK941_ hb); have n2_ := Aside0.mk (below_step hS_ hb); clear BK941; clear HB; have HO950 := n0_; have BK941 := n1_; have HB := n2_; clear n0_ n1_ n2_; (try clear hb); (try clear hb2); (try clear hk); (try clear hi); (try clear ho0)) | ((with_reducible refine gate_dst (N := 6) rfl ?_); refine box_event ?hg (N := 6) ?hd (cs := #[.int .i64 0, .int .i64 0, .int .i64 0, .int .i64 0, .int .i64 0, .int .i64 0, .slice none 0 0]) (t := 27) ?hr ?_; (case hd => rfl); (case hg => rfl); (case hr => first | (go_simp; done) | (go_simp; rfl)); intro gb952 hg w16 hbox hb; have n0_ := Aside0.mk (Kd.V_below (Kd.V_elderB (by (with_reducible repeat (first | apply Kd.V_alloc | apply Kd.V_drewN | apply Kd.V_drew)); exact HO950.out) gb952 (Nat.le_of_eq hg.symm)) hb); have n1_ := Aside0.mk (blk_below (g := gb941) (o := .cells #[.slice A0_0 l0_0.length c0_0, .int .i64 a0_1, .slice A0_2 l0_2.length c0_2] 41 (0, 0)) bK941_ hb); have n2_ := Aside0.mk (below_step hS_ hb); have n3_ := Aside0.mk (hbox); have n4_ := Aside0.mk ((sz_ hg (below_size hS_) : w.heap.size ≤ gb952)); have n5_ := Aside0.mk ((sz_ hg (below_size hS_) : w.heap.size ≤ gb952)); have n6_ := Aside0.mk ((by rw [hg]; exact Nat.ne_of_lt (blk_lt (g := gb941) (o := .cells #[.slice A0_0 l0_0.length c0_0, .int .i64 a0_1, .slice A0_2 l0_2.length c0_2] 41 (0, 0)) bK941_) : gb941 ≠ gb952)); have n7_ := Aside0.mk ((by rw [hg]; exact Nat.ne_of_gt (blk_lt (g := gb941) (o := .cells #[.slice A0_0 l0_0.length c0_0, .int .i64 a0_1, .slice A0_2 l0_2.length c0_2] 41 (0, 0)) bK941_) : gb952 ≠ gb941)); clear HO950; clear BK941; clear HB; have HO950 := n0_; have BK941 := n1_; have HB := n2_; have BK952 := n3_; have GW952 := n4_; have GE952 := n5_; have NB941_952 := n6_; have NB952_941 := n7_; clear n0_ n1_ n2_ n3_ n4_ n5_ n6_ n7_; clear hb hbox hg; have hnb17 := NB952_941.out; have hnc17 := NB941_952.out; obtain ⟨hcz18_0, hcz18_1, hcz18_2, hcz18_3, hcz18_4, hcz18_5, hcz18_6, hfz18_0, hfz18_1, hfz18_2, hfz18_3, hfz18_4, hfz18_5, hfz18_6⟩ := blkc7_ BK952.out; obtain ⟨Ao19, co19, eo19⟩ := Kd.V_slice HO950.out; subst eo19))
   go_ret2
   exact ⟨rG_, hS_⟩
 ·replace c4 := Bool.eq_false_iff.mpr c4
  subst c4
  have H1 := (if_neg (show ¬ (false = true) by decide)).symm.trans H
  clear H
  have H := H1
  clear H1
  simp only [Option.some.injEq, Prod.mk.injEq] at H
  obtain ⟨rfl, rfl⟩ := H
  go_enter Try.func48, Try.ntmps48
  go_wp2_with (first | ((with_reducible refine gate_dst (N := 2) rfl ?_); refine box_event ?hg (N := 2) ?hd (cs := #[.slice A0_0 l0_0.length c0_0, .int .i64 a0_1, .slice A0_2 l0_2.length c0_2]) (t := 41) ?hr ?_; (case hd => rfl); (case hg => rfl); (case hr => first | (go_simp; done) | (go_simp; rfl)); intro gb941 hg w20 hbox hb; have n0_ := Aside0.mk (below_step hB_ hb); have n1_ := Aside0.mk (hbox); have n2_ := Aside0.mk ((sz_ hg (below_size hB_) : w.heap.size ≤ gb941)); have n3_ := Aside0.mk ((sz_ hg (below_size hB_) : w.heap.size ≤ gb941)); clear HB; have HB := n0_; have BK941 := n1_; have GW941 := n2_; have GE941 := n3_; clear n0_ n1_ n2_ n3_; clear hb hbox hg; obtain ⟨hcz21_0, hcz21_1, hcz21_2, hfz21_0, hfz21_1, hfz21_2⟩ := blkc3_ BK941.out) | ((with_reducible refine gate_callee (f := 86) rfl ?_); refine gL_ (some 11) Try.func86 #[.agg #[.slice A0_0 l0_0.length c0_0, .int .i64 a0_1, .slice A0_2 l0_2.length c0_2], .int .i64 a1] ?_; (with_reducible refine (impl_instOf.calls k _ _ l0_0 a0_1 (fun k_ => k_ < w.heap.size) _ _ l0_2 a1 t942 t943 t944 t945 t946 t947 t948 false _ ?side1 ?side2 ?side3 A3.out).mono ?_); (case side1 => exact cHR0_0_); (case side2 => exact HC0_0.out); (case side3 => exact Kd.V_mk HC0_2.out (Kd.F_below (Kd.C_F k88_heap HR0_2.out) hS_)); rintro e w22 ⟨v949, rfl, ho0, hb⟩; refine ⟨_, rfl, ?_⟩; have n0_ := Aside0.mk (Kd.V_lower (Kd.V_mono (ok' := fun k_ => k_ ≠ gb941) ho0 (fun k_ hk_ => Or.elim hk_ (fun hs_ => fun e_ => Nat.not_le.2 hs_ (by rw [e_]; exact GW941.out)) (fun hn_ => (Kd.freshB (g := gb941) (o := .cells #[.slice A0_0 l0_0.length c0_0, .int .i64 a0_1, .slice A0_2 l0_2.length c0_2] 41 (0, 0)) bK941_ k_ hn_)))) (below_size hS_)); have n1_ := Aside0.mk (blk_below (g := gb941) (o := .cells #[.slice A0_0 l0_0.length c0_0, .int .i64 a0_1, .slice A0_2 l0_2.length c0_2] 41 (0, 0)) bK941_ hb); have n2_ := Aside0.mk (below_step hS_ hb); clear BK941; clear HB; have HO950 := n0_; have BK941 := n1_; have HB := n2_; clear n0_ n1_ n2_; (try clear hb); (try clear hb2); (try clear hk); (try clear hi); (try clear ho0)) | ((with_reducible refine gate_dst (N := 6) rfl ?_); refine box_event ?hg (N := 6) ?hd (cs := #[.int .i64 0, .int .i64 0, .int .i64 0, .int .i64 0, .int .i64 0, .int .i64 0, .slice none 0 0]) (t := 27) ?hr ?_; (case hd => rfl); (case hg => rfl); (case hr => first | (go_simp; done) | (go_simp; rfl)); intro gb952 hg w23 hbox hb; have n0_ := Aside0.mk (Kd.V_below (Kd.V_elderB (by (with_reducible repeat (first | apply Kd.V_alloc | apply Kd.V_drewN | apply Kd.V_drew)); exact HO950.out) gb952 (Nat.le_of_eq hg.symm)) hb); have n1_ := Aside0.mk (blk_below (g := gb941) (o := .cells #[.slice A0_0 l0_0.length c0_0, .int .i64 a0_1, .slice A0_2 l0_2.length c0_2] 41 (0, 0)) bK941_ hb); have n2_ := Aside0.mk (below_step hS_ hb); have n3_ := Aside0.mk (hbox); have n4_ := Aside0.mk ((sz_ hg (below_size hS_) : w.heap.size ≤ gb952)); have n5_ := Aside0.mk ((sz_ hg (below_size hS_) : w.heap.size ≤ gb952)); have n6_ := Aside0.mk ((by rw [hg]; exact Nat.ne_of_lt (blk_lt (g := gb941) (o := .cells #[.slice A0_0 l0_0.length c0_0, .int .i64 a0_1, .slice A0_2 l0_2.length c0_2] 41 (0, 0)) bK941_) : gb941 ≠ gb952)); have n7_ := Aside0.mk ((by rw [hg]; exact Nat.ne_of_gt (blk_lt (g := gb941) (o := .cells #[.slice A0_0 l0_0.length c0_0, .int .i64 a0_1, .slice A0_2 l0_2.length c0_2] 41 (0, 0)) bK941_) : gb952 ≠ gb941)); clear HO950; clear BK941; clear HB; have HO950 := n0_; have BK941 := n1_; have HB := n2_; have BK952 := n3_; have GW952 := n4_; have GE952 := n5_; have NB941_952 := n6_; have NB952_941 := n7_; clear n0_ n1_ n2_ n3_ n4_ n5_ n6_ n7_; clear hb hbox hg; have hnb24 := NB952_941.out; have hnc24 := NB941_952.out; obtain ⟨hcz25_0, hcz25_1, hcz25_2, hcz25_3, hcz25_4, hcz25_5, hcz25_6, hfz25_0, hfz25_1, hfz25_2, hfz25_3, hfz25_4, hfz25_5, hfz25_6⟩ := blkc7_ BK952.out; obtain ⟨Ao26, co26, eo26⟩ := Kd.V_slice HO950.out; subst eo26))
  go_ret2
  exact ⟨rG_, hS_⟩
/-! ### laws_FnExactConstOf: function 10 -/
def laws_FnExactConstOf.j0 : Nat → Bool → List Int → Int → List (S113) → List Int → Int → List (S88) → Option (Bool)
 | 0, _, _, _, _, _, _, _ => none
 | k + 1, x38, x954000, x954001, x954002, x972000, x972001, x972002 => if x38 = true then (some false) else ((laws_toFunc.f k x954000 x954001 x954002).bind fun bt974 => ((laws_eqFunc.f k x972000 x972001 x972002 bt974.1 bt974.2.1 bt974.2.2).bind fun t981 => (if t981 = true then (some true) else (some false))))
def laws_FnExactConstOf.f (k : Nat) (l0_0 : List Int) (a0_1 : Int) (l0_2 : List (S113)) (a1 : Int) : Option (Bool) := (laws_szFunc.f k l0_0 a0_1 l0_2 1048576).bind fun t954 => (if t954 < 0 then (some true) else ((laws_toFunc.f k l0_0 a0_1 l0_2).bind fun bt955 => ((spec_ConstOf.f k bt955.1 bt955.2.1 bt955.2.2 a1).bind fun bt962 => ((laws_toFunc.f k l0_0 a0_1 l0_2).bind fun bt964 => ((impl_ConstOf.f k bt964.1 bt964.2.1 bt964.2.2 a1).bind fun bt972 => (if bt972.1 = bt962.1 then (laws_FnExactConstOf.j0 k (bt972.2 != bt962.2) l0_0 a0_1 l0_2 bt964.1 bt964.2.1 bt964.2.2) else (laws_FnExactConstOf.j0 k true l0_0 a0_1 l0_2 bt964.1 bt964.2.1 bt964.2.2)))))))
theorem laws_FnExactConstOf.mono_l : ∀ k, (∀ y0 y1 y2 y3 y4 y5 y6, LeO (laws_FnExactConstOf.j0 k y0 y1 y2 y3 y4 y5 y6) (laws_FnExactConstOf.j0 (k + 1) y0 y1 y2 y3 y4 y5 y6))
 | 0 => fun _ _ _ _ _ _ _ r h => by simp [laws_FnExactConstOf.j0] at h
 | k + 1 => by
  have ih0 := laws_FnExactConstOf.mono_l k
  ·intro y0 y1 y2 y3 y4 y5 y6
   unfold laws_FnExactConstOf.j0
   repeat' first
   | (with_reducible exact ih0 _ _ _ _ _ _ _)
   | (with_reducible exact impl_ConstOf.mono _ _ _ _ _)
   | (with_reducible exact laws_eqFunc.mono _ _ _ _ _ _ _)
   | (with_reducible exact laws_szFunc.mono _ _ _ _ _)
   | (with_reducible exact laws_toFunc.mono _ _ _ _)
   | (with_reducible exact spec_ConstOf.mono _ _ _ _ _)
   | (with_reducible exact LeO.refl _)
   | (with_reducible exact LeO.none _)
   | (with_reducible refine LeO.ite ?_ ?_)
   | (with_reducible refine LeO.bind ?_ (fun _ => ?_))
   | exact ih0 _ _ _ _ _ _ _
   | exact impl_ConstOf.mono _ _ _ _ _
   | exact laws_eqFunc.mono _ _ _ _ _ _ _
   | exact laws_szFunc.mono _ _ _ _ _
   | exact laws_toFunc.mono _ _ _ _
   | exact spec_ConstOf.mono _ _ _ _ _
   | exact LeO.none _
   | refine LeO.ite ?_ ?_
   | refine LeO.bind ?_ (fun _ => ?_)
theorem laws_FnExactConstOf.mono : ∀ a0 a1 a2 a3 k, LeO (laws_FnExactConstOf.f k a0 a1 a2 a3) (laws_FnExactConstOf.f (k + 1) a0 a1 a2 a3) := by
 intro a0 a1 a2 a3 k
 have ih0 := laws_FnExactConstOf.mono_l k
 unfold laws_FnExactConstOf.f
 repeat' first
   | (with_reducible exact ih0 _ _ _ _ _ _ _)
   | (with_reducible exact impl_ConstOf.mono _ _ _ _ _)
   | (with_reducible exact laws_eqFunc.mono _ _ _ _ _ _ _)
   | (with_reducible exact laws_szFunc.mono _ _ _ _ _)
   | (with_reducible exact laws_toFunc.mono _ _ _ _)
   | (with_reducible exact spec_ConstOf.mono _ _ _ _ _)
   | (with_reducible exact LeO.refl _)
   | (with_reducible exact LeO.none _)
   | (with_reducible refine LeO.ite ?_ ?_)
   | (with_reducible refine LeO.bind ?_ (fun _ => ?_))
   | exact ih0 _ _ _ _ _ _ _
   | exact impl_ConstOf.mono _ _ _ _ _
   | exact laws_eqFunc.mono _ _ _ _ _ _ _
   | exact laws_szFunc.mono _ _ _ _ _
   | exact laws_toFunc.mono _ _ _ _
   | exact spec_ConstOf.mono _ _ _ _ _
   | exact LeO.none _
   | refine LeO.ite ?_ ?_
   | refine LeO.bind ?_ (fun _ => ?_)
set_option maxHeartbeats 8000000 in
set_option maxRecDepth 100000 in
theorem laws_FnExactConstOf.calls (k : Nat) (A0_0 : Option Addr) (c0_0 : Nat) (l0_0 : List Int) (a0_1 : Int) (A0_2 : Option Addr) (c0_2 : Nat) (l0_2 : List (S113)) (a1 : Int) (r : Bool) (w : World) (hr0_0 : Kd.C (Kd.int .i64) w A0_0 l0_0.length l0_0) (hc0_0 : l0_0.length ≤ c0_0) (hr0_2 : Kd.C k113 w A0_2 l0_2.length l0_2) (hc0_2 : l0_2.length ≤ c0_2) (h : laws_FnExactConstOf.f k l0_0 a0_1 l0_2 a1 = some r) :
  Calls Try.prog 10 #[.agg #[.slice A0_0 l0_0.length c0_0, .int .i64 a0_1, .slice A0_2 l0_2.length c0_2], .int .i64 a1] w fun e w' => e = .returned (.bool r) ∧ Below w.heap.size w w' := by
 have hu54 := Try.underlying54
 have hu41 := Try.underlying41
 have HR0_0 := Aside0.mk hr0_0
 have HC0_0 := Aside0.mk hc0_0
 clear hr0_0 hc0_0
 have HR0_2 := Aside0.mk hr0_2
 have HC0_2 := Aside0.mk hc0_2
 clear hr0_2 hc0_2
 have HB := Aside0.mk (Below.refl w.heap.size w)
 have H : ((laws_szFunc.f k l0_0 a0_1 l0_2 1048576).bind fun t954 => (if t954 < 0 then (some true) else ((laws_toFunc.f k l0_0 a0_1 l0_2).bind fun bt955 => ((spec_ConstOf.f k bt955.1 bt955.2.1 bt955.2.2 a1).bind fun bt962 => ((laws_toFunc.f k l0_0 a0_1 l0_2).bind fun bt964 => ((impl_ConstOf.f k bt964.1 bt964.2.1 bt964.2.2 a1).bind fun bt972 => (if bt972.1 = bt962.1 then (laws_FnExactConstOf.j0 k (bt972.2 != bt962.2) l0_0 a0_1 l0_2 bt964.1 bt964.2.1 bt964.2.2) else (laws_FnExactConstOf.j0 k true l0_0 a0_1 l0_2 bt964.1 bt964.2.1 bt964.2.2)))))))) = some r := h
 clear h
 replace H := Option.bind_eq_some_iff.mp H
 obtain ⟨t954, A30, H⟩ := H
 replace H : (if t954 < 0 then (some true) else ((laws_toFunc.f k l0_0 a0_1 l0_2).bind fun bt955 => ((spec_ConstOf.f k bt955.1 bt955.2.1 bt955.2.2 a1).bind fun bt962 => ((laws_toFunc.f k l0_0 a0_1 l0_2).bind fun bt964 => ((impl_ConstOf.f k bt964.1 bt964.2.1 bt964.2.2 a1).bind fun bt972 => (if bt972.1 = bt962.1 then (laws_FnExactConstOf.j0 k (bt972.2 != bt962.2) l0_0 a0_1 l0_2 bt964.1 bt964.2.1 bt964.2.2) else (laws_FnExactConstOf.j0 k true l0_0 a0_1 l0_2 bt964.1 bt964.2.1 bt964.2.2))))))) = some r := H
 have A3 := Aside0.mk A30
 clear A30
 by_cases c4 : t954 < 0
 ·rw [if_pos c4] at H
  have c4b0 : decide (t954 < 0) = true := decide_eq_true c4
  clear c4
  obtain rfl := Option.some.inj H
  go_enter Try.func10, Try.ntmps10
  go_wp2_with (first | ((with_reducible refine gate_dst (N := 2) rfl ?_); refine box_event ?hg (N := 2) ?hd (cs := #[.slice A0_0 l0_0.length c0_0, .int .i64 a0_1, .slice A0_2 l0_2.length c0_2]) (t := 54) ?hr ?_; (case hd => rfl); (case hg => rfl); (case hr => first | (go_simp; done) | (go_simp; rfl)); intro gb953 hg w5 hbox hb; have n0_ := Aside0.mk (below_step hB_ hb); have n1_ := Aside0.mk (hbox); have n2_ := Aside0.mk ((sz_ hg (below_size hB_) : w.heap.size ≤ gb953)); have n3_ := Aside0.mk ((sz_ hg (below_size hB_) : w.heap.size ≤ gb953)); clear HB; have HB := n0_; have BK953 := n1_; have GW953 := n2_; have GE953 := n3_; clear n0_ n1_ n2_ n3_; clear hb hbox hg; obtain ⟨hcz6_0, hcz6_1, hcz6_2, hfz6_0, hfz6_1, hfz6_2⟩ := blkc3_ BK953.out) | ((with_reducible refine gate_callee (f := 40) rfl ?_); refine gL_ (some 13) Try.func40 #[.agg #[.slice A0_0 l0_0.length c0_0, .int .i64 a0_1, .slice A0_2 l0_2.length c0_2], .int .i64 1048576] ?_; (with_reducible refine (laws_szFunc.calls k _ _ l0_0 a0_1 _ _ l0_2 1048576 t954 _ ?side1 ?side2 ?side3 ?side4 A3.out).mono ?_); (case side1 => exact cHR0_0_); (case side2 => exact HC0_0.out); (case side3 => exact cHR0_2_); (case side4 => exact HC0_2.out); rintro e w7 ⟨rfl, hb⟩; refine ⟨_, rfl, ?_⟩; have n0_ := Aside0.mk (blk_below (g := gb953) (o := .cells #[.slice A0_0 l0_0.length c0_0, .int .i64 a0_1, .slice A0_2 l0_2.length c0_2] 54 (0, 0)) bK953_ hb); have n1_ := Aside0.mk (below_step hS_ hb); clear BK953; clear HB; have BK953 := n0_; have HB := n1_; clear n0_ n1_; (try clear hb); (try clear hb2); (try clear hk); (try clear hi)))
  go_ret
  exact ⟨rG_, hS_⟩
 ·rw [if_neg c4] at H
  have c4b0 : decide (t954 < 0) = false := decide_eq_false c4
  clear c4
  replace H := Option.bind_eq_some_iff.mp H
  obtain ⟨⟨t955, t958, t959⟩, A80, H⟩ := H
  replace H : ((spec_ConstOf.f k t955 t958 t959 a1).bind fun bt962 => ((laws_toFunc.f k l0_0 a0_1 l0_2).bind fun bt964 => ((impl_ConstOf.f k bt964.1 bt964.2.1 bt964.2.2 a1).bind fun bt972 => (if bt972.1 = bt962.1 then (laws_FnExactConstOf.j0 k (bt972.2 != bt962.2) l0_0 a0_1 l0_2 bt964.1 bt964.2.1 bt964.2.2) else (laws_FnExactConstOf.j0 k true l0_0 a0_1 l0_2 bt964.1 bt964.2.1 bt964.2.2))))) = some r := H
  have A8 := Aside0.mk A80
  clear A80
  replace H := Option.bind_eq_some_iff.mp H
  obtain ⟨⟨t962, t963⟩, A90, H⟩ := H
  replace H : ((laws_toFunc.f k l0_0 a0_1 l0_2).bind fun bt964 => ((impl_ConstOf.f k bt964.1 bt964.2.1 bt964.2.2 a1).bind fun bt972 => (if bt972.1 = t962 then (laws_FnExactConstOf.j0 k (bt972.2 != t963) l0_0 a0_1 l0_2 bt964.1 bt964.2.1 bt964.2.2) else (laws_FnExactConstOf.j0 k true l0_0 a0_1 l0_2 bt964.1 bt964.2.1 bt964.2.2)))) = some r := H
  have A9 := Aside0.mk A90
  clear A90
  replace H := Option.bind_eq_some_iff.mp H
  obtain ⟨⟨t964, t967, t968⟩, A100, H⟩ := H
  replace H : ((impl_ConstOf.f k t964 t967 t968 a1).bind fun bt972 => (if bt972.1 = t962 then (laws_FnExactConstOf.j0 k (bt972.2 != t963) l0_0 a0_1 l0_2 t964 t967 t968) else (laws_FnExactConstOf.j0 k true l0_0 a0_1 l0_2 t964 t967 t968))) = some r := H
  have A10 := Aside0.mk A100
  clear A100
  replace H := Option.bind_eq_some_iff.mp H
  obtain ⟨⟨t972, t973⟩, A110, H⟩ := H
  replace H : (if t972 = t962 then (laws_FnExactConstOf.j0 k (t973 != t963) l0_0 a0_1 l0_2 t964 t967 t968) else (laws_FnExactConstOf.j0 k true l0_0 a0_1 l0_2 t964 t967 t968)) = some r := H
  have A11 := Aside0.mk A110
  clear A110
  have HC12 := Aside0.mk H
  clear H
  go_enter Try.func10, Try.ntmps10
  go_upto_region 8 with (first | ((with_reducible refine gate_dst (N := 2) rfl ?_); refine box_event ?hg (N := 2) ?hd (cs := #[.slice A0_0 l0_0.length c0_0, .int .i64 a0_1, .slice A0_2 l0_2.length c0_2]) (t := 54) ?hr ?_; (case hd => rfl); (case hg => rfl); (case hr => first | (go_simp; done) | (go_simp; rfl)); intro gb953 hg w13 hbox hb; have n0_ := Aside0.mk (below_step hB_ hb); have n1_ := Aside0.mk (hbox); have n2_ := Aside0.mk ((sz_ hg (below_size hB_) : w.heap.size ≤ gb953)); have n3_ := Aside0.mk ((sz_ hg (below_size hB_) : w.heap.size ≤ gb953)); clear HB; have HB := n0_; have BK953 := n1_; have GW953 := n2_; have GE953 := n3_; clear n0_ n1_ n2_ n3_; clear hb hbox hg; obtain ⟨hcz14_0, hcz14_1, hcz14_2, hfz14_0, hfz14_1, hfz14_2⟩ := blkc3_ BK953.out) | ((with_reducible refine gate_callee (f := 40) rfl ?_); refine gL_ (some 13) Try.func40 #[.agg #[.slice A0_0 l0_0.length c0_0, .int .i64 a0_1, .slice A0_2 l0_2.length c0_2], .int .i64 1048576] ?_; (with_reducible refine (laws_szFunc.calls k _ _ l0_0 a0_1 _ _ l0_2 1048576 t954 _ ?side1 ?side2 ?side3 ?side4 A3.out).mono ?_); (case side1 => exact cHR0_0_); (case side2 => exact HC0_0.out); (case side3 => exact cHR0_2_); (case side4 => exact HC0_2.out); rintro e w15 ⟨rfl, hb⟩; refine ⟨_, rfl, ?_⟩; have n0_ := Aside0.mk (blk_below (g := gb953) (o := .cells #[.slice A0_0 l0_0.length c0_0, .int .i64 a0_1, .slice A0_2 l0_2.length c0_2] 54 (0, 0)) bK953_ hb); have n1_ := Aside0.mk (below_step hS_ hb); clear BK953; clear HB; have BK953 := n0_; have HB := n1_; clear n0_ n1_; (try clear hb); (try clear hb2); (try clear hk); (try clear hi); obtain ⟨hcz16_0, hcz16_1, hcz16_2, hfz16_0, hfz16_1, hfz16_2⟩ := blkc3_ BK953.out) | ((with_reducible refine gate_callee (f := 42) rfl ?_); refine gL_ (some 18) Try.func42 #[.agg #[.slice A0_0 l0_0.length c0_0, .int .i64 a0_1, .slice A0_2 l0_2.length c0_2]] ?_; (with_reducible refine (laws_toFunc.calls k _ _ l0_0 a0_1 _ _ l0_2 t955 t958 t959 _ ?side1 ?side2 ?side3 ?side4 A8.out).mono ?_); (case side1 => exact cHR0_0_); (case side2 => exact HC0_0.out); (case side3 => exact cHR0_2_); (case side4 => exact HC0_2.out); rintro e w17 ⟨v956, v960, rfl, ho0, ho1, hb⟩; refine ⟨_, rfl, ?_⟩; have n0_ := Aside0.mk (Kd.R_lower ho0 (below_size hS_)); have n1_ := Aside0.mk (Kd.R_lower ho1 (below_size hS_)); have n2_ := Aside0.mk (blk_below (g := gb953) (o := .cells #[.slice A0_0 l0_0.length c0_0, .int .i64 a0_1, .slice A0_2 l0_2.length c0_2] 54 (0, 0)) bK953_ hb); have n3_ := Aside0.mk (below_step hS_ hb); clear BK953; clear HB; have HO957 := n0_; have HO961 := n1_; have BK953 := n2_; have HB := n3_; clear n0_ n1_ n2_ n3_; (try clear hb); (try clear hb2); (try clear hk); (try clear hi); (try clear ho0); (try clear ho1); obtain ⟨Ao18, co18, eo18⟩ := Kd.R_slice HO957.out; subst eo18; obtain ⟨Ao19, co19, eo19⟩ := Kd.R_slice HO961.out; subst eo19) | ((with_reducible refine gate_callee (f := 47) rfl ?_); refine gL_ (some 20) Try.func47 #[.agg #[.slice Ao18 t955.length co18, .int .i64 t958, .slice Ao19 t959.length co19], .int .i64 a1] ?_; (with_reducible refine (spec_ConstOf.calls k _ _ t955 t958 _ _ t959 a1 t962 t963 _ ?side1 ?side2 ?side3 ?side4 A9.out).mono ?_); (case side1 => repeat (first | exact (Kd.R_reads' HO957.out).2.2 | (with_reducible refine Kd.C_alloc ?_ _) | (with_reducible refine Kd.C_drewN ?_ _) | (with_reducible refine Kd.C_drew ?_))); (case side2 => exact (Kd.R_reads' HO957.out).2.1); (case side3 => repeat (first | exact (Kd.R_reads' HO961.out).2.2 | (with_reducible refine Kd.C_alloc ?_ _) | (with_reducible refine Kd.C_drewN ?_ _) | (with_reducible refine Kd.C_drew ?_))); (case side4 => exact (Kd.R_reads' HO961.out).2.1); rintro e w20 ⟨rfl, hb⟩; refine ⟨_, rfl, ?_⟩; have n0_ := Aside0.mk (Kd.R_below rHO957_ hb); have n1_ := Aside0.mk (Kd.R_below rHO961_ hb); have n2_ := Aside0.mk (blk_below (g := gb953) (o := .cells #[.slice A0_0 l0_0.length c0_0, .int .i64 a0_1, .slice A0_2 l0_2.length c0_2] 54 (0, 0)) bK953_ hb); have n3_ := Aside0.mk (below_step hS_ hb); clear HO957; clear HO961; clear BK953; clear HB; have HO957 := n0_; have HO961 := n1_; have BK953 := n2_; have HB := n3_; clear n0_ n1_ n2_ n3_; (try clear hb); (try clear hb2); (try clear hk); (try clear hi); obtain ⟨hcz21_0, hcz21_1, hcz21_2, hfz21_0, hfz21_1, hfz21_2⟩ := blkc3_ BK953.out) | ((with_reducible refine gate_callee (f := 42) rfl ?_); refine gL_ (some 24) Try.func42 #[.agg #[.slice A0_0 l0_0.length c0_0, .int .i64 a0_1, .slice A0_2 l0_2.length c0_2]] ?_; (with_reducible refine (laws_toFunc.calls k _ _ l0_0 a0_1 _ _ l0_2 t964 t967 t968 _ ?side1 ?side2 ?side3 ?side4 A10.out).mono ?_); (case side1 => exact cHR0_0_); (case side2 => exact HC0_0.out); (case side3 => exact cHR0_2_); (case side4 => exact HC0_2.out); rintro e w22 ⟨v965, v969, rfl, ho0, ho1, hb⟩; refine ⟨_, rfl, ?_⟩; have n0_ := Aside0.mk (Kd.R_elder' rHO957_ (Kd.R_base ho0) hb); have n1_ := Aside0.mk (Kd.R_mono (Kd.R_told (Kd.R_told (Kd.R_old rHO961_ hb) (Kd.R_base ho0)) (Kd.R_base ho1)) (fun _ h_ => h_.1)); have n2_ := Aside0.mk (Kd.R_lower (Kd.R_new' ho0 (Kd.R_lt rHO957_)) (below_size hS_)); have n3_ := Aside0.mk (Kd.R_lower (Kd.R_new' (Kd.R_new' ho1 (Kd.R_lt rHO957_)) (Kd.R_lt rHO961_)) (below_size hS_)); have n4_ := Aside0.mk (blk_below (g := gb953) (o := .cells #[.slice A0_0 l0_0.length c0_0, .int .i64 a0_1, .slice A0_2 l0_2.length c0_2] 54 (0, 0)) bK953_ hb); have n5_ := Aside0.mk (below_step hS_ hb); clear HO957; clear HO961; clear BK953; clear HB; have HO957 := n0_; have HO961 := n1_; have HO966 := n2_; have HO970 := n3_; have BK953 := n4_; have HB := n5_; clear n0_ n1_ n2_ n3_ n4_ n5_; (try clear hb); (try clear hb2); (try clear hk); (try clear hi); (try clear ho0); (try clear ho1)) | ((with_reducible refine gate_dst (N := 8) rfl ?_); refine box_event ?hg (N := 8) ?hd (cs := #[.slice none 0 0, .int .i64 0, .slice none 0 0]) (t := 41) ?hr ?_; (case hd => rfl); (case hg => rfl); (case hr => first | (go_simp; done) | (go_simp; rfl)); intro gb971 hg w23 hbox hb; have n0_ := Aside0.mk (Kd.R_below rHO957_ hb); have n1_ := Aside0.mk (Kd.R_below rHO961_ hb); have n2_ := Aside0.mk (Kd.R_below rHO966_ hb); have n3_ := Aside0.mk (Kd.R_below rHO970_ hb); have n4_ := Aside0.mk (blk_below (g := gb953) (o := .cells #[.slice A0_0 l0_0.length c0_0, .int .i64 a0_1, .slice A0_2 l0_2.length c0_2] 54 (0, 0)) bK953_ hb); have n5_ := Aside0.mk (below_step hS_ hb); have n6_ := Aside0.mk (hbox); have n7_ := Aside0.mk ((sz_ hg (below_size hS_) : w.heap.size ≤ gb971)); have n8_ := Aside0.mk ((sz_ hg (below_size hS_) : w.heap.size ≤ gb971)); have n9_ := Aside0.mk ((by rw [hg]; exact Nat.ne_of_lt (blk_lt (g := gb953) (o := .cells #[.slice A0_0 l0_0.length c0_0, .int .i64 a0_1, .slice A0_2 l0_2.length c0_2] 54 (0, 0)) bK953_) : gb953 ≠ gb971)); have n10_ := Aside0.mk ((by rw [hg]; exact Nat.ne_of_gt (blk_lt (g := gb953) (o := .cells #[.slice A0_0 l0_0.length c0_0, .int .i64 a0_1, .slice A0_2 l0_2.length c0_2] 54 (0, 0)) bK953_) : gb971 ≠ gb953)); clear HO957; clear HO961; clear HO966; clear HO970; clear BK953; clear HB; have HO957 := n0_; have HO961 := n1_; have HO966 := n2_; have HO970 := n3_; have BK953 := n4_; have HB := n5_; have BK971 := n6_; have GW971 := n7_; have GE971 := n8_; have NB953_971 := n9_; have NB971_953 := n10_; clear n0_ n1_ n2_ n3_ n4_ n5_ n6_ n7_ n8_ n9_ n10_; clear hb hbox hg; obtain ⟨Ao24, co24, eo24⟩ := Kd.R_slice HO966.out; subst eo24; have hnb25 := NB971_953.out; have hnc25 := NB953_971.out; obtain ⟨hcz26_0, hcz26_1, hcz26_2, hfz26_0, hfz26_1, hfz26_2⟩ := blkc3_ BK971.out; obtain ⟨Ao27, co27, eo27⟩ := Kd.R_slice HO970.out; subst eo27) | ((with_reducible refine gate_callee (f := 48) rfl ?_); refine gL_ (some 28) Try.func48 #[.agg #[.slice Ao24 t964.length co24, .int .i64 t967, .slice Ao27 t968.length co27], .int .i64 a1] ?_; (with_reducible refine (impl_ConstOf.calls k _ _ t964 t967 _ _ t968 a1 t972 t973 _ ?side1 ?side2 ?side3 ?side4 A11.out).mono ?_); (case side1 => refine (Kd.R_reads' (e := 2) (base := w.heap.size) (ok := fun k_ => (True ∧ some k_ ≠ (.slice Ao18 t955.length co18 : Value).ownBlock)) (n := t964.length) (c := co24) ?_).2.2; exact (by (with_reducible repeat (first | apply Kd.R_alloc | apply Kd.R_drewN | apply Kd.R_drew)); exact (rf3_ HO966.out BK971.out (by decide) (.slice Ao24 t964.length co24) (.int .i64 t967) (.slice Ao27 t968.length co27)))); (case side2 => exact (Kd.R_reads' HO966.out).2.1); (case side3 => refine (Kd.R_reads' (e := 88) (base := w.heap.size) (ok := fun k_ => ((some k_ ≠ (.slice Ao24 t964.length co24 : Value).ownBlock ∧ some k_ ≠ (.slice Ao18 t955.length co18 : Value).ownBlock) ∧ some k_ ≠ (.slice Ao19 t959.length co19 : Value).ownBlock)) (n := t968.length) (c := co27) ?_).2.2; exact (by (with_reducible repeat (first | apply Kd.R_alloc | apply Kd.R_drewN | apply Kd.R_drew)); exact (rf3_ HO970.out BK971.out (by decide) (.slice Ao24 t964.length co24) (.int .i64 t967) (.slice Ao27 t968.length co27)))); (case side4 => exact (Kd.R_reads' HO970.out).2.1); rintro e w28 ⟨rfl, hb⟩; refine ⟨_, rfl, ?_⟩; have n0_ := Aside0.mk (Kd.R_below (by (with_reducible repeat (first | apply Kd.R_alloc | apply Kd.R_drewN | apply Kd.R_drew)); exact (rf3_ HO957.out BK971.out (by decide) (.slice Ao24 t964.length co24) (.int .i64 t967) (.slice Ao27 t968.length co27))) hb); have n1_ := Aside0.mk (Kd.R_below (by (with_reducible repeat (first | apply Kd.R_alloc | apply Kd.R_drewN | apply Kd.R_drew)); exact (rf3_ HO961.out BK971.out (by decide) (.slice Ao24 t964.length co24) (.int .i64 t967) (.slice Ao27 t968.length co27))) hb); have n2_ := Aside0.mk (Kd.R_below (by (with_reducible repeat (first | apply Kd.R_alloc | apply Kd.R_drewN | apply Kd.R_drew)); exact (rf3_ HO966.out BK971.out (by decide) (.slice Ao24 t964.length co24) (.int .i64 t967) (.slice Ao27 t968.length co27))) hb); have n3_ := Aside0.mk (Kd.R_below (by (with_reducible repeat (first | apply Kd.R_alloc | apply Kd.R_drewN | apply Kd.R_drew)); exact (rf3_ HO970.out BK971.out (by decide) (.slice Ao24 t964.length co24) (.int .i64 t967) (.slice Ao27 t968.length co27))) hb); have n4_ := Aside0.mk (blk_below (g := gb953) (o := .cells #[.slice A0_0 l0_0.length c0_0, .int .i64 a0_1, .slice A0_2 l0_2.length c0_2] 54 (0, 0)) fK953_ hb); have n5_ := Aside0.mk (blk_below (g := gb971) (o := .cells #[.slice Ao24 t964.length co24, .int .i64 t967, .slice Ao27 t968.length co27] 41 (0, 0)) (by (with_reducible repeat (first | refine blk_drewN ?_ _ | refine blk_drew ?_ | refine blk_alloc ?_ _)); refine blk_put (cs := #[.slice Ao24 t964.length co24, .int .i64 t967, .slice none 0 0]) ?_ 2 _ rfl; (with_reducible repeat (first | refine blk_drewN ?_ _ | refine blk_drew ?_ | refine blk_alloc ?_ _)); refine blk_put (cs := #[.slice Ao24 t964.length co24, .int .i64 0, .slice none 0 0]) ?_ 1 _ rfl; (with_reducible repeat (first | refine blk_drewN ?_ _ | refine blk_drew ?_ | refine blk_alloc ?_ _)); refine blk_put (cs := #[.slice none 0 0, .int .i64 0, .slice none 0 0]) ?_ 0 _ rfl; (with_reducible repeat (first | refine blk_drewN ?_ _ | refine blk_drew ?_ | refine blk_alloc ?_ _)); exact BK971.out) hb); have n6_ := Aside0.mk (below_step hS_ hb); clear HO957; clear HO961; clear HO966; clear HO970; clear BK953; clear BK971; clear HB; have HO957 := n0_; have HO961 := n1_; have HO966 := n2_; have HO970 := n3_; have BK953 := n4_; have BK971 := n5_; have HB := n6_; clear n0_ n1_ n2_ n3_ n4_ n5_ n6_; (try clear hb); (try clear hb2); (try clear hk); (try clear hi)))
  (try simp only [Act.put, List.setIfInBounds_toArray, List.set_cons_zero, List.set_cons_succ])
  go_cut [38] (fun v38 wc => ∃ (kq : Nat) (x38_11 : Bool), v38 = .bool x38_11 ∧ Aside0 (laws_FnExactConstOf.j0 kq x38_11 l0_0 a0_1 l0_2 t964 t967 t968 = some r) ∧ Aside0 (kq ≤ k) ∧ Aside0 (Kd.R (Kd.int .i64) 2 wc w.heap.size (fun _ => True) (.slice Ao24 t964.length co24) t964) ∧ Aside0 (Kd.R k88 88 wc w.heap.size (fun k_ => some k_ ≠ ((.slice Ao24 t964.length co24) : Value).ownBlock) (.slice Ao27 t968.length co27) t968) ∧ Aside0 (wc.heap[gb953]? = some (.cells #[(.slice A0_0 l0_0.length c0_0), .int .i64 a0_1, (.slice A0_2 l0_2.length c0_2)] 54 (0, 0))) ∧ Aside0 (wc.heap[gb971]? = some (.cells #[(.slice Ao24 t964.length co24), .int .i64 t967, (.slice Ao27 t968.length co27)] 41 (0, 0))) ∧ Aside0 (Below w.heap.size w wc))
  case first =>
   have H := HC12.out
   clear HC12
   by_cases c29 : t972 = t962
   ·rw [if_pos c29] at H
    have c29b0 : (t972 == t962) = true := beq_iff_eq.mpr c29
    have c29b1 : (t972 != t962) = false := bne_eq_false_iff_eq.mpr c29
    clear c29
    (first | rw [c29b0] | (simp only [i64_w, i32_w]; rw [c29b0]) | skip)
    have H' := Aside0.mk H
    clear H
    go_wp2
    go_meet
    case rel => exact ⟨_, ((t973 != t963)), rF_, H', ⟨by first | omega | exact Nat.le_refl _⟩, ⟨by (with_reducible repeat (first | apply Kd.R_alloc | apply Kd.R_drewN | apply Kd.R_drew)); exact Kd.R_mono HO966.out (fun _ hk => trivial)⟩, ⟨by (with_reducible repeat (first | apply Kd.R_alloc | apply Kd.R_drewN | apply Kd.R_drew)); exact Kd.R_mono HO970.out (fun _ hk => hk.1.1)⟩, ⟨bK953_⟩, ⟨bK971_⟩, ⟨hS_⟩⟩
   ·rw [if_neg c29] at H
    have c29b0 : (t972 == t962) = false := beq_eq_false_iff_ne.mpr c29
    have c29b1 : (t972 != t962) = true := bne_iff_ne.mpr c29
    (first | rw [c29b0] | (simp only [i64_w, i32_w]; rw [c29b0]) | skip)
    have H' := Aside0.mk H
    clear H
    go_wp2
    go_meet
    case rel => exact ⟨_, (true), rF_, H', ⟨by first | omega | exact Nat.le_refl _⟩, ⟨by (with_reducible repeat (first | apply Kd.R_alloc | apply Kd.R_drewN | apply Kd.R_drew)); exact Kd.R_mono HO966.out (fun _ hk => trivial)⟩, ⟨by (with_reducible repeat (first | apply Kd.R_alloc | apply Kd.R_drewN | apply Kd.R_drew)); exact Kd.R_mono HO970.out (fun _ hk => hk.1.1)⟩, ⟨bK953_⟩, ⟨bK971_⟩, ⟨hS_⟩⟩
  case rest =>
   clear HC12
   try clear c1
   try clear c2
   try clear p2
   try clear c4
   try clear c4b0
   try clear c10
   try clear c25
   try clear c29
   try clear c29b0
   try clear c29b1
   try clear hcz14_0 hcz14_1 hcz14_2 hfz14_0 hfz14_1 hfz14_2
   try clear hcz16_0 hcz16_1 hcz16_2 hfz16_0 hfz16_1 hfz16_2
   try clear hcz21_0 hcz21_1 hcz21_2 hfz21_0 hfz21_1 hfz21_2
   try clear hcz26_0 hcz26_1 hcz26_2 hfz26_0 hfz26_1 hfz26_2
   try clear hcz6_0 hcz6_1 hcz6_2 hfz6_0 hfz6_1 hfz6_2
   obtain ⟨kq, x38_11, rfl, HA, HJ11, HO_972000, HO_972002, BK953, BK971, HB⟩ := hcut
   cases kq with
   | zero => exact absurd HA.out (by simp [laws_FnExactConstOf.j0])
   | succ kj11 =>
    have H := HA.out
    clear HA
    simp only [laws_FnExactConstOf.j0] at H
    by_cases c30 : x38_11 = true
    ·subst c30
     have H1 := (if_pos rfl).symm.trans H
     clear H
     have H := H1
     clear H1
     obtain rfl := Option.some.inj H
     go_wp2
     go_ret
     exact ⟨rG_, hS_⟩
    ·replace c30 := Bool.eq_false_iff.mpr c30
     subst c30
     have H1 := (if_neg (show ¬ (false = true) by decide)).symm.trans H
     clear H
     have H := H1
     clear H1
     replace H := Option.bind_eq_some_iff.mp H
     obtain ⟨⟨t974, t977, t978⟩, A310, H⟩ := H
     replace H : ((laws_eqFunc.f kj11 t964 t967 t968 t974 t977 t978).bind fun t981 => (if t981 = true then (some true) else (some false))) = some r := H
     have A31 := Aside0.mk A310
     clear A310
     replace H := Option.bind_eq_some_iff.mp H
     obtain ⟨t981, A320, H⟩ := H
     replace H : (if t981 = true then (some true) else (some false)) = some r := H
     have A32 := Aside0.mk A320
     clear A320
     by_cases c33 : t981 = true
     ·subst c33
      have H1 := (if_pos rfl).symm.trans H
      clear H
      have H := H1
      clear H1
      obtain rfl := Option.some.inj H
      try go_wp2
      have n0_ := Aside0.mk (Kd.R_drew HO_972000.out)
      have n1_ := Aside0.mk (Kd.R_drew HO_972002.out)
      have n2_ := Aside0.mk (blk_drew BK953.out)
      have n3_ := Aside0.mk (blk_drew BK971.out)
      have n4_ := Aside0.mk (below_drew1 HB.out)
      clear HO_972000
      clear HO_972002
      clear BK953
      clear BK971
      clear HB
      have HO_972000 := n0_
      have HO_972002 := n1_
      have BK953 := n2_
      have BK971 := n3_
      have HB := n4_
      clear n0_ n1_ n2_ n3_ n4_
      refine start_ (n := 5) (S := fun w' => w'.cell? ⟨gb971, 0, none⟩ = some (.slice Ao24 t964.length co24) ∧ w'.cell? ⟨gb971, 1, none⟩ = some (.int .i64 t967) ∧ w'.cell? ⟨gb971, 2, none⟩ = some (.slice Ao27 t968.length co27) ∧ w'.cell? ⟨gb953, 0, none⟩ = some (.slice A0_0 l0_0.length c0_0) ∧ w'.cell? ⟨gb953, 1, none⟩ = some (.int .i64 a0_1) ∧ w'.cell? ⟨gb953, 2, none⟩ = some (.slice A0_2 l0_2.length c0_2)) (ds := []) #[false, false, false, false, false] (by kernel_rfl) rfl rfl ⟨(blk_cell BK971.out 0).trans rfl, (blk_cell BK971.out 1).trans rfl, (blk_cell BK971.out 2).trans rfl, (blk_cell BK953.out 0).trans rfl, (blk_cell BK953.out 1).trans rfl, (blk_cell BK953.out 2).trans rfl⟩ (fun hHeld => ?_)
      generalize wc.drew = w34 at HO_972000 HO_972002 BK953 BK971 HB hHeld ⊢
      refine take_ (i := 0) (N := some 39) (v := ?_) (a' := ?_) #[true, false, false, false, false] rfl rfl (by kernel_rfl) (fun _ _ _ h => h) (Or.inl ⟨by rfl, ?_⟩) hHeld ?_ ?_
      rotate_left
      ·rintro w' ⟨s0, s1, s2, s3, s4, s5⟩
       go_simp
       with_reducible rfl
      rotate_left
      ·simp only [Act.put, List.setIfInBounds_toArray, List.set_cons_zero, List.set_cons_succ, i64_w, i32_w]
       rfl
      refine take_ (i := 1) (N := some 40) (v := ?_) (a' := ?_) #[true, true, false, false, false] rfl rfl (by kernel_rfl) (fun _ _ _ h => h) (Or.inl ⟨by rfl, ?_⟩) hHeld ?_ ?_
      rotate_left
      ·rintro w' ⟨s0, s1, s2, s3, s4, s5⟩
       go_simp
       with_reducible rfl
      rotate_left
      ·simp only [Act.put, List.setIfInBounds_toArray, List.set_cons_zero, List.set_cons_succ, i64_w, i32_w]
       rfl
      refine one_ (i := 2) (N := some 41) #[true, true, true, false, false] rfl rfl (by kernel_rfl) (by decide) (fun K hK => ?_)
      refine goes_ Try.func42 (by kernel_rfl) rfl #[.agg #[.slice A0_0 l0_0.length c0_0, .int .i64 a0_1, .slice A0_2 l0_2.length c0_2]] (by rfl) rfl rfl (by (try simp only [List.map_toArray, List.map_cons, List.map_nil]); first | done | rfl | (simp only [List.length_drop, List.length_take]; rfl)) ?_
      with_reducible refine (laws_toFunc.calls kj11 _ _ l0_0 a0_1 _ _ l0_2 t974 t977 t978 _ ?side1 ?side2 ?side3 ?side4 A31.out).mono ?_
      (case side1 => exact cHR0_0_)
      (case side2 => exact HC0_0.out)
      (case side3 => exact cHR0_2_)
      (case side4 => exact HC0_2.out)
      rintro e w35 ⟨v975, v979, rfl, ho0, ho1, hb⟩
      refine ⟨_, rfl, ?_⟩
      have n0_ := Aside0.mk (Kd.R_elder' rHO_972000_ (Kd.R_base ho0) hb)
      have n1_ := Aside0.mk (Kd.R_mono (Kd.R_told (Kd.R_told (Kd.R_old rHO_972002_ hb) (Kd.R_base ho0)) (Kd.R_base ho1)) (fun _ h_ => h_.1))
      have n2_ := Aside0.mk (Kd.R_lower (Kd.R_new' ho0 (Kd.R_lt rHO_972000_)) (below_size hS_))
      have n3_ := Aside0.mk (Kd.R_lower (Kd.R_new' (Kd.R_new' ho1 (Kd.R_lt rHO_972000_)) (Kd.R_lt rHO_972002_)) (below_size hS_))
      have n4_ := Aside0.mk (blk_below (g := gb953) (o := .cells #[.slice A0_0 l0_0.length c0_0, .int .i64 a0_1, .slice A0_2 l0_2.length c0_2] 54 (0, 0)) bK953_ hb)
      have n5_ := Aside0.mk (blk_below (g := gb971) (o := .cells #[.slice Ao24 t964.length co24, .int .i64 t967, .slice Ao27 t968.length co27] 41 (0, 0)) bK971_ hb)
      have n6_ := Aside0.mk (below_step hS_ hb)
      clear HO_972000
      clear HO_972002
      clear BK953
      clear BK971
      clear HB
      have HO_972000 := n0_
      have HO_972002 := n1_
      have HO976 := n2_
      have HO980 := n3_
      have BK953 := n4_
      have BK971 := n5_
      have HB := n6_
      clear n0_ n1_ n2_ n3_ n4_ n5_ n6_
      (try clear hb)
      (try clear hb2)
      (try clear hk)
      (try clear hi)
      (try clear ho0)
      (try clear ho1)
      obtain ⟨Ao36, co36, eo36⟩ := Kd.R_slice HO976.out
      (first | subst eo36 | (injection eo36 with f1_ f2_ f3_; have f4_ := f1_.symm; have f5_ := f3_.symm; clear f1_ f2_ f3_; subst f4_; subst f5_))
      obtain ⟨Ao37, co37, eo37⟩ := Kd.R_slice HO980.out
      (first | subst eo37 | (injection eo37 with f1_ f2_ f3_; have f4_ := f1_.symm; have f5_ := f3_.symm; clear f1_ f2_ f3_; subst f4_; subst f5_))
      refine hK.out _ _ ⟨(blk_cell BK971.out 0).trans rfl, (blk_cell BK971.out 1).trans rfl, (blk_cell BK971.out 2).trans rfl, (blk_cell BK953.out 0).trans rfl, (blk_cell BK953.out 1).trans rfl, (blk_cell BK953.out 2).trans rfl⟩ (fun hHeld => ?_)
      clear hK K
      refine norm_ (a' := ?_) ?_ ?_
      rotate_left
      ·show Act.put _ (some 41) _ = _
       simp only [Act.put, List.setIfInBounds_toArray, List.set_cons_zero, List.set_cons_succ, i64_w, i32_w]
       rfl
      refine one_ (i := 3) (N := some 42) #[true, true, true, true, false] rfl rfl (by kernel_rfl) (by decide) (fun K hK => ?_)
      refine goes_ Try.func44 (by kernel_rfl) rfl #[.agg #[.slice Ao24 t964.length co24, .int .i64 t967, .slice Ao27 t968.length co27], .agg #[.slice Ao36 t974.length co36, .int .i64 t977, .slice Ao37 t978.length co37]] (by rfl) rfl rfl (by (try simp only [List.map_toArray, List.map_cons, List.map_nil]); first | done | rfl | (simp only [List.length_drop, List.length_take]; rfl)) ?_
      with_reducible refine (laws_eqFunc.calls kj11 _ _ t964 t967 _ _ t968 _ _ t974 t977 _ _ t978 true _ ?side1 ?side2 ?side3 ?side4 ?side5 ?side6 ?side7 ?side8 A32.out).mono ?_
      (case side1 => repeat (first | exact (Kd.R_reads' HO_972000.out).2.2 | (with_reducible refine Kd.C_alloc ?_ _) | (with_reducible refine Kd.C_drewN ?_ _) | (with_reducible refine Kd.C_drew ?_)))
      (case side2 => exact (Kd.R_reads' HO_972000.out).2.1)
      (case side3 => repeat (first | exact (Kd.R_reads' HO_972002.out).2.2 | (with_reducible refine Kd.C_alloc ?_ _) | (with_reducible refine Kd.C_drewN ?_ _) | (with_reducible refine Kd.C_drew ?_)))
      (case side4 => exact (Kd.R_reads' HO_972002.out).2.1)
      (case side5 => repeat (first | exact (Kd.R_reads' HO976.out).2.2 | (with_reducible refine Kd.C_alloc ?_ _) | (with_reducible refine Kd.C_drewN ?_ _) | (with_reducible refine Kd.C_drew ?_)))
      (case side6 => exact (Kd.R_reads' HO976.out).2.1)
      (case side7 => repeat (first | exact (Kd.R_reads' HO980.out).2.2 | (with_reducible refine Kd.C_alloc ?_ _) | (with_reducible refine Kd.C_drewN ?_ _) | (with_reducible refine Kd.C_drew ?_)))
      (case side8 => exact (Kd.R_reads' HO980.out).2.1)
      rintro e w38 ⟨rfl, hb⟩
      refine ⟨_, rfl, ?_⟩
      have n0_ := Aside0.mk (Kd.R_below rHO_972000_ hb)
      have n1_ := Aside0.mk (Kd.R_below rHO_972002_ hb)
      have n2_ := Aside0.mk (Kd.R_below rHO976_ hb)
      have n3_ := Aside0.mk (Kd.R_below rHO980_ hb)
      have n4_ := Aside0.mk (blk_below (g := gb953) (o := .cells #[.slice A0_0 l0_0.length c0_0, .int .i64 a0_1, .slice A0_2 l0_2.length c0_2] 54 (0, 0)) bK953_ hb)
      have n5_ := Aside0.mk (blk_below (g := gb971) (o := .cells #[.slice Ao24 t964.length co24, .int .i64 t967, .slice Ao27 t968.length co27] 41 (0, 0)) bK971_ hb)
      have n6_ := Aside0.mk (below_step hS_ hb)
      clear HO_972000
      clear HO_972002
      clear HO976
      clear HO980
      clear BK953
      clear BK971
      clear HB
      have HO_972000 := n0_
      have HO_972002 := n1_
      have HO976 := n2_
      have HO980 := n3_
      have BK953 := n4_
      have BK971 := n5_
      have HB := n6_
      clear n0_ n1_ n2_ n3_ n4_ n5_ n6_
      (try clear hb)
      (try clear hb2)
      (try clear hk)
      (try clear hi)
      refine hK.out _ _ ⟨(blk_cell BK971.out 0).trans rfl, (blk_cell BK971.out 1).trans rfl, (blk_cell BK971.out 2).trans rfl, (blk_cell BK953.out 0).trans rfl, (blk_cell BK953.out 1).trans rfl, (blk_cell BK953.out 2).trans rfl⟩ (fun hHeld => ?_)
      clear hK K
      refine norm_ (a' := ?_) ?_ ?_
      rotate_left
      ·show Act.put _ (some 42) _ = _
       simp only [Act.put, List.setIfInBounds_toArray, List.set_cons_zero, List.set_cons_succ, i64_w, i32_w]
       rfl
      refine pure_ (i := 4) (N := some 43) (v := ?_) (a' := ?_) #[true, true, true, true, true] rfl rfl (by kernel_rfl) (fun _ _ _ h => h) (Or.inl ⟨by rfl, ?_⟩) ?_ ?_
      rotate_left
      ·intro w'
       go_simp
       with_reducible rfl
      rotate_left
      ·simp only [Act.put, List.setIfInBounds_toArray, List.set_cons_zero, List.set_cons_succ, i64_w, i32_w]
       rfl
      refine done_ (by kernel_rfl) ?_
      try go_wp2
      go_ret
      exact ⟨rG_, hS_⟩
     ·replace c33 := Bool.eq_false_iff.mpr c33
      subst c33
      have H1 := (if_neg (show ¬ (false = true) by decide)).symm.trans H
      clear H
      have H := H1
      clear H1
      obtain rfl := Option.some.inj H
      try go_wp2
      have n0_ := Aside0.mk (Kd.R_drew HO_972000.out)
      have n1_ := Aside0.mk (Kd.R_drew HO_972002.out)
      have n2_ := Aside0.mk (blk_drew BK953.out)
      have n3_ := Aside0.mk (blk_drew BK971.out)
      have n4_ := Aside0.mk (below_drew1 HB.out)
      clear HO_972000
      clear HO_972002
      clear BK953
      clear BK971
      clear HB
      have HO_972000 := n0_
      have HO_972002 := n1_
      have BK953 := n2_
      have BK971 := n3_
      have HB := n4_
      clear n0_ n1_ n2_ n3_ n4_
      refine start_ (n := 5) (S := fun w' => w'.cell? ⟨gb971, 0, none⟩ = some (.slice Ao24 t964.length co24) ∧ w'.cell? ⟨gb971, 1, none⟩ = some (.int .i64 t967) ∧ w'.cell? ⟨gb971, 2, none⟩ = some (.slice Ao27 t968.length co27) ∧ w'.cell? ⟨gb953, 0, none⟩ = some (.slice A0_0 l0_0.length c0_0) ∧ w'.cell? ⟨gb953, 1, none⟩ = some (.int .i64 a0_1) ∧ w'.cell? ⟨gb953, 2, none⟩ = some (.slice A0_2 l0_2.length c0_2)) (ds := []) #[false, false, false, false, false] (by kernel_rfl) rfl rfl ⟨(blk_cell BK971.out 0).trans rfl, (blk_cell BK971.out 1).trans rfl, (blk_cell BK971.out 2).trans rfl, (blk_cell BK953.out 0).trans rfl, (blk_cell BK953.out 1).trans rfl, (blk_cell BK953.out 2).trans rfl⟩ (fun hHeld => ?_)
      generalize wc.drew = w39 at HO_972000 HO_972002 BK953 BK971 HB hHeld ⊢
      refine take_ (i := 0) (N := some 39) (v := ?_) (a' := ?_) #[true, false, false, false, false] rfl rfl (by kernel_rfl) (fun _ _ _ h => h) (Or.inl ⟨by rfl, ?_⟩) hHeld ?_ ?_
      rotate_left
      ·rintro w' ⟨s0, s1, s2, s3, s4, s5⟩
       go_simp
       with_reducible rfl
      rotate_left
      ·simp only [Act.put, List.setIfInBounds_toArray, List.set_cons_zero, List.set_cons_succ, i64_w, i32_w]
       rfl
      refine take_ (i := 1) (N := some 40) (v := ?_) (a' := ?_) #[true, true, false, false, false] rfl rfl (by kernel_rfl) (fun _ _ _ h => h) (Or.inl ⟨by rfl, ?_⟩) hHeld ?_ ?_
      rotate_left
      ·rintro w' ⟨s0, s1, s2, s3, s4, s5⟩
       go_simp
       with_reducible rfl
      rotate_left
      ·simp only [Act.put, List.setIfInBounds_toArray, List.set_cons_zero, List.set_cons_succ, i64_w, i32_w]
       rfl
      refine one_ (i := 2) (N := some 41) #[true, true, true, false, false] rfl rfl (by kernel_rfl) (by decide) (fun K hK => ?_)
      refine goes_ Try.func42 (by kernel_rfl) rfl #[.agg #[.slice A0_0 l0_0.length c0_0, .int .i64 a0_1, .slice A0_2 l0_2.length c0_2]] (by rfl) rfl rfl (by (try simp only [List.map_toArray, List.map_cons, List.map_nil]); first | done | rfl | (simp only [List.length_drop, List.length_take]; rfl)) ?_
      with_reducible refine (laws_toFunc.calls kj11 _ _ l0_0 a0_1 _ _ l0_2 t974 t977 t978 _ ?side1 ?side2 ?side3 ?side4 A31.out).mono ?_
      (case side1 => exact cHR0_0_)
      (case side2 => exact HC0_0.out)
      (case side3 => exact cHR0_2_)
      (case side4 => exact HC0_2.out)
      rintro e w40 ⟨v975, v979, rfl, ho0, ho1, hb⟩
      refine ⟨_, rfl, ?_⟩
      have n0_ := Aside0.mk (Kd.R_elder' rHO_972000_ (Kd.R_base ho0) hb)
      have n1_ := Aside0.mk (Kd.R_mono (Kd.R_told (Kd.R_told (Kd.R_old rHO_972002_ hb) (Kd.R_base ho0)) (Kd.R_base ho1)) (fun _ h_ => h_.1))
      have n2_ := Aside0.mk (Kd.R_lower (Kd.R_new' ho0 (Kd.R_lt rHO_972000_)) (below_size hS_))
      have n3_ := Aside0.mk (Kd.R_lower (Kd.R_new' (Kd.R_new' ho1 (Kd.R_lt rHO_972000_)) (Kd.R_lt rHO_972002_)) (below_size hS_))
      have n4_ := Aside0.mk (blk_below (g := gb953) (o := .cells #[.slice A0_0 l0_0.length c0_0, .int .i64 a0_1, .slice A0_2 l0_2.length c0_2] 54 (0, 0)) bK953_ hb)
      have n5_ := Aside0.mk (blk_below (g := gb971) (o := .cells #[.slice Ao24 t964.length co24, .int .i64 t967, .slice Ao27 t968.length co27] 41 (0, 0)) bK971_ hb)
      have n6_ := Aside0.mk (below_step hS_ hb)
      clear HO_972000
      clear HO_972002
      clear BK953
      clear BK971
      clear HB
      have HO_972000 := n0_
      have HO_972002 := n1_
      have HO976 := n2_
      have HO980 := n3_
      have BK953 := n4_
      have BK971 := n5_
      have HB := n6_
      clear n0_ n1_ n2_ n3_ n4_ n5_ n6_
      (try clear hb)
      (try clear hb2)
      (try clear hk)
      (try clear hi)
      (try clear ho0)
      (try clear ho1)
      obtain ⟨Ao41, co41, eo41⟩ := Kd.R_slice HO976.out
      (first | subst eo41 | (injection eo41 with f1_ f2_ f3_; have f4_ := f1_.symm; have f5_ := f3_.symm; clear f1_ f2_ f3_; subst f4_; subst f5_))
      obtain ⟨Ao42, co42, eo42⟩ := Kd.R_slice HO980.out
      (first | subst eo42 | (injection eo42 with f1_ f2_ f3_; have f4_ := f1_.symm; have f5_ := f3_.symm; clear f1_ f2_ f3_; subst f4_; subst f5_))
      refine hK.out _ _ ⟨(blk_cell BK971.out 0).trans rfl, (blk_cell BK971.out 1).trans rfl, (blk_cell BK971.out 2).trans rfl, (blk_cell BK953.out 0).trans rfl, (blk_cell BK953.out 1).trans rfl, (blk_cell BK953.out 2).trans rfl⟩ (fun hHeld => ?_)
      clear hK K
      refine norm_ (a' := ?_) ?_ ?_
      rotate_left
      ·show Act.put _ (some 41) _ = _
       simp only [Act.put, List.setIfInBounds_toArray, List.set_cons_zero, List.set_cons_succ, i64_w, i32_w]
       rfl
      refine one_ (i := 3) (N := some 42) #[true, true, true, true, false] rfl rfl (by kernel_rfl) (by decide) (fun K hK => ?_)
      refine goes_ Try.func44 (by kernel_rfl) rfl #[.agg #[.slice Ao24 t964.length co24, .int .i64 t967, .slice Ao27 t968.length co27], .agg #[.slice Ao41 t974.length co41, .int .i64 t977, .slice Ao42 t978.length co42]] (by rfl) rfl rfl (by (try simp only [List.map_toArray, List.map_cons, List.map_nil]); first | done | rfl | (simp only [List.length_drop, List.length_take]; rfl)) ?_
      with_reducible refine (laws_eqFunc.calls kj11 _ _ t964 t967 _ _ t968 _ _ t974 t977 _ _ t978 false _ ?side1 ?side2 ?side3 ?side4 ?side5 ?side6 ?side7 ?side8 A32.out).mono ?_
      (case side1 => repeat (first | exact (Kd.R_reads' HO_972000.out).2.2 | (with_reducible refine Kd.C_alloc ?_ _) | (with_reducible refine Kd.C_drewN ?_ _) | (with_reducible refine Kd.C_drew ?_)))
      (case side2 => exact (Kd.R_reads' HO_972000.out).2.1)
      (case side3 => repeat (first | exact (Kd.R_reads' HO_972002.out).2.2 | (with_reducible refine Kd.C_alloc ?_ _) | (with_reducible refine Kd.C_drewN ?_ _) | (with_reducible refine Kd.C_drew ?_)))
      (case side4 => exact (Kd.R_reads' HO_972002.out).2.1)
      (case side5 => repeat (first | exact (Kd.R_reads' HO976.out).2.2 | (with_reducible refine Kd.C_alloc ?_ _) | (with_reducible refine Kd.C_drewN ?_ _) | (with_reducible refine Kd.C_drew ?_)))
      (case side6 => exact (Kd.R_reads' HO976.out).2.1)
      (case side7 => repeat (first | exact (Kd.R_reads' HO980.out).2.2 | (with_reducible refine Kd.C_alloc ?_ _) | (with_reducible refine Kd.C_drewN ?_ _) | (with_reducible refine Kd.C_drew ?_)))
      (case side8 => exact (Kd.R_reads' HO980.out).2.1)
      rintro e w43 ⟨rfl, hb⟩
      refine ⟨_, rfl, ?_⟩
      have n0_ := Aside0.mk (Kd.R_below rHO_972000_ hb)
      have n1_ := Aside0.mk (Kd.R_below rHO_972002_ hb)
      have n2_ := Aside0.mk (Kd.R_below rHO976_ hb)
      have n3_ := Aside0.mk (Kd.R_below rHO980_ hb)
      have n4_ := Aside0.mk (blk_below (g := gb953) (o := .cells #[.slice A0_0 l0_0.length c0_0, .int .i64 a0_1, .slice A0_2 l0_2.length c0_2] 54 (0, 0)) bK953_ hb)
      have n5_ := Aside0.mk (blk_below (g := gb971) (o := .cells #[.slice Ao24 t964.length co24, .int .i64 t967, .slice Ao27 t968.length co27] 41 (0, 0)) bK971_ hb)
      have n6_ := Aside0.mk (below_step hS_ hb)
      clear HO_972000
      clear HO_972002
      clear HO976
      clear HO980
      clear BK953
      clear BK971
      clear HB
      have HO_972000 := n0_
      have HO_972002 := n1_
      have HO976 := n2_
      have HO980 := n3_
      have BK953 := n4_
      have BK971 := n5_
      have HB := n6_
      clear n0_ n1_ n2_ n3_ n4_ n5_ n6_
      (try clear hb)
      (try clear hb2)
      (try clear hk)
      (try clear hi)
      refine hK.out _ _ ⟨(blk_cell BK971.out 0).trans rfl, (blk_cell BK971.out 1).trans rfl, (blk_cell BK971.out 2).trans rfl, (blk_cell BK953.out 0).trans rfl, (blk_cell BK953.out 1).trans rfl, (blk_cell BK953.out 2).trans rfl⟩ (fun hHeld => ?_)
      clear hK K
      refine norm_ (a' := ?_) ?_ ?_
      rotate_left
      ·show Act.put _ (some 42) _ = _
       simp only [Act.put, List.setIfInBounds_toArray, List.set_cons_zero, List.set_cons_succ, i64_w, i32_w]
       rfl
      refine pure_ (i := 4) (N := some 43) (v := ?_) (a' := ?_) #[true, true, true, true, true] rfl rfl (by kernel_rfl) (fun _ _ _ h => h) (Or.inl ⟨by rfl, ?_⟩) ?_ ?_
      rotate_left
      ·intro w'
       go_simp
       with_reducible rfl
      rotate_left
      ·simp only [Act.put, List.setIfInBounds_toArray, List.set_cons_zero, List.set_cons_succ, i64_w, i32_w]
       rfl
      refine done_ (by kernel_rfl) ?_
      try go_wp2
      go_ret
      exact ⟨rG_, hS_⟩
end Go.Proofs.Ytjkbafcepblacaa.X
namespace Go.Proofs.Ytjkbafcepblacaa.X
open Go.RowKit Go.Proofs.YtjkbafcepblacaaW.PrintWords Go.Proofs.YtjkbafcepblacaaW.PrintLast Go.Proofs.YtjkbafcepblacaaW.PrintMore
/-- What is known of a number that was read: it is of its kind. -/
def wfInt (k : IntKind) (n : Int) : Prop := (Lit.int k n).wf = true
/-- .. of a list: its length fits, and so of each element. -/
def wfList {α : Type} (Wf : α → Prop) (l : List α) : Prop := l.length ≤ 9223372036854775807 ∧ ∀ x ∈ l, Wf x
def wf24 (x : S24) : Prop := (wfInt .i64) x.f0 ∧ (wfInt .i64) x.f1 ∧ (wfInt .i64) x.f2 ∧ (wfInt .i64) x.f3 ∧ (wfInt .i64) x.f4 ∧ (wfInt .i64) x.f5 ∧ (wfList (wfInt .i64)) x.f6
def wf132 (x : S132) : Prop := (wfInt .i64) x.f0 ∧ (wfList (wfInt .i64)) x.f1
def wf111 (x : S111) : Prop := (wfInt .i64) x.f0 ∧ (wfInt .i64) x.f1 ∧ (wfInt .i64) x.f2 ∧ (wfInt .i64) x.f3
def wf113 (x : S113) : Prop := (wfList wf132) x.f0 ∧ (wfList wf24) x.f1 ∧ wf111 x.f2
def wf54 (x : S54) : Prop := (wfList (wfInt .i64)) x.f0 ∧ (wfInt .i64) x.f1 ∧ (wfList wf113) x.f2
end Go.Proofs.Ytjkbafcepblacaa.X
namespace Go.Proofs.Ytjkbafcepblacaa.X
open Go.RowKit Go.Proofs.YtjkbafcepblacaaW.PrintWords Go.Proofs.YtjkbafcepblacaaW.PrintLast Go.Proofs.YtjkbafcepblacaaW.PrintMore
set_option linter.unusedVariables false
open Go.Deep
/-- What can be read as data of type t stands as d tells it. -/
def Opens {α : Type} (P : Program) (d : Kd α) (t : TypeId) (Wf : α → Prop) : Prop :=
  ∀ {H : Type} (enc : TypeId × Value → H) (w : World) (base : Nat) (spare : Nat → Bool) (held : Bool) (fuel : Nat) (cs : List Value) (x : DataW H × List MemPlace), DataW.trod enc P w base spare held fuel t cs = some x → ∃ a, d.K w a cs ∧ Wf a
theorem opens_int {P : Program} {t : TypeId} {k : IntKind} (hu : P.underlying t = some (.int k)) : Opens P (Kd.int k) t (wfInt k) := by
  intro H enc w base spare held fuel cs x h
  obtain ⟨n, rfl, -, hw⟩ := DataW.trod_int hu h
  exact ⟨n, rfl, hw⟩
theorem opens_slice {α : Type} {P : Program} {d : Kd α} {Wf : α → Prop} {t e : TypeId} (hu : P.underlying t = some (.slice e)) (hc : P.cellsOf e = d.sz) (hd : Opens P d e Wf) : Opens P (Kd.slice e d) t (wfList Wf) := by
  intro H enc w base spare held fuel cs x h
  rcases open_slice hu h with ⟨rfl, -⟩ | ⟨a, len, cap, m, n, D, Pl, rfl, hb, hl, hm, hmm, -, hel⟩
  · exact ⟨[], ⟨none, 0, rfl, Nat.le_refl _, rfl, Nat.zero_le _, fun h => absurd h (Nat.lt_irrefl 0)⟩, Nat.zero_le _, fun _ h => by cases h⟩
  · have hlm : len ≤ m := by rw [hmm]; split <;> omega
    have hx : ∀ i, i < len → ∃ y, ∃ cs', w.cells? base (a.add (i * P.cellsOf e)) (P.cellsOf e) = some cs' ∧ d.K w y cs' ∧ Wf y := by
      intro i hi
      obtain ⟨cs', h1, h2⟩ := hel i (by omega)
      obtain ⟨y, hy⟩ := hd enc w base spare held n cs' _ h2
      exact ⟨y, cs', h1, hy⟩
    have hcell : ∀ i cs', w.cells? base (a.add (i * P.cellsOf e)) (P.cellsOf e) = some cs' → ∀ j u, cs'[j]? = some u → w.cell? (a.add (i * d.sz + j)) = some u := by
      intro i cs' h1 j u hj
      obtain ⟨-, hl', hc'⟩ := World.cells?_some h1
      have hjl : j < cs'.length := (List.getElem?_eq_some_iff.1 hj).1
      have := hc' j (by omega)
      rw [Deep.add_add, hc] at this
      rw [this]; exact hj
    by_cases h0 : len = 0
    · subst h0
      exact ⟨[], ⟨some a, cap, rfl, Nat.zero_le _, rfl, Nat.zero_le _, fun h => absurd h (Nat.lt_irrefl 0)⟩, Nat.zero_le _, fun _ h => by cases h⟩
    · obtain ⟨y0, -⟩ := hx 0 (by omega)
      haveI : Inhabited α := ⟨y0⟩
      obtain ⟨f, hf⟩ := choose_lt hx
      have hlen : ((List.range len).map f).length ≤ 9223372036854775807 := by
        have : cap ≤ maxLen := hm
        unfold maxLen at this
        simp; omega
      refine ⟨(List.range len).map f, ⟨some a, cap, by simp, by simpa using hl, ?_⟩, hlen, fun y hy => ?_⟩
      rotate_left
      · obtain ⟨i, hi, rfl⟩ := List.mem_map.1 hy
        obtain ⟨-, -, -, h3⟩ := hf i (by simpa using hi)
        exact h3
      refine ⟨by simp, hlen, fun _ => ⟨a, rfl, fun j p hp => ?_⟩⟩
      · have hj : j < len := by
          have := (List.getElem?_eq_some_iff.1 hp).1
          simpa using this
        have hp' : p = f j := by
          rw [List.getElem?_map, List.getElem?_range hj] at hp
          simpa using hp.symm
        subst hp'
        obtain ⟨cs', h1, h2, -⟩ := hf j hj
        exact ⟨cs', d.K_len h2, h2, fun i u hi => hcell j cs' h1 i u hi⟩
/-- Fields from place o on, the i-th of which was read as the i-th of xs. -/
def OpensFs {α : Type} (P : Program) (o : Nat) (fs : List Field) (d : Kd α) (Wf : α → Prop) : Prop :=
  ∀ {H : Type} (enc : TypeId × Value → H) (w : World) (base : Nat) (spare : Nat → Bool) (held : Bool) (fuel : Nat) (cs : List Value),
    (∀ f ∈ fs, ∃ x, DataW.trod enc P w base spare held fuel f.type ((cs.drop f.offset).take (P.cellsOf f.type)) = some x) → cs.length = o + d.sz → ∃ a, d.K w a (cs.drop o) ∧ Wf a
theorem opensFs_one {α : Type} {P : Program} {o : Nat} {f : Field} {d : Kd α} {Wf : α → Prop} (ho : f.offset = o) (hc : P.cellsOf f.type = d.sz) (hd : Opens P d f.type Wf) : OpensFs P o [f] d Wf := by
  intro H enc w base spare held fuel cs h hl
  obtain ⟨x, hx⟩ := h f (by simp)
  obtain ⟨a, ha, hw⟩ := hd enc w base spare held fuel _ _ hx
  refine ⟨a, ?_, hw⟩
  rw [ho, hc, List.take_of_length_le (by rw [List.length_drop]; omega)] at ha
  exact ha
theorem opensFs_cons {α β : Type} {P : Program} {o : Nat} {f : Field} {fs : List Field} {d : Kd α} {d2 : Kd β} {Wf : α → Prop} {Wf2 : β → Prop} (ho : f.offset = o) (hc : P.cellsOf f.type = d.sz) (hd : Opens P d f.type Wf) (hs : OpensFs P (o + d.sz) fs d2 Wf2) : OpensFs P o (f :: fs) (Kd.pair d d2) (fun x => Wf x.1 ∧ Wf2 x.2) := by
  intro H enc w base spare held fuel cs h hl
  obtain ⟨x, hx⟩ := h f (by simp)
  obtain ⟨a, ha, hw⟩ := hd enc w base spare held fuel _ _ hx
  have hl' : cs.length = o + d.sz + d2.sz := by rw [hl]; show o + (d.sz + d2.sz) = _; omega
  obtain ⟨b, hb, hw2⟩ := hs enc w base spare held fuel cs (fun f hf => h f (by simp [hf])) hl'
  rw [ho, hc] at ha
  refine ⟨(a, b), ⟨_, _, ?_, ha, hb⟩, hw, hw2⟩
  rw [← List.drop_drop, List.take_append_drop]
theorem opens_struct {α β : Type} {P : Program} {t : TypeId} {fs : Array Field} {d : Kd α} {f : β → α} (g : α → β) (hg : ∀ a, f (g a) = a) (hu : P.underlying t = some (.struct fs)) (hc : P.cellsOf t = d.sz) {Wf : α → Prop} (hd : OpensFs P 0 fs.toList d Wf) : Opens P (Kd.iso d f) t (fun x => Wf (f x)) := by
  intro H enc w base spare held fuel cs x h
  obtain ⟨xs, n, -, -, hl, hxs, hf⟩ := DataW.trod_struct hu h
  obtain ⟨a, ha, hw⟩ := hd enc w base spare held n cs (fun f hm => by
    obtain ⟨i, hi, rfl⟩ := List.getElem_of_mem hm
    have hi' : i < fs.size := by simpa using hi
    have := hf i fs[i] (by simp [hi'])
    rw [List.getElem?_eq_getElem (by omega)] at this
    exact ⟨_, by simpa using this⟩) (by rw [hl, hc, Nat.zero_add])
  exact ⟨g a, by show d.K w (f (g a)) cs; rw [hg]; simpa using ha, by show Wf (f (g a)); rw [hg]; exact hw⟩
/-- A value whose cells are not one is an aggregate of these. -/
theorem agg_of_cells {v : Value} (hn : v.cells.toList.length ≠ 1) : v = .agg v.cells.toList.toArray := by
  cases v <;> first | (exact absurd rfl hn) | (simp [Value.cells])
theorem opens24 : Opens Try.prog k24 24 wf24 :=
  opens_struct (fun (x : _) => (⟨x.1, x.2.1, x.2.2.1, x.2.2.2.1, x.2.2.2.2.1, x.2.2.2.2.2.1, x.2.2.2.2.2.2⟩ : S24)) (fun _ => rfl) Try.underlying24 (by kernel_rfl) (opensFs_cons rfl (by kernel_rfl) (opens_int Try.underlying2) (opensFs_cons rfl (by kernel_rfl) (opens_int Try.underlying2) (opensFs_cons rfl (by kernel_rfl) (opens_int Try.underlying2) (opensFs_cons rfl (by kernel_rfl) (opens_int Try.underlying2) (opensFs_cons rfl (by kernel_rfl) (opens_int Try.underlying2) (opensFs_cons rfl (by kernel_rfl) (opens_int Try.underlying2) (opensFs_one rfl (by kernel_rfl) (opens_slice Try.underlying22 (by kernel_rfl) (opens_int Try.underlying2)))))))))
theorem opens132 : Opens Try.prog k132 132 wf132 :=
  opens_struct (fun (x : _) => (⟨x.1, x.2⟩ : S132)) (fun _ => rfl) Try.underlying132 (by kernel_rfl) (opensFs_cons rfl (by kernel_rfl) (opens_int Try.underlying2) (opensFs_one rfl (by kernel_rfl) (opens_slice Try.underlying22 (by kernel_rfl) (opens_int Try.underlying2))))
theorem opens111 : Opens Try.prog k111 111 wf111 :=
  opens_struct (fun (x : _) => (⟨x.1, x.2.1, x.2.2.1, x.2.2.2⟩ : S111)) (fun _ => rfl) Try.underlying111 (by kernel_rfl) (opensFs_cons rfl (by kernel_rfl) (opens_int Try.underlying2) (opensFs_cons rfl (by kernel_rfl) (opens_int Try.underlying2) (opensFs_cons rfl (by kernel_rfl) (opens_int Try.underlying2) (opensFs_one rfl (by kernel_rfl) (opens_int Try.underlying2)))))
theorem opens113 : Opens Try.prog k113 113 wf113 :=
  opens_struct (fun (x : _) => (⟨x.1, x.2.1, x.2.2⟩ : S113)) (fun _ => rfl) Try.underlying113 (by kernel_rfl) (opensFs_cons rfl (by kernel_rfl) (opens_slice Try.underlying109 (by kernel_rfl) (opens132)) (opensFs_cons rfl (by kernel_rfl) (opens_slice Try.underlying110 (by kernel_rfl) (opens24)) (opensFs_one rfl (by kernel_rfl) (opens111))))
theorem opens54 : Opens Try.prog k54 54 wf54 :=
  opens_struct (fun (x : _) => (⟨x.1, x.2.1, x.2.2⟩ : S54)) (fun _ => rfl) Try.underlying54 (by kernel_rfl) (opensFs_cons rfl (by kernel_rfl) (opens_slice Try.underlying22 (by kernel_rfl) (opens_int Try.underlying2)) (opensFs_cons rfl (by kernel_rfl) (opens_int Try.underlying2) (opensFs_one rfl (by kernel_rfl) (opens_slice Try.underlying52 (by kernel_rfl) (opens113)))))
end Go.Proofs.Ytjkbafcepblacaa.X
namespace Go.Proofs.Ytjkbafcepblacaa.X
set_option linter.unusedVariables false
set_option linter.unusedSimpArgs false
open Go.RowKit Go.Proofs.YtjkbafcepblacaaW.PrintWords Go.Proofs.YtjkbafcepblacaaW.PrintLast Go.Proofs.YtjkbafcepblacaaW.PrintMore
theorem Ev.succ {α : Type} {g : Nat → Option α} {r : α} (h : Ev (fun k => g (k + 1)) r) : Ev g r := Ev.step (f := fun k => g (k + 1)) (fun _ => rfl) h
theorem Ev.cst {α : Type} {o : Option α} {r : α} (h : o = some r) : Ev (fun _ => o) r := ⟨0, fun _ _ => h⟩
theorem Ev.ipos {α : Type} {c : Prop} [Decidable c] {f g : Nat → Option α} {r : α} (hc : c) (h : Ev f r) : Ev (fun k => if c then f k else g k) r := Ev.congr (fun _ => if_pos hc) h
theorem Ev.ineg {α : Type} {c : Prop} [Decidable c] {f g : Nat → Option α} {r : α} (hc : ¬ c) (h : Ev g r) : Ev (fun k => if c then f k else g k) r := Ev.congr (fun _ => if_neg hc) h
theorem Ev.rw {α : Type} {g : Nat → Option α} {r s : α} (h : Ev g r) (e : r = s) : Ev g s := e ▸ h
theorem w64 {x : Int} (h0 : -9223372036854775808 ≤ x) (h1 : x ≤ 9223372036854775807) : wrap64 x = x := by unfold wrap64; omega
theorem getD_at {α : Type} (l : List α) (z : α) (j : Nat) (h : j < l.length) : l.getD j z = l[j] := by simp [List.getD, List.getElem?_eq_getElem h]
/-- What is left of a, when s is taken away. -/
def rem (a s : Int) : Int := if s ≤ a then a - s else -1
def sumOf {α : Type} (f : α → Int) : List α → Int
  | [] => 0
  | x :: l => f x + sumOf f l
theorem sumOf_nonneg {α : Type} {f : α → Int} : ∀ {l : List α}, (∀ x ∈ l, 0 ≤ f x) → 0 ≤ sumOf f l
  | [], _ => Int.le_refl _
  | x :: l, h => by
    have := h x (by simp)
    have := sumOf_nonneg (l := l) (fun y hy => h y (by simp [hy]))
    simp only [sumOf]; omega
theorem sumOf_drop {α : Type} (f : α → Int) (l : List α) (i : Nat) (h : i < l.length) : sumOf f (l.drop i) = f l[i] + sumOf f (l.drop (i + 1)) := by
  rw [List.drop_eq_getElem_cons h]; rfl
theorem le_sumOf {α : Type} {f : α → Int} {l : List α} (h : ∀ x ∈ l, 0 ≤ f x) {x : α} (hx : x ∈ l) : f x ≤ sumOf f l := by
  induction l with
  | nil => cases hx
  | cons y l ih =>
    have hn := sumOf_nonneg (l := l) (fun z hz => h z (by simp [hz]))
    simp only [sumOf]
    rcases List.mem_cons.1 hx with rfl | hx
    · omega
    · have := ih (fun z hz => h z (by simp [hz])) hx
      have := h y (by simp)
      omega
theorem sz_loop {α : Type} (L : Nat → List α → Int → Int → Option Int) (body : Nat → α → Int → Option Int) (z : α)
    (hL : ∀ k x left i, L (k + 1) x left i = if i < (x.length : Int) then (if 0 ≤ i then ((body k (x.getD i.toNat z) left).bind fun t => (if t < 0 then (some (-1)) else (L k x t (wrap64 (i + 1))))) else none) else some left)
    (size : α → Int) (x : List α) (hlen : x.length ≤ 9223372036854775807) (h0 : ∀ e ∈ x, 0 ≤ size e) (hb : ∀ e ∈ x, ∀ left, 0 ≤ left → left ≤ 1048576 → Ev (fun k => body k e left) (rem left (size e))) :
    ∀ left, 0 ≤ left → left ≤ 1048576 → Ev (fun k => L k x left 0) (rem left (sumOf size x)) := by
  suffices h : ∀ (d i : Nat) (left : Int), i + d = x.length → 0 ≤ left → left ≤ 1048576 → Ev (fun k => L k x left i) (rem left (sumOf size (x.drop i))) by
    intro left a b
    have := h x.length 0 left (by omega) a b
    simpa using this
  intro d
  induction d with
  | zero =>
    intro i left hi a b
    refine Ev.step (fun k => hL k x left i) (Ev.ineg (by omega) (Ev.rw (Ev.now left) ?_))
    rw [List.drop_of_length_le (by omega)]
    simp [sumOf, rem, a]
  | succ d ih =>
    intro i left hi a b
    have hlt : i < x.length := by omega
    have he : x[i] ∈ x := List.getElem_mem hlt
    have hs := h0 _ he
    have hr := sumOf_nonneg (f := size) (l := x.drop (i + 1)) (fun y hy => h0 y (List.mem_of_mem_drop hy))
    refine Ev.step (fun k => hL k x left i) (Ev.ipos (by omega) (Ev.ipos (by omega) ?_))
    rw [show (i : Int).toNat = i from rfl, getD_at x z i hlt]
    refine Ev.bind (hb _ he left a b) ?_
    rw [sumOf_drop size x i hlt]
    by_cases hc : size x[i] ≤ left
    · rw [show rem left (size x[i]) = left - size x[i] from if_pos hc]
      refine Ev.ineg (by omega) ?_
      rw [show wrap64 ((i : Int) + 1) = ((i + 1 : Nat) : Int) by rw [w64 (by omega) (by omega)]; rfl]
      refine Ev.rw (ih (i + 1) (left - size x[i]) (by omega) (by omega) (by omega)) ?_
      unfold rem
      split <;> split <;> omega
    · rw [show rem left (size x[i]) = -1 from if_neg hc]
      refine Ev.ipos (by decide) (Ev.rw (Ev.now (-1)) ?_)
      unfold rem
      rw [if_neg (by omega)]
theorem to_loop {α β τ : Type} (L : Nat → List α → List β → Int → Option (List β)) (body : Nat → α → Option τ) (mk : τ → β) (z : α)
    (hL : ∀ k x out i, L (k + 1) x out i = if i < (x.length : Int) then (if 0 ≤ i then ((body k (x.getD i.toNat z)).bind fun t => (if i < (out.length : Int) then (L k x (out.set i.toNat (mk t)) (wrap64 (i + 1))) else none)) else none) else some out)
    (conv : α → β) (x : List α) (hlen : x.length ≤ 1048576) (hb : ∀ e ∈ x, ∃ t, Ev (fun k => body k e) t ∧ mk t = conv e) (out : List β) (ho : out.length = x.length) :
    Ev (fun k => L k x out 0) (x.map conv) := by
  suffices h : ∀ (d i : Nat) (out : List β), i + d = x.length → out.length = x.length → Ev (fun k => L k x out i) (out.take i ++ (x.drop i).map conv) by
    have := h x.length 0 out (by omega) ho
    simpa using this
  intro d
  induction d with
  | zero =>
    intro i out hi ho
    refine Ev.step (fun k => hL k x out i) (Ev.ineg (by omega) (Ev.rw (Ev.now out) ?_))
    rw [List.drop_of_length_le (by omega), List.take_of_length_le (by omega)]
    simp
  | succ d ih =>
    intro i out hi ho
    have hlt : i < x.length := by omega
    obtain ⟨t, ht, hm⟩ := hb _ (List.getElem_mem hlt)
    refine Ev.step (fun k => hL k x out i) (Ev.ipos (by omega) (Ev.ipos (by omega) ?_))
    rw [show (i : Int).toNat = i from rfl, getD_at x z i hlt]
    refine Ev.bind ht (Ev.ipos (by omega) ?_)
    rw [show wrap64 ((i : Int) + 1) = ((i + 1 : Nat) : Int) by rw [w64 (by omega) (by omega)]; rfl]
    refine Ev.rw (ih (i + 1) (out.set i (mk t)) (by omega) (by simp [ho])) ?_
    rw [hm, List.drop_eq_getElem_cons hlt, List.map_cons]
    have hio : i < out.length := by omega
    rw [List.take_set, List.take_succ_eq_append_getElem hio, List.set_append]
    simp [Nat.min_eq_left (Nat.le_of_lt hio)]
theorem eq_loop {α : Type} (L : Nat → List α → List α → Int → Option Bool) (body : Nat → α → α → Option Bool) (z : α)
    (hL : ∀ k x y i, L (k + 1) x y i = if i < (x.length : Int) then (if 0 ≤ i then (if i < (y.length : Int) then ((body k (x.getD i.toNat z) (y.getD i.toNat z)).bind fun t => (if t = true then (L k x y (wrap64 (i + 1))) else (some false))) else none) else none) else some true)
    (x : List α) (hlen : x.length ≤ 1048576) (hb : ∀ e ∈ x, Ev (fun k => body k e e) true) : Ev (fun k => L k x x 0) true := by
  suffices h : ∀ (d i : Nat), i + d = x.length → Ev (fun k => L k x x i) true by
    have := h x.length 0 (by omega)
    simpa using this
  intro d
  induction d with
  | zero =>
    intro i hi
    exact Ev.step (fun k => hL k x x i) (Ev.ineg (by omega) (Ev.now true))
  | succ d ih =>
    intro i hi
    have hlt : i < x.length := by omega
    refine Ev.step (fun k => hL k x x i) (Ev.ipos (by omega) (Ev.ipos (by omega) (Ev.ipos (by omega) ?_)))
    rw [show (i : Int).toNat = i from rfl, getD_at x z i hlt]
    refine Ev.bind (hb _ (List.getElem_mem hlt)) (Ev.ipos rfl ?_)
    rw [show wrap64 ((i : Int) + 1) = ((i + 1 : Nat) : Int) by rw [w64 (by omega) (by omega)]; rfl]
    exact ih (i + 1) (by omega)
end Go.Proofs.Ytjkbafcepblacaa.X
namespace Go.Proofs.Ytjkbafcepblacaa.X
set_option linter.unusedVariables false
set_option linter.unusedSimpArgs false
open Go.RowKit Go.Proofs.YtjkbafcepblacaaW.PrintWords Go.Proofs.YtjkbafcepblacaaW.PrintLast Go.Proofs.YtjkbafcepblacaaW.PrintMore
abbrev Phi := S95
abbrev Inst := S27
abbrev Term := S86
abbrev Block := S88
def len {α : Type} (l : List α) : Int := (l.length : Int)
theorem len_nonneg {α : Type} (l : List α) : 0 ≤ len l := by unfold len; omega
def smI (l : List Int) : Prop := l.length ≤ 1048576
end Go.Proofs.Ytjkbafcepblacaa.X
namespace Go.Proofs.Ytjkbafcepblacaa.X
set_option linter.unusedVariables false
set_option linter.unusedSimpArgs false
open Go.RowKit Go.Proofs.YtjkbafcepblacaaW.PrintWords Go.Proofs.YtjkbafcepblacaaW.PrintLast Go.Proofs.YtjkbafcepblacaaW.PrintMore
abbrev LPhi := S132
abbrev LInst := S24
abbrev LTerm := S111
abbrev LBlock := S113
def szP (p : LPhi) : Int := len p.f1
def szI (p : LInst) : Int := len p.f6
def szPs (l : List LPhi) : Int := len l + sumOf szP l
def szIs (l : List LInst) : Int := len l + sumOf szI l
def szB (b : LBlock) : Int := szPs b.f0 + szIs b.f1
def szBs (l : List LBlock) : Int := len l + sumOf szB l
theorem szP_nonneg (p : LPhi) : 0 ≤ szP p := len_nonneg _
theorem szI_nonneg (p : LInst) : 0 ≤ szI p := len_nonneg _
theorem szPs_nonneg (l : List LPhi) : 0 ≤ szPs l := by have := len_nonneg l; have := sumOf_nonneg (l := l) (fun x _ => szP_nonneg x); unfold szPs; omega
theorem szIs_nonneg (l : List LInst) : 0 ≤ szIs l := by have := len_nonneg l; have := sumOf_nonneg (l := l) (fun x _ => szI_nonneg x); unfold szIs; omega
theorem szB_nonneg (b : LBlock) : 0 ≤ szB b := by have := szPs_nonneg b.f0; have := szIs_nonneg b.f1; unfold szB; omega
theorem szBs_nonneg (l : List LBlock) : 0 ≤ szBs l := by have := len_nonneg l; have := sumOf_nonneg (l := l) (fun x _ => szB_nonneg x); unfold szBs; omega
theorem szInt64S_eq (l : List Int) (hl : l.length ≤ 9223372036854775807) (a : Int) (h0 : 0 ≤ a) (h1 : a ≤ 1048576) : laws_szInt64S.f l a = some (rem a (len l)) := by
  unfold laws_szInt64S.f rem len
  rw [w64 (by omega) (by omega)]
  by_cases h : a - (l.length : Int) < 0
  · rw [if_pos h, if_neg (by omega)]
  · rw [if_neg h, if_pos (by omega)]
theorem if_some_neg {t : Int} (h : -1 ≤ t) : (if t < 0 then some (-1) else some t) = some t := by
  split
  · congr 1; omega
  · rfl
theorem rem_ge {a s : Int} (h : 0 ≤ a) (hs : 0 ≤ s) : -1 ≤ rem a s := by unfold rem; split <;> omega
theorem szPhi_eq (p : LPhi) (hl : p.f1.length ≤ 9223372036854775807) (a : Int) (h0 : 0 ≤ a) (h1 : a ≤ 1048576) : laws_szPhi.f p.f0 p.f1 a = some (rem a (szP p)) := by
  unfold laws_szPhi.f
  rw [szInt64S_eq _ hl a h0 h1]; simp only [Option.bind_some]
  exact if_some_neg (rem_ge h0 (szP_nonneg p))
theorem szInst_eq (p : LInst) (hl : p.f6.length ≤ 9223372036854775807) (a : Int) (h0 : 0 ≤ a) (h1 : a ≤ 1048576) : laws_szInst.f p.f0 p.f1 p.f2 p.f3 p.f4 p.f5 p.f6 a = some (rem a (szI p)) := by
  unfold laws_szInst.f
  rw [szInt64S_eq _ hl a h0 h1]; simp only [Option.bind_some]
  exact if_some_neg (rem_ge h0 (szI_nonneg p))
/-- The head of a list's measure. -/
theorem sz_head {α : Type} {l : List α} {f : α → Int} (hl : l.length ≤ 9223372036854775807) (hf : ∀ x ∈ l, 0 ≤ f x) (L : Nat → Int → Option Int) (a : Int) (h0 : 0 ≤ a) (h1 : a ≤ 1048576)
    (h : ∀ a, 0 ≤ a → a ≤ 1048576 → Ev (fun k => L k a) (rem a (sumOf f l))) : Ev (fun k => if wrap64 (a - (l.length : Int)) < 0 then some (-1) else L k (wrap64 (a - (l.length : Int)))) (rem a (len l + sumOf f l)) := by
  have hs := sumOf_nonneg hf
  rw [w64 (by omega) (by omega)]
  by_cases c : a - (l.length : Int) < 0
  · refine Ev.ipos c (Ev.rw (Ev.now (-1)) ?_)
    unfold rem len
    rw [if_neg (by omega)]
  · refine Ev.ineg c (Ev.rw (h _ (by omega) (by omega)) ?_)
    unfold rem len
    split <;> split <;> omega
theorem szPhiS_ev (l : List LPhi) (hl : wfList wf132 l) (a : Int) (h0 : 0 ≤ a) (h1 : a ≤ 1048576) : Ev (fun k => laws_szPhiS.f k l a) (rem a (szPs l)) :=
  sz_head hl.1 (fun x _ => szP_nonneg x) (fun k a => laws_szPhiS.l0 k l a 0) a h0 h1
    (sz_loop laws_szPhiS.l0 (fun _ e a => laws_szPhi.f e.f0 e.f1 a) z132 (fun _ _ _ _ => rfl) szP l hl.1 (fun x _ => szP_nonneg x) (fun e he a h0 h1 => Ev.cst (szPhi_eq e (hl.2 e he).2.1 a h0 h1)))
theorem szInstS_ev (l : List LInst) (hl : wfList wf24 l) (a : Int) (h0 : 0 ≤ a) (h1 : a ≤ 1048576) : Ev (fun k => laws_szInstS.f k l a) (rem a (szIs l)) :=
  sz_head hl.1 (fun x _ => szI_nonneg x) (fun k a => laws_szInstS.l0 k l a 0) a h0 h1
    (sz_loop laws_szInstS.l0 (fun _ e a => laws_szInst.f e.f0 e.f1 e.f2 e.f3 e.f4 e.f5 e.f6 a) z24 (fun _ _ _ _ => rfl) szI l hl.1 (fun x _ => szI_nonneg x) (fun e he a h0 h1 => Ev.cst (szInst_eq e (hl.2 e he).2.2.2.2.2.2.1 a h0 h1)))
/-- One measure behind another one. -/
theorem sz_two {g : Nat → Option Int} {f : Nat → Int → Option Int} {a s t : Int} (h0 : 0 ≤ a) (h1 : a ≤ 1048576) (hs : 0 ≤ s) (ht : 0 ≤ t) (hg : Ev g (rem a s)) (hf : ∀ a, 0 ≤ a → a ≤ 1048576 → Ev (fun k => f k a) (rem a t)) :
    Ev (fun k => (g k).bind fun u => if u < 0 then some (-1) else ((f k u).bind fun v => if v < 0 then some (-1) else some v)) (rem a (s + t)) := by
  refine Ev.bind hg ?_
  by_cases c : s ≤ a
  · rw [show rem a s = a - s from if_pos c]
    refine Ev.ineg (by omega) (Ev.bind (hf _ (by omega) (by omega)) (Ev.cst ?_))
    rw [if_some_neg (rem_ge (by omega) ht)]
    congr 1
    unfold rem
    split <;> split <;> omega
  · rw [show rem a s = -1 from if_neg c]
    refine Ev.ipos (by decide) (Ev.rw (Ev.now (-1)) ?_)
    unfold rem
    rw [if_neg (by omega)]
theorem szBlock_ev (b : LBlock) (hb : wf113 b) (a : Int) (h0 : 0 ≤ a) (h1 : a ≤ 1048576) : Ev (fun k => laws_szBlock.f k b.f0 b.f1 b.f2.f0 b.f2.f1 b.f2.f2 b.f2.f3 a) (rem a (szB b)) :=
  sz_two h0 h1 (szPs_nonneg _) (szIs_nonneg _) (szPhiS_ev _ hb.1 a h0 h1) (fun a h0 h1 => szInstS_ev _ hb.2.1 a h0 h1)
theorem szBlockS_ev (l : List LBlock) (hl : wfList wf113 l) (a : Int) (h0 : 0 ≤ a) (h1 : a ≤ 1048576) : Ev (fun k => laws_szBlockS.f k l a) (rem a (szBs l)) :=
  sz_head hl.1 (fun x _ => szB_nonneg x) (fun k a => laws_szBlockS.l0 k l a 0) a h0 h1
    (sz_loop laws_szBlockS.l0 (fun k e a => laws_szBlock.f k e.f0 e.f1 e.f2.f0 e.f2.f1 e.f2.f2 e.f2.f3 a) z113 (fun _ _ _ _ => rfl) szB l hl.1 (fun x _ => szB_nonneg x) (fun e he a h0 h1 => szBlock_ev e (hl.2 e he) a h0 h1))
theorem szFunc_ev (p : List Int) (r : Int) (l : List LBlock) (h : wf54 ⟨p, r, l⟩) (a : Int) (h0 : 0 ≤ a) (h1 : a ≤ 1048576) : Ev (fun k => laws_szFunc.f k p r l a) (rem a (len p + szBs l)) :=
  sz_two h0 h1 (len_nonneg _) (szBs_nonneg _) (Ev.cst (szInt64S_eq p h.1.1 a h0 h1)) (fun a h0 h1 => szBlockS_ev l h.2.2 a h0 h1)
/-! ### copies -/
def cPhi (p : LPhi) : Phi := ⟨p.f0, p.f1⟩
def cInst (p : LInst) : Inst := ⟨p.f0, p.f1, p.f2, p.f3, p.f4, p.f5, p.f6⟩
def cTerm (p : LTerm) : Term := ⟨p.f0, p.f1, p.f2, p.f3⟩
def cBlock (b : LBlock) : Block := ⟨b.f0.map cPhi, b.f1.map cInst, cTerm b.f2⟩
/-- Its lists have at most 2^20 elements, and so on inwards. -/
def smP (p : LPhi) : Prop := smI p.f1
def smN (p : LInst) : Prop := smI p.f6
def smB (b : LBlock) : Prop := b.f0.length ≤ 1048576 ∧ (∀ p ∈ b.f0, smP p) ∧ b.f1.length ≤ 1048576 ∧ ∀ p ∈ b.f1, smN p
def smBs (l : List LBlock) : Prop := l.length ≤ 1048576 ∧ ∀ b ∈ l, smB b
theorem sm_of_sz {p : List Int} {l : List LBlock} (h : len p + szBs l ≤ 1048576) : smI p ∧ smBs l ∧ len p + sumOf szB l + len l ≤ 1048576 := by
  have h1 := len_nonneg p
  have h2 := len_nonneg l
  have h3 := sumOf_nonneg (l := l) (fun x _ => szB_nonneg x)
  unfold szBs at h
  refine ⟨?_, ⟨?_, fun b hb => ?_⟩, by omega⟩
  · unfold smI len at *; omega
  · unfold len at *; omega
  · have hle := le_sumOf (f := szB) (fun x _ => szB_nonneg x) hb
    have a1 := szPs_nonneg b.f0
    have a2 := szIs_nonneg b.f1
    have a3 : szB b = szPs b.f0 + szIs b.f1 := rfl
    have b1 : szPs b.f0 = len b.f0 + sumOf szP b.f0 := rfl
    have b2 : szIs b.f1 = len b.f1 + sumOf szI b.f1 := rfl
    have c1 := sumOf_nonneg (l := b.f0) (fun x _ => szP_nonneg x)
    have c2 := sumOf_nonneg (l := b.f1) (fun x _ => szI_nonneg x)
    have d1 := len_nonneg b.f0
    have d2 := len_nonneg b.f1
    refine ⟨?_, fun q hq => ?_, ?_, fun q hq => ?_⟩
    · unfold len at *; omega
    · have := le_sumOf (f := szP) (fun x _ => szP_nonneg x) hq
      have e : szP q = len q.f1 := rfl
      unfold smP smI; unfold len at *; omega
    · unfold len at *; omega
    · have := le_sumOf (f := szI) (fun x _ => szI_nonneg x) hq
      have e : szI q = len q.f6 := rfl
      unfold smN smI; unfold len at *; omega
theorem to_head {α β : Type} {l : List α} {n : Nat} {z : β} {g : Nat → List β → Option (List β)} {r : List β} (hn : l.length ≤ n) (h : ∀ out : List β, out.length = l.length → Ev (fun k => g k out) r) :
    Ev (fun k => if 0 ≤ (l.length : Int) then (if ((l.length : Int) : Int).toNat ≤ n then g k (List.replicate ((l.length : Int) : Int).toNat z) else none) else none) r :=
  Ev.ipos (by omega) (Ev.ipos (by simpa using hn) (h _ (by simp)))
theorem toInt64S_ev (l : List Int) (h : smI l) : Ev (fun k => laws_toInt64S.f k l) l :=
  to_head (Nat.le_trans h (by decide)) (fun out ho => Ev.rw (to_loop laws_toInt64S.l0 (fun _ e => some e) id 0 (fun _ _ _ _ => rfl) id l h (fun e _ => ⟨e, Ev.now e, rfl⟩) out ho) (by simp))
theorem toPhi_ev (p : LPhi) (h : smP p) : Ev (fun k => laws_toPhi.f k p.f0 p.f1) (p.f0, p.f1) := Ev.bind (toInt64S_ev _ h) (Ev.now _)
theorem toInst_ev (p : LInst) (h : smN p) : Ev (fun k => laws_toInst.f k p.f0 p.f1 p.f2 p.f3 p.f4 p.f5 p.f6) (p.f0, p.f1, p.f2, p.f3, p.f4, p.f5, p.f6) := Ev.bind (toInt64S_ev _ h) (Ev.now _)
theorem toPhiS_ev (l : List LPhi) (hl : l.length ≤ 1048576) (h : ∀ p ∈ l, smP p) : Ev (fun k => laws_toPhiS.f k l) (l.map cPhi) :=
  to_head (Nat.le_trans hl (by decide)) (fun out ho => to_loop laws_toPhiS.l0 (fun k e => laws_toPhi.f k e.f0 e.f1) (fun t => ⟨t.1, t.2⟩) z132 (fun _ _ _ _ => rfl) cPhi l hl (fun e he => ⟨_, toPhi_ev e (h e he), rfl⟩) out ho)
theorem toInstS_ev (l : List LInst) (hl : l.length ≤ 1048576) (h : ∀ p ∈ l, smN p) : Ev (fun k => laws_toInstS.f k l) (l.map cInst) :=
  to_head (Nat.le_trans hl (by decide)) (fun out ho => to_loop laws_toInstS.l0 (fun k e => laws_toInst.f k e.f0 e.f1 e.f2 e.f3 e.f4 e.f5 e.f6) (fun t => ⟨t.1, t.2.1, t.2.2.1, t.2.2.2.1, t.2.2.2.2.1, t.2.2.2.2.2.1, t.2.2.2.2.2.2⟩) z24 (fun _ _ _ _ => rfl) cInst l hl (fun e he => ⟨_, toInst_ev e (h e he), rfl⟩) out ho)
theorem toBlock_ev (b : LBlock) (h : smB b) : Ev (fun k => laws_toBlock.f k b.f0 b.f1 b.f2.f0 b.f2.f1 b.f2.f2 b.f2.f3) (b.f0.map cPhi, b.f1.map cInst, b.f2.f0, b.f2.f1, b.f2.f2, b.f2.f3) :=
  Ev.bind (toPhiS_ev _ h.1 h.2.1) (Ev.bind (toInstS_ev _ h.2.2.1 h.2.2.2) (Ev.now _))
theorem toBlockS_ev (l : List LBlock) (h : smBs l) : Ev (fun k => laws_toBlockS.f k l) (l.map cBlock) :=
  to_head (Nat.le_trans h.1 (by decide)) (fun out ho => to_loop laws_toBlockS.l0 (fun k e => laws_toBlock.f k e.f0 e.f1 e.f2.f0 e.f2.f1 e.f2.f2 e.f2.f3) (fun t => ⟨t.1, t.2.1, ⟨t.2.2.1, t.2.2.2.1, t.2.2.2.2.1, t.2.2.2.2.2⟩⟩) z113 (fun _ _ _ _ => rfl) cBlock l h.1 (fun e he => ⟨_, toBlock_ev e (h.2 e he), rfl⟩) out ho)
theorem toFunc_ev (p : List Int) (r : Int) (l : List LBlock) (hp : smI p) (hl : smBs l) : Ev (fun k => laws_toFunc.f k p r l) (p, r, l.map cBlock) := Ev.bind (toInt64S_ev _ hp) (Ev.bind (toBlockS_ev l hl) (Ev.now _))
/-! ### a comparison with itself -/
theorem eqInt64S_ev (l : List Int) (h : smI l) : Ev (fun k => laws_eqInt64S.f k l l) true :=
  Ev.ipos rfl (eq_loop laws_eqInt64S.l0 (fun _ a b => some (decide (a = b))) 0 (fun k x y i => by
    simp only [laws_eqInt64S.l0, Option.bind_some, decide_eq_true_eq]; rfl) l h (fun e _ => Ev.cst (by simp)))
theorem eqPhi_ev (p : Phi) (h : smI p.f1) : Ev (fun k => laws_eqPhi.f k p.f0 p.f1 p.f0 p.f1) true := Ev.ipos rfl (Ev.bind (eqInt64S_ev _ h) (Ev.ipos rfl (Ev.now _)))
theorem eqInst_ev (p : Inst) (h : smI p.f6) : Ev (fun k => laws_eqInst.f k p.f0 p.f1 p.f2 p.f3 p.f4 p.f5 p.f6 p.f0 p.f1 p.f2 p.f3 p.f4 p.f5 p.f6) true :=
  Ev.ipos rfl (Ev.ipos rfl (Ev.ipos rfl (Ev.ipos rfl (Ev.ipos rfl (Ev.ipos rfl (Ev.bind (eqInt64S_ev _ h) (Ev.ipos rfl (Ev.now _))))))))
theorem eqTerm_eq (t : Term) : laws_eqTerm.f t.f0 t.f1 t.f2 t.f3 t.f0 t.f1 t.f2 t.f3 = some true := by simp [laws_eqTerm.f]
theorem eqPhiS_ev (l : List Phi) (hl : l.length ≤ 1048576) (h : ∀ p ∈ l, smI p.f1) : Ev (fun k => laws_eqPhiS.f k l l) true :=
  Ev.ipos rfl (eq_loop laws_eqPhiS.l0 (fun k a b => laws_eqPhi.f k a.f0 a.f1 b.f0 b.f1) z95 (fun _ _ _ _ => rfl) l hl (fun e he => eqPhi_ev e (h e he)))
theorem eqInstS_ev (l : List Inst) (hl : l.length ≤ 1048576) (h : ∀ p ∈ l, smI p.f6) : Ev (fun k => laws_eqInstS.f k l l) true :=
  Ev.ipos rfl (eq_loop laws_eqInstS.l0 (fun k a b => laws_eqInst.f k a.f0 a.f1 a.f2 a.f3 a.f4 a.f5 a.f6 b.f0 b.f1 b.f2 b.f3 b.f4 b.f5 b.f6) z27 (fun _ _ _ _ => rfl) l hl (fun e he => eqInst_ev e (h e he)))
/-- A block that is small. -/
def smb (b : Block) : Prop := b.f0.length ≤ 1048576 ∧ (∀ p ∈ b.f0, smI p.f1) ∧ b.f1.length ≤ 1048576 ∧ ∀ p ∈ b.f1, smI p.f6
def smbs (l : List Block) : Prop := l.length ≤ 1048576 ∧ ∀ b ∈ l, smb b
theorem eqBlock_ev (b : Block) (h : smb b) : Ev (fun k => laws_eqBlock.f k b.f0 b.f1 b.f2.f0 b.f2.f1 b.f2.f2 b.f2.f3 b.f0 b.f1 b.f2.f0 b.f2.f1 b.f2.f2 b.f2.f3) true :=
  Ev.bind (eqPhiS_ev _ h.1 h.2.1) (Ev.ipos rfl (Ev.bind (eqInstS_ev _ h.2.2.1 h.2.2.2) (Ev.ipos rfl (Ev.bind (Ev.cst (eqTerm_eq b.f2)) (Ev.ipos rfl (Ev.now _))))))
theorem eqBlockS_ev (l : List Block) (h : smbs l) : Ev (fun k => laws_eqBlockS.f k l l) true :=
  Ev.ipos rfl (eq_loop laws_eqBlockS.l0 (fun k a b => laws_eqBlock.f k a.f0 a.f1 a.f2.f0 a.f2.f1 a.f2.f2 a.f2.f3 b.f0 b.f1 b.f2.f0 b.f2.f1 b.f2.f2 b.f2.f3) z88 (fun _ _ _ _ => rfl) l h.1 (fun e he => eqBlock_ev e (h.2 e he)))
theorem eqFunc_ev (p : List Int) (r : Int) (l : List Block) (hp : smI p) (h : smbs l) : Ev (fun k => laws_eqFunc.f k p r l p r l) true :=
  Ev.bind (eqInt64S_ev _ hp) (Ev.ipos rfl (Ev.ipos rfl (Ev.bind (eqBlockS_ev l h) (Ev.ipos rfl (Ev.now _)))))
theorem smbs_of {l : List LBlock} (h : smBs l) : smbs (l.map cBlock) := by
  refine ⟨by simpa using h.1, fun b hb => ?_⟩
  obtain ⟨x, hx, rfl⟩ := List.mem_map.1 hb
  have hx := h.2 x hx
  refine ⟨by simpa [cBlock] using hx.1, fun q hq => ?_, by simpa [cBlock] using hx.2.2.1, fun q hq => ?_⟩
  · obtain ⟨y, hy, rfl⟩ := List.mem_map.1 hq
    exact hx.2.1 y hy
  · obtain ⟨y, hy, rfl⟩ := List.mem_map.1 hq
    exact hx.2.2.2 y hy
/-- How many ids there are, and what else a list of blocks weighs, is at most 2^20. -/
def cntB (b : Block) : Int := len b.f0 + len b.f1
theorem cnt_le {p : List Int} {l : List LBlock} (h : len p + szBs l ≤ 1048576) : len p + sumOf cntB (l.map cBlock) ≤ 1048576 := by
  have : ∀ l : List LBlock, sumOf cntB (l.map cBlock) ≤ sumOf szB l := by
    intro l
    induction l with
    | nil => exact Int.le_refl _
    | cons b l ih =>
      simp only [List.map_cons, sumOf]
      have a3 : szB b = szPs b.f0 + szIs b.f1 := rfl
      have b1 : szPs b.f0 = len b.f0 + sumOf szP b.f0 := rfl
      have b2 : szIs b.f1 = len b.f1 + sumOf szI b.f1 := rfl
      have c1 := sumOf_nonneg (l := b.f0) (fun x _ => szP_nonneg x)
      have c2 := sumOf_nonneg (l := b.f1) (fun x _ => szI_nonneg x)
      have e : cntB (cBlock b) = len b.f0 + len b.f1 := by simp [cntB, cBlock, len]
      omega
  have := this l
  have h2 := len_nonneg l
  unfold szBs at h
  omega
end Go.Proofs.Ytjkbafcepblacaa.X
namespace Go.Proofs.Ytjkbafcepblacaa.X
open Go.RowKit Go.Proofs.YtjkbafcepblacaaW.PrintWords Go.Proofs.YtjkbafcepblacaaW.PrintLast Go.Proofs.YtjkbafcepblacaaW.PrintMore
attribute [local go_sem] max2_int min2_int max_two min_two max_three min_three max_four min_four   -- for this text's walks alone
set_option linter.unusedVariables false
set_option linter.unusedSimpArgs false
/-! ### spec_CountOf: function 41 -/
def spec_CountOf.l0 : Nat → Int → Int → List Int → Int → List (S88) → Option (Int)
 | 0, _, _, _, _, _ => none
 | k + 1, x3, x4, x748000, x748001, x748002 => if x4 < (x748002.length : Int) then (if 0 ≤ x4 then (spec_CountOf.l0 k (wrap64 (x3 + (wrap64 ((((rd_T88 x748002 x4).f0).length : Int) + (((rd_T88 x748002 x4).f1).length : Int))))) (wrap64 (x4 + 1)) x748000 x748001 x748002) else (none)) else (some x3)
def spec_CountOf.f (k : Nat) (l0_0 : List Int) (a0_1 : Int) (l0_2 : List (S88)) : Option (Int) := spec_CountOf.l0 k (l0_0.length : Int) 0 l0_0 a0_1 l0_2
theorem spec_CountOf.mono_l : ∀ k, (∀ y0 y1 y2 y3 y4, LeO (spec_CountOf.l0 k y0 y1 y2 y3 y4) (spec_CountOf.l0 (k + 1) y0 y1 y2 y3 y4))
 | 0 => fun _ _ _ _ _ r h => by simp [spec_CountOf.l0] at h
 | k + 1 => by
  have ih0 := spec_CountOf.mono_l k
  ·intro y0 y1 y2 y3 y4
   unfold spec_CountOf.l0
   repeat' first
   | (with_reducible exact ih0 _ _ _ _ _)
   | (with_reducible exact LeO.refl _)
   | (with_reducible exact LeO.none _)
   | (with_reducible refine LeO.ite ?_ ?_)
   | (with_reducible refine LeO.bind ?_ (fun _ => ?_))
   | exact ih0 _ _ _ _ _
   | exact LeO.none _
   | refine LeO.ite ?_ ?_
   | refine LeO.bind ?_ (fun _ => ?_)
theorem spec_CountOf.mono : ∀ a0 a1 a2 k, LeO (spec_CountOf.f k a0 a1 a2) (spec_CountOf.f (k + 1) a0 a1 a2) := by
 intro a0 a1 a2 k
 have ih0 := spec_CountOf.mono_l k
 unfold spec_CountOf.f
 repeat' first
   | (with_reducible exact ih0 _ _ _ _ _)
   | (with_reducible exact LeO.refl _)
   | (with_reducible exact LeO.none _)
   | (with_reducible refine LeO.ite ?_ ?_)
   | (with_reducible refine LeO.bind ?_ (fun _ => ?_))
   | exact ih0 _ _ _ _ _
   | exact LeO.none _
   | refine LeO.ite ?_ ?_
   | refine LeO.bind ?_ (fun _ => ?_)
set_option maxHeartbeats 8000000 in
set_option maxRecDepth 100000 in
theorem spec_CountOf.calls (k : Nat) (A0_0 : Option Addr) (c0_0 : Nat) (l0_0 : List Int) (a0_1 : Int) (A0_2 : Option Addr) (c0_2 : Nat) (l0_2 : List (S88)) (r : Int) (w : World) (hr0_0 : Kd.C (Kd.int .i64) w A0_0 l0_0.length l0_0) (hc0_0 : l0_0.length ≤ c0_0) (hr0_2 : Kd.C k88 w A0_2 l0_2.length l0_2) (hc0_2 : l0_2.length ≤ c0_2) (h : spec_CountOf.f k l0_0 a0_1 l0_2 = some r) :
  Calls Try.prog 41 #[.agg #[.slice A0_0 l0_0.length c0_0, .int .i64 a0_1, .slice A0_2 l0_2.length c0_2]] w fun e w' => e = .returned (.int .i64 r) ∧ Below w.heap.size w w' := by
 have hu41 := Try.underlying41
 have HR0_0 := Aside0.mk hr0_0
 have HC0_0 := Aside0.mk hc0_0
 clear hr0_0 hc0_0
 have HR0_2 := Aside0.mk hr0_2
 have HC0_2 := Aside0.mk hc0_2
 clear hr0_2 hc0_2
 have HB := Aside0.mk (Below.refl w.heap.size w)
 have H : (spec_CountOf.l0 k (l0_0.length : Int) 0 l0_0 a0_1 l0_2) = some r := h
 clear h
 have H' := Aside0.mk H
 clear H
 go_enter Try.func41, Try.ntmps41
 go_wp2_with (first | ((with_reducible refine gate_dst (N := 1) rfl ?_); refine box_event ?hg (N := 1) ?hd (cs := #[.slice A0_0 l0_0.length c0_0, .int .i64 a0_1, .slice A0_2 l0_2.length c0_2]) (t := 41) ?hr ?_; (case hd => rfl); (case hg => rfl); (case hr => first | (go_simp; done) | (go_simp; rfl)); intro gb747 hg w2 hbox hb; have n0_ := Aside0.mk (below_step hB_ hb); have n1_ := Aside0.mk (hbox); have n2_ := Aside0.mk ((sz_ hg (below_size hB_) : w.heap.size ≤ gb747)); have n3_ := Aside0.mk ((sz_ hg (below_size hB_) : w.heap.size ≤ gb747)); clear HB; have HB := n0_; have BK747 := n1_; have GW747 := n2_; have GE747 := n3_; clear n0_ n1_ n2_ n3_; clear hb hbox hg; obtain ⟨hcz3_0, hcz3_1, hcz3_2, hfz3_0, hfz3_1, hfz3_2⟩ := blkc3_ BK747.out))
 repeat (go_quiet (first | ((with_reducible refine gate_dst (N := 1) rfl ?_); refine box_event ?hg (N := 1) ?hd (cs := #[.slice A0_0 l0_0.length c0_0, .int .i64 a0_1, .slice A0_2 l0_2.length c0_2]) (t := 41) ?hr ?_; (case hd => rfl); (case hg => rfl); (case hr => first | (go_simp; done) | (go_simp; rfl)); intro gb747 hg w2 hbox hb; have n0_ := Aside0.mk (below_step hB_ hb); have n1_ := Aside0.mk (hbox); have n2_ := Aside0.mk ((sz_ hg (below_size hB_) : w.heap.size ≤ gb747)); have n3_ := Aside0.mk ((sz_ hg (below_size hB_) : w.heap.size ≤ gb747)); clear HB; have HB := n0_; have BK747 := n1_; have GW747 := n2_; have GE747 := n3_; clear n0_ n1_ n2_ n3_; clear hb hbox hg; obtain ⟨hcz3_0, hcz3_1, hcz3_2, hfz3_0, hfz3_1, hfz3_2⟩ := blkc3_ BK747.out)); try go_wp2_with (first | ((with_reducible refine gate_dst (N := 1) rfl ?_); refine box_event ?hg (N := 1) ?hd (cs := #[.slice A0_0 l0_0.length c0_0, .int .i64 a0_1, .slice A0_2 l0_2.length c0_2]) (t := 41) ?hr ?_; (case hd => rfl); (case hg => rfl); (case hr => first | (go_simp; done) | (go_simp; rfl)); intro gb747 hg w2 hbox hb; have n0_ := Aside0.mk (below_step hB_ hb); have n1_ := Aside0.mk (hbox); have n2_ := Aside0.mk ((sz_ hg (below_size hB_) : w.heap.size ≤ gb747)); have n3_ := Aside0.mk ((sz_ hg (below_size hB_) : w.heap.size ≤ gb747)); clear HB; have HB := n0_; have BK747 := n1_; have GW747 := n2_; have GE747 := n3_; clear n0_ n1_ n2_ n3_; clear hb hbox hg; obtain ⟨hcz3_0, hcz3_1, hcz3_2, hfz3_0, hfz3_1, hfz3_2⟩ := blkc3_ BK747.out)))
 go_loopg [3, 4] k (fun kq v3 v4 w' => ∃ (x3_1 : Int) (x4_1 : Int), v3 = .int .i64 x3_1 ∧ v4 = .int .i64 x4_1 ∧ Aside0 (spec_CountOf.l0 kq x3_1 x4_1 l0_0 a0_1 l0_2 = some r) ∧ Aside0 (kq ≤ k) ∧ Aside0 (w'.heap[gb747]? = some (.cells #[(.slice A0_0 l0_0.length c0_0), .int .i64 a0_1, (.slice A0_2 l0_2.length c0_2)] 41 (0, 0))) ∧ Aside0 (Below w.heap.size w w'))
 case atStart => exact ⟨((l0_0.length : Int)), (0), rF_, rF_, H', ⟨Nat.le_refl _⟩, ⟨bK747_⟩, ⟨hS_⟩⟩
 case round =>
  clear H'
  try clear p2
  try clear hcz3_0 hcz3_1 hcz3_2 hfz3_0 hfz3_1 hfz3_2
  obtain ⟨x3_1, x4_1, rfl, rfl, HA, HK1, BK747, HB⟩ := hrel
  cases gk with
  | zero => exact absurd HA.out (by simp [spec_CountOf.l0])
  | succ k1 =>
   have H := HA.out
   clear HA
   simp only [spec_CountOf.l0] at H
   by_cases c4 : x4_1 < (l0_2.length : Int)
   ·rw [if_pos c4] at H
    have c4b0 : decide (x4_1 < (l0_2.length : Int)) = true := decide_eq_true c4
    clear c4
    by_cases c5 : 0 ≤ x4_1
    ·rw [if_pos c5] at H
     have c5b0 : decide (0 ≤ x4_1) = true := decide_eq_true c5
     clear c5
     have H' := Aside0.mk H
     clear H
     obtain ⟨hcz6_0, hcz6_1, hcz6_2, hfz6_0, hfz6_1, hfz6_2⟩ := blkc3_ BK747.out
     have p748 : 0 ≤ (x4_1 : Int) := oD_
     have q748 : x4_1 < (l0_2.length : Int) := oD_
     obtain ⟨ad748, A748_0, c748_0, A748_1, c748_1, e748, hx748_0, hx748_1, hx748_2, hx748_3, hx748_4, hx748_5, hl748_0, hi748_0, hl748_1, hi748_1⟩ := at_T88 HR0_2.out x4_1 p748 q748
     cases e748
     replace hx748_0 := hx_ HB.out hx748_0
     replace hx748_1 := hx_ HB.out hx748_1
     replace hx748_2 := hx_ HB.out hx748_2
     replace hx748_3 := hx_ HB.out hx748_3
     replace hx748_4 := hx_ HB.out hx748_4
     replace hx748_5 := hx_ HB.out hx748_5
     have HR748_0 := Aside0.mk hi748_0
     have HC748_0 := Aside0.mk hl748_0
     clear hi748_0 hl748_0
     have HR748_1 := Aside0.mk hi748_1
     have HC748_1 := Aside0.mk hl748_1
     clear hi748_1 hl748_1
     replace p748 := eq_true p748
     replace q748 := eq_true q748
     have p749 : 0 ≤ (x4_1 : Int) := oD_
     have q749 : x4_1 < (l0_2.length : Int) := oD_
     obtain ⟨ad749, A749_0, c749_0, A749_1, c749_1, e749, hx749_0, hx749_1, hx749_2, hx749_3, hx749_4, hx749_5, hl749_0, hi749_0, hl749_1, hi749_1⟩ := at_T88 HR0_2.out x4_1 p749 q749
     obtain rfl : ad748 = ad749 := (by injection e749)
     replace hx749_0 := hx_ HB.out hx749_0
     replace hx749_1 := hx_ HB.out hx749_1
     replace hx749_2 := hx_ HB.out hx749_2
     replace hx749_3 := hx_ HB.out hx749_3
     replace hx749_4 := hx_ HB.out hx749_4
     replace hx749_5 := hx_ HB.out hx749_5
     have HR749_0 := Aside0.mk hi749_0
     have HC749_0 := Aside0.mk hl749_0
     clear hi749_0 hl749_0
     have HR749_1 := Aside0.mk hi749_1
     have HC749_1 := Aside0.mk hl749_1
     clear hi749_1 hl749_1
     replace p749 := eq_true p749
     replace q749 := eq_true q749
     have ea_ := Option.some.inj (hx748_0.symm.trans hx749_0)
     injection ea_ with ea_ en_ ec_
     subst ea_
     subst ec_
     clear en_
     have ea_ := Option.some.inj (hx748_1.symm.trans hx749_1)
     injection ea_ with ea_ en_ ec_
     subst ea_
     subst ec_
     clear en_
     go_wp2
     repeat (go_quiet (fail); try go_wp2)
     go_roundg k1
     case measure => have := HK1.out; omega
     case rel => exact ⟨(wrap64 (x3_1 + (wrap64 ((((rd_T88 l0_2 x4_1).f0).length : Int) + (((rd_T88 l0_2 x4_1).f1).length : Int))))), (wrap64 (x4_1 + 1)), rF_, rF_, H', ⟨by have := HK1.out; omega⟩, ⟨bK747_⟩, ⟨hS_⟩⟩
    ·rw [if_neg c5] at H
     exact absurd H (by simp)
   ·rw [if_neg c4] at H
    have c4b0 : decide (x4_1 < (l0_2.length : Int)) = false := decide_eq_false c4
    clear c4
    obtain rfl := Option.some.inj H
    obtain ⟨hcz7_0, hcz7_1, hcz7_2, hfz7_0, hfz7_1, hfz7_2⟩ := blkc3_ BK747.out
    go_wp2
    repeat (go_quiet (fail); try go_wp2)
    go_ret
    exact ⟨rG_, hS_⟩
end Go.Proofs.Ytjkbafcepblacaa.X
namespace Go.Proofs.Ytjkbafcepblacaa.X
set_option linter.unusedVariables false
set_option linter.unusedSimpArgs false
open Go.RowKit Go.Proofs.YtjkbafcepblacaaW.PrintWords Go.Proofs.YtjkbafcepblacaaW.PrintLast Go.Proofs.YtjkbafcepblacaaW.PrintMore
/-- A loop that adds up over a list. -/
theorem add_loop {α : Type} (L : Nat → Int → Int → Option Int) (l : List α) (z : α) (f : α → Int)
    (hL : ∀ k n i, L (k + 1) n i = if i < (l.length : Int) then (if 0 ≤ i then (L k (wrap64 (n + f (l.getD i.toNat z))) (wrap64 (i + 1))) else none) else some n)
    (hlen : l.length ≤ 1048576) (hf : ∀ x ∈ l, 0 ≤ f x) (n : Int) (h0 : 0 ≤ n) (hs : n + sumOf f l ≤ 2097152) : Ev (fun k => L k n 0) (n + sumOf f l) := by
  suffices h : ∀ (d i : Nat) (n : Int), i + d = l.length → 0 ≤ n → n + sumOf f (l.drop i) ≤ 2097152 → Ev (fun k => L k n i) (n + sumOf f (l.drop i)) by
    have := h l.length 0 n (by omega) h0 (by simpa using hs)
    simpa using this
  intro d
  induction d with
  | zero =>
    intro i n hi h0 hs
    refine Ev.step (fun k => hL k n i) (Ev.ineg (by omega) (Ev.rw (Ev.now n) ?_))
    rw [List.drop_of_length_le (by omega)]
    simp [sumOf]
  | succ d ih =>
    intro i n hi h0 hs
    have hlt : i < l.length := by omega
    have hx := hf _ (List.getElem_mem hlt)
    have hr := sumOf_nonneg (f := f) (l := l.drop (i + 1)) (fun y hy => hf y (List.mem_of_mem_drop hy))
    rw [sumOf_drop f l i hlt] at hs ⊢
    refine Ev.step (fun k => hL k n i) (Ev.ipos (by omega) (Ev.ipos (by omega) ?_))
    rw [show (i : Int).toNat = i from rfl, getD_at l z i hlt, w64 (x := n + f l[i]) (by omega) (by omega)]
    rw [show wrap64 ((i : Int) + 1) = ((i + 1 : Nat) : Int) by rw [w64 (by omega) (by omega)]; rfl]
    exact Ev.rw (ih (i + 1) (n + f l[i]) (by omega) (by omega) (by omega)) (by omega)
theorem cntB_nonneg (b : Block) : 0 ≤ cntB b := by have := len_nonneg b.f0; have := len_nonneg b.f1; unfold cntB; omega
/-- How many ids there are. -/
def countOf (p : List Int) (l : List Block) : Int := len p + sumOf cntB l
/-- It is a function whose lists are small. -/
def Small (p : List Int) (l : List Block) : Prop := smI p ∧ smbs l ∧ countOf p l ≤ 1048576
theorem cnt_wrap (b : Block) (h : smb b) : wrap64 ((b.f0.length : Int) + (b.f1.length : Int)) = cntB b := by
  have := h.1; have := h.2.2.1
  rw [w64 (by omega) (by omega)]; rfl
theorem countOf_nonneg (p : List Int) (l : List Block) : 0 ≤ countOf p l := by
  have := len_nonneg p
  have := sumOf_nonneg (l := l) (fun x _ => cntB_nonneg x)
  unfold countOf; omega
theorem sumOf_congr {α : Type} {f g : α → Int} : ∀ {l : List α}, (∀ x ∈ l, f x = g x) → sumOf f l = sumOf g l
  | [], _ => rfl
  | x :: l, h => by simp only [sumOf]; rw [h x (by simp), sumOf_congr (fun y hy => h y (by simp [hy]))]
theorem implCountOf_ev (p : List Int) (r : Int) (l : List Block) (h : Small p l) : Ev (fun k => impl_CountOf.f k p r l) (countOf p l) := by
  obtain ⟨hp, hl, hc⟩ := h
  have e : sumOf (fun b : Block => wrap64 ((b.f0.length : Int) + (b.f1.length : Int))) l = sumOf cntB l := sumOf_congr (fun b hb => cnt_wrap b (hl.2 b hb))
  have := add_loop (fun k n i => impl_CountOf.l0 k n l (l.length : Int) i) l z88 (fun b => wrap64 ((b.f0.length : Int) + (b.f1.length : Int))) (fun k n i => by
    simp only [impl_CountOf.l0]
    by_cases c : i < (l.length : Int)
    · rw [if_pos c, if_pos c, if_pos c]; rfl
    · rw [if_neg c, if_neg c]) hl.1 (fun b hb => by rw [cnt_wrap b (hl.2 b hb)]; exact cntB_nonneg b) (len p) (len_nonneg p) (by rw [e]; unfold countOf at hc; omega)
  rw [e] at this
  exact this
/-- The frame of a law over a function: what is left to be shown is asked of small functions alone. -/
theorem small_of {p : List Int} {l : List LBlock} (h : len p + szBs l ≤ 1048576) : Small p (l.map cBlock) :=
  ⟨(sm_of_sz h).1, smbs_of (sm_of_sz h).2.1, cnt_le h⟩
theorem law_func {p : List Int} {r : Int} {l : List LBlock} (hw : wf54 ⟨p, r, l⟩) {g : Nat → Option Bool} (h : smI p → smBs l → Small p (l.map cBlock) → Ev g true) :
    Ev (fun k => (laws_szFunc.f k p r l 1048576).bind fun t => if t < 0 then some true else g k) true := by
  refine Ev.bind (szFunc_ev p r l hw 1048576 (by decide) (by decide)) ?_
  by_cases c : len p + szBs l ≤ 1048576
  · rw [show rem 1048576 (len p + szBs l) = 1048576 - (len p + szBs l) from if_pos c]
    exact Ev.ineg (by omega) (h (sm_of_sz c).1 (sm_of_sz c).2.1 (small_of c))
  · rw [show rem 1048576 (len p + szBs l) = -1 from if_neg c]
    exact Ev.ipos (by decide) (Ev.now true)
end Go.Proofs.Ytjkbafcepblacaa.X
namespace Go.Proofs.Ytjkbafcepblacaa.X
set_option linter.unusedVariables false
set_option linter.unusedSimpArgs false
open Go.RowKit Go.Proofs.YtjkbafcepblacaaW.PrintWords Go.Proofs.YtjkbafcepblacaaW.PrintLast Go.Proofs.YtjkbafcepblacaaW.PrintMore
def I64 (n : Int) : Prop := -9223372036854775808 ≤ n ∧ n ≤ 9223372036854775807
theorem i64_of {n : Int} (h : (Lit.int .i64 n).wf = true) : I64 n := by
  simp [Lit.wf, IntKind.min, IntKind.max, IntKind.signed, IntKind.bits] at h
  exact ⟨by omega, by omega⟩
/-- The place of an id that is counted from block b on. -/
def placeL : List Block → Nat → Int → Int × Int
  | [], _, _ => (-2, 0)
  | x :: l, b, id => if id < cntB x then ((b : Int), id) else placeL l (b + 1) (id - cntB x)
def placeOf (p : List Int) (l : List Block) (id : Int) : Int × Int := if id < 0 then (-2, 0) else if id < len p then (-1, id) else placeL l 0 (id - len p)
theorem placeL_drop (l : List Block) (i : Nat) (h : i < l.length) (id : Int) : placeL (l.drop i) i id = if id < cntB l[i] then ((i : Int), id) else placeL (l.drop (i + 1)) (i + 1) (id - cntB l[i]) := by
  rw [List.drop_eq_getElem_cons h]; rfl
theorem placeL_out : ∀ (l : List Block) (b : Nat) (id : Int), sumOf cntB l ≤ id → placeL l b id = (-2, 0)
  | [], _, _, _ => rfl
  | x :: l, b, id, h => by
    have hs := sumOf_nonneg (f := cntB) (l := l) (fun y _ => cntB_nonneg y)
    simp only [sumOf] at h
    unfold placeL
    rw [if_neg (by omega)]
    exact placeL_out l (b + 1) _ (by omega)
theorem placeL_in : ∀ (l : List Block) (b : Nat) (id : Int), 0 ≤ id → id < sumOf cntB l → ∃ j : Nat, ∃ h : j < l.length, placeL l b id = (((b + j : Nat) : Int), id - sumOf cntB (l.take j)) ∧ 0 ≤ id - sumOf cntB (l.take j) ∧ id - sumOf cntB (l.take j) < cntB l[j]
  | [], _, id, h0, h => by simp [sumOf] at h; omega
  | x :: l, b, id, h0, h => by
    simp only [sumOf] at h
    unfold placeL
    by_cases c : id < cntB x
    · exact ⟨0, by simp, by rw [if_pos c]; simp [sumOf], by simpa [sumOf] using h0, by simpa [sumOf] using c⟩
    · obtain ⟨j, hj, e, a, b'⟩ := placeL_in l (b + 1) (id - cntB x) (by omega) (by omega)
      refine ⟨j + 1, by simpa using hj, ?_, ?_, ?_⟩
      · rw [if_neg c, e]
        simp only [List.take_succ_cons, sumOf]
        refine Prod.ext ?_ ?_
        · push_cast; omega
        · show _ = _; omega
      · simp only [List.take_succ_cons, sumOf]; omega
      · simp only [List.take_succ_cons, sumOf, List.getElem_cons_succ]; omega
theorem specPlace_l (p : List Int) (r : Int) (l : List Block) (hl : smbs l) : ∀ (d i : Nat) (id : Int), i + d = l.length → 0 ≤ id → id ≤ 9223372036854775807 → Ev (fun k => spec_l2Place.l0 k id i p r l) (placeL (l.drop i) i id) := by
  intro d
  induction d with
  | zero =>
    intro i id hi h0 h1
    refine Ev.step (fun k => rfl) (Ev.ineg (by omega) (Ev.rw (Ev.now _) ?_))
    rw [List.drop_of_length_le (by omega)]; rfl
  | succ d ih =>
    intro i id hi h0 h1
    have hlt : i < l.length := by omega
    have hb := hl.2 _ (List.getElem_mem hlt)
    have hl1 := hl.1
    have hc := cntB_nonneg l[i]
    have hcm : cntB l[i] ≤ 2097152 := by have := hb.1; have := hb.2.2.1; unfold cntB len; omega
    refine Ev.step (fun k => rfl) (Ev.ipos (by omega) (Ev.ipos (by omega) ?_))
    rw [show rd_T88 l (i : Int) = l[i] from getD_at l _ i hlt, cnt_wrap _ hb, placeL_drop l i hlt]
    by_cases c : id < cntB l[i]
    · rw [if_pos c]
      exact Ev.ipos c (Ev.now _)
    · rw [if_neg c]
      refine Ev.ineg c ?_
      rw [w64 (x := id - cntB l[i]) (by omega) (by omega), show wrap64 ((i : Int) + 1) = ((i + 1 : Nat) : Int) by rw [w64 (by omega) (by omega)]; rfl]
      exact ih (i + 1) _ (by omega) (by omega) (by omega)
theorem specPlace_ev (p : List Int) (r : Int) (l : List Block) (h : Small p l) (id : Int) (hi : I64 id) : Ev (fun k => spec_l2Place.f k p r l id) (placeOf p l id) := by
  have hp := h.1
  have h2 := hi.2
  unfold placeOf
  by_cases c : id < 0
  · rw [if_pos c]; exact Ev.ipos c (Ev.now _)
  · rw [if_neg c]
    refine Ev.ineg c ?_
    by_cases c2 : id < len p
    · rw [if_pos c2]; exact Ev.ipos c2 (Ev.now _)
    · rw [if_neg c2]
      refine Ev.ineg c2 ?_
      have hn := len_nonneg p
      rw [show wrap64 (id - (p.length : Int)) = id - len p from w64 (by unfold len at *; omega) (by unfold len at *; omega)]
      have := specPlace_l p r l h.2.1 l.length 0 (id - len p) (by omega) (by omega) (by omega)
      simpa using this
theorem implPlace_l (l : List Block) (hl : smbs l) (id : Int) (h1 : id ≤ 9223372036854775807) : ∀ (d i : Nat) (n : Int), i + d = l.length → 0 ≤ n → n ≤ id → n + sumOf cntB (l.drop i) ≤ 2097152 → Ev (fun k => impl_PlaceOf.l0 k id n l (l.length : Int) i) (placeL (l.drop i) i (id - n)) := by
  intro d
  induction d with
  | zero =>
    intro i n hi h0 hn hs
    refine Ev.step (fun k => rfl) (Ev.ineg (by omega) (Ev.rw (Ev.now _) ?_))
    rw [List.drop_of_length_le (by omega)]; rfl
  | succ d ih =>
    intro i n hi h0 hn hs
    have hlt : i < l.length := by omega
    have hb := hl.2 _ (List.getElem_mem hlt)
    have hl1 := hl.1
    have hc := cntB_nonneg l[i]
    have hr := sumOf_nonneg (f := cntB) (l := l.drop (i + 1)) (fun y _ => cntB_nonneg y)
    rw [sumOf_drop cntB l i hlt] at hs
    refine Ev.step (fun k => rfl) (Ev.ipos (by omega) (Ev.ipos (by omega) (Ev.ipos (by omega) ?_)))
    rw [show rd_T88 l (i : Int) = l[i] from getD_at l _ i hlt, cnt_wrap _ hb, placeL_drop l i hlt, w64 (x := n + cntB l[i]) (by omega) (by omega), w64 (x := id - n) (by omega) (by omega)]
    by_cases c : id < n + cntB l[i]
    · rw [if_pos (show id - n < cntB l[i] by omega)]
      exact Ev.ipos c (Ev.now _)
    · rw [if_neg (show ¬ id - n < cntB l[i] by omega)]
      refine Ev.ineg c ?_
      rw [show wrap64 ((i : Int) + 1) = ((i + 1 : Nat) : Int) by rw [w64 (by omega) (by omega)]; rfl, show id - n - cntB l[i] = id - (n + cntB l[i]) by omega]
      exact ih (i + 1) _ (by omega) (by omega) (by omega) (by omega)
theorem implWithin_eq (a b c : Int) : impl_within.f a b c = some (decide (b ≤ a ∧ a ≤ c)) := by
  unfold impl_within.f
  by_cases h : a ≥ b
  · rw [if_pos h]; have h' : b ≤ a := h; simp [h']
  · rw [if_neg h]; have h' : ¬ b ≤ a := h; simp [h']
theorem implIsId_ev (p : List Int) (r : Int) (l : List Block) (h : Small p l) (id : Int) : Ev (fun k => impl_isId.f k p r l id) (decide (0 ≤ id ∧ id ≤ countOf p l - 1)) := by
  have hc := countOf_nonneg p l
  have hm := h.2.2
  refine Ev.bind (implCountOf_ev p r l h) (Ev.cst ?_)
  rw [w64 (by omega) (by omega), implWithin_eq]; rfl
theorem implPlace_ev (p : List Int) (r : Int) (l : List Block) (h : Small p l) (id : Int) (hi : I64 id) : Ev (fun k => impl_PlaceOf.f k p r l id) (placeOf p l id) := by
  have hn := len_nonneg p
  have hm := h.2.2
  have hs := sumOf_nonneg (f := cntB) (l := l) (fun y _ => cntB_nonneg y)
  refine Ev.bind (implIsId_ev p r l h id) ?_
  unfold placeOf
  unfold countOf at *
  by_cases c : 0 ≤ id ∧ id ≤ len p + sumOf cntB l - 1
  · rw [if_neg (by omega)]
    refine Ev.ipos (decide_eq_true c) ?_
    by_cases c2 : id < len p
    · rw [if_pos c2]; exact Ev.ipos c2 (Ev.now _)
    · rw [if_neg c2]
      refine Ev.ineg c2 ?_
      have := implPlace_l l h.2.1 id (by omega) l.length 0 (len p) (by omega) hn (by omega) (by simp only [List.drop_zero]; omega)
      simpa [len] using this
  · refine Ev.ineg (by simpa using c) (Ev.rw (Ev.now _) ?_)
    by_cases c1 : id < 0
    · rw [if_pos c1]
    · rw [if_neg c1, if_neg (by omega), placeL_out _ _ _ (by omega)]
/-- Where an id lies, it lies inside. -/
theorem placeOf_in {p : List Int} {l : List Block} {id : Int} {b at_ : Int} (h : placeOf p l id = (b, at_)) (hb : ¬ b < 0) : ∃ j : Nat, ∃ hj : j < l.length, b = (j : Int) ∧ 0 ≤ at_ ∧ at_ < cntB l[j] := by
  unfold placeOf at h
  by_cases c : id < 0
  · rw [if_pos c] at h; injection h with h _; omega
  · rw [if_neg c] at h
    by_cases c2 : id < len p
    · rw [if_pos c2] at h; injection h with h _; omega
    · rw [if_neg c2] at h
      by_cases c3 : id - len p < sumOf cntB l
      · obtain ⟨j, hj, e, a, b'⟩ := placeL_in l 0 (id - len p) (by omega) c3
        rw [e] at h
        injection h with h1 h2
        exact ⟨j, hj, by rw [← h1]; simp, by omega, by omega⟩
      · rw [placeL_out _ _ _ (by omega)] at h
        injection h with h _; omega
/-- A law's last comparison, behind one that parts two ways. -/
theorem pair_ne {α : Type} [DecidableEq α] (x : α) : (x != x) = false := by simp
end Go.Proofs.Ytjkbafcepblacaa.X
namespace Go.Proofs.Ytjkbafcepblacaa.X
set_option linter.unusedVariables false
set_option linter.unusedSimpArgs false
open Go.RowKit Go.Proofs.YtjkbafcepblacaaW.PrintWords Go.Proofs.YtjkbafcepblacaaW.PrintLast Go.Proofs.YtjkbafcepblacaaW.PrintMore
/-- The instruction of an id, if it is one. -/
def instOf (p : List Int) (l : List Block) (id : Int) : Option Inst :=
  match placeOf p l id with
  | (b, at_) => if b < 0 then none else
    let x := l.getD b.toNat z88
    if at_ < len x.f0 then none else some (x.f1.getD (at_ - len x.f0).toNat z27)
/-- .. as it is handed back. -/
def tup : Option Inst → Int × Int × Int × Int × Int × Int × List Int × Bool
  | none => (0, 0, 0, 0, 0, 0, [], false)
  | some i => (i.f0, i.f1, i.f2, i.f3, i.f4, i.f5, i.f6, true)
theorem inst_tail (p : List Int) (l : List Block) (hl : smbs l) (id : Int) :
    (if (placeOf p l id).1 < 0 then (some (0, 0, 0, 0, 0, 0, ([] : List Int), false)) else (if 0 ≤ (placeOf p l id).1 then (if (placeOf p l id).1 < (l.length : Int) then (if (placeOf p l id).2 < (((rd_T88 l (placeOf p l id).1).f0).length : Int) then (some (0, 0, 0, 0, 0, 0, ([] : List Int), false)) else (if 0 ≤ (wrap64 ((placeOf p l id).2 - (((rd_T88 l (placeOf p l id).1).f0).length : Int))) then (if (wrap64 ((placeOf p l id).2 - (((rd_T88 l (placeOf p l id).1).f0).length : Int))) < (((rd_T88 l (placeOf p l id).1).f1).length : Int) then (some ((rd_T27 ((rd_T88 l (placeOf p l id).1).f1) (wrap64 ((placeOf p l id).2 - (((rd_T88 l (placeOf p l id).1).f0).length : Int)))).f0, (rd_T27 ((rd_T88 l (placeOf p l id).1).f1) (wrap64 ((placeOf p l id).2 - (((rd_T88 l (placeOf p l id).1).f0).length : Int)))).f1, (rd_T27 ((rd_T88 l (placeOf p l id).1).f1) (wrap64 ((placeOf p l id).2 - (((rd_T88 l (placeOf p l id).1).f0).length : Int)))).f2, (rd_T27 ((rd_T88 l (placeOf p l id).1).f1) (wrap64 ((placeOf p l id).2 - (((rd_T88 l (placeOf p l id).1).f0).length : Int)))).f3, (rd_T27 ((rd_T88 l (placeOf p l id).1).f1) (wrap64 ((placeOf p l id).2 - (((rd_T88 l (placeOf p l id).1).f0).length : Int)))).f4, (rd_T27 ((rd_T88 l (placeOf p l id).1).f1) (wrap64 ((placeOf p l id).2 - (((rd_T88 l (placeOf p l id).1).f0).length : Int)))).f5, (rd_T27 ((rd_T88 l (placeOf p l id).1).f1) (wrap64 ((placeOf p l id).2 - (((rd_T88 l (placeOf p l id).1).f0).length : Int)))).f6, true)) else (none)) else (none))) else (none)) else (none))) = some (tup (instOf p l id)) := by
  unfold instOf
  generalize hpl : placeOf p l id = q
  obtain ⟨b, a⟩ := q
  simp only []
  by_cases c : b < 0
  · rw [if_pos c, if_pos c]; rfl
  · obtain ⟨j, hj, rfl, h0, h1⟩ := placeOf_in hpl c
    have hb := hl.2 _ (List.getElem_mem hj)
    have hm := hb.1; have hm2 := hb.2.2.1
    rw [if_neg c, if_neg c, if_pos (by omega), if_pos (by omega)]
    rw [show rd_T88 l (j : Int) = l[j] from getD_at l _ j hj, show ((j : Int)).toNat = j from rfl, getD_at l _ j hj]
    unfold cntB len at h1
    by_cases c2 : a < ((l[j].f0.length : Nat) : Int)
    · rw [if_pos c2, if_pos (show a < len l[j].f0 from c2)]; rfl
    · rw [if_neg c2, w64 (x := a - ((l[j].f0.length : Nat) : Int)) (by omega) (by omega), if_pos (by omega), if_pos (by omega), if_neg (show ¬ a < len l[j].f0 from c2)]
      rfl
theorem specInst_ev (p : List Int) (r : Int) (l : List Block) (h : Small p l) (id : Int) (hi : I64 id) : Ev (fun k => spec_l9Inst.f k p r l id) (tup (instOf p l id)) :=
  Ev.bind (specPlace_ev p r l h id hi) (Ev.cst (inst_tail p l h.2.1 id))
theorem implInst_ev (p : List Int) (r : Int) (l : List Block) (h : Small p l) (id : Int) (hi : I64 id) : Ev (fun k => impl_instOf.f k p r l id) (tup (instOf p l id)) :=
  Ev.bind (implPlace_ev p r l h id hi) (Ev.cst (inst_tail p l h.2.1 id))
def constOf (p : List Int) (l : List Block) (id : Int) : Int × Bool :=
  match instOf p l id with
  | some i => if i.f0 = 21 then (i.f5, true) else (0, false)
  | none => (0, false)
theorem const_tail (o : Option Inst) : (if (tup o).2.2.2.2.2.2.2 = true then (if (tup o).1 = 21 then (some ((tup o).2.2.2.2.2.1, true)) else (some (0, false))) else (some (0, false))) = some (match o with | some i => if i.f0 = 21 then (i.f5, true) else (0, false) | none => (0, false)) := by
  cases o with
  | none => rfl
  | some i =>
    by_cases c : i.f0 = 21
    · simp [tup, c]
    · simp [tup, c]
theorem specConst_ev (p : List Int) (r : Int) (l : List Block) (h : Small p l) (id : Int) (hi : I64 id) : Ev (fun k => spec_ConstOf.f k p r l id) (constOf p l id) :=
  Ev.bind (specInst_ev p r l h id hi) (Ev.cst (const_tail _))
theorem implConst_ev (p : List Int) (r : Int) (l : List Block) (h : Small p l) (id : Int) (hi : I64 id) : Ev (fun k => impl_ConstOf.f k p r l id) (constOf p l id) :=
  Ev.bind (implInst_ev p r l h id hi) (Ev.cst (const_tail _))
end Go.Proofs.Ytjkbafcepblacaa.X
namespace Go.Proofs.Ytjkbafcepblacaa.Pure
open Go.RowKit Go.Proofs.Ytjkbafcepblacaa.X Go.Proofs.YtjkbafcepblacaaW.PrintWords Go.Proofs.YtjkbafcepblacaaW.PrintLast
theorem FnExactConstOf : ∀ (l0_0 : List Int) (a0_1 : Int) (l0_2 : List (S113)) (a1 : Int), (Lit.int .i64 a1).wf = true → wf54 (⟨l0_0, a0_1, l0_2⟩ : S54) → ∃ k, laws_FnExactConstOf.f k l0_0 a0_1 l0_2 a1 = some true := by
  intro p r l id hid hw
  have hi := i64_of hid
  refine (law_func hw (fun hp hl hs => ?_)).rounds
  refine Ev.bind (toFunc_ev p r l hp hl) (Ev.bind (specConst_ev _ _ _ hs id hi) (Ev.bind (toFunc_ev p r l hp hl) (Ev.bind (implConst_ev _ _ _ hs id hi) (Ev.ipos rfl ?_))))
  rw [pair_ne]
  refine Ev.succ ?_
  simp only [laws_FnExactConstOf.j0, Bool.false_eq_true, if_false]
  exact Ev.bind (toFunc_ev p r l hp hl) (Ev.bind (eqFunc_ev _ _ _ hs.1 hs.2.1) (Ev.ipos rfl (Ev.now true)))
end Go.Proofs.Ytjkbafcepblacaa.Pure
