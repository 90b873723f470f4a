/- PROVED HERE: what the functions that the law FnIdom reaches do in memory, each as a plain Lean function, and what these tell: part 2 of 4 of the proof of that law; no condition beyond those written out at each theorem. -/
import Derived.Test.YtjkbafcepblacaaZFnIdom0
namespace Go.Proofs.Ytjkbafcepblacaa.X
open Go.RowKit Go.Proofs.YtjkbafcepblacaaW.PrintWords Go.Proofs.YtjkbafcepblacaaW.PrintLast Go.Proofs.YtjkbafcepblacaaW.PrintMore
attribute [local go_sem] max2_int min2_int max_two min_two max_three min_three max_four min_four   -- for this text's walks alone
set_option linter.unusedVariables false
set_option linter.unusedSimpArgs false
/-! ### spec_DrawIdomOf: function 30 -/
def spec_DrawIdomOf.f (k : Nat) (l0 : List Int) : Option (List Int × Int × (List (S88)) × Int) := (spec_l1Open.f l0).bind fun bt540 => ((spec_l1Rd_graph.f k bt540.1 bt540.2).bind fun bt543 => ((spec_l1Rd_off.f k bt540.1 bt543.2.2.2 0 5).bind fun bt552 => (some (bt543.1, bt543.2.1, bt543.2.2.1, bt552.1))))
theorem spec_DrawIdomOf.mono : ∀ a0 k, LeO (spec_DrawIdomOf.f k a0) (spec_DrawIdomOf.f (k + 1) a0) := by
 intro a0 k
 unfold spec_DrawIdomOf.f
 repeat' first
   | (with_reducible exact spec_l1Rd_graph.mono _ _ _)
   | (with_reducible exact spec_l1Rd_off.mono _ _ _ _ _)
   | (with_reducible exact LeO.refl _)
   | (with_reducible exact LeO.none _)
   | (with_reducible refine LeO.ite ?_ ?_)
   | (with_reducible refine LeO.bind ?_ (fun _ => ?_))
   | exact spec_l1Rd_graph.mono _ _ _
   | exact spec_l1Rd_off.mono _ _ _ _ _
   | exact LeO.none _
   | refine LeO.ite ?_ ?_
   | refine LeO.bind ?_ (fun _ => ?_)
set_option maxHeartbeats 8000000 in
set_option maxRecDepth 100000 in
theorem spec_DrawIdomOf.calls (k : Nat) (A0 : Option Addr) (c0 : Nat) (l0 : List Int) (r1 : List Int) (r2 : Int) (r3 : List (S88)) (r4 : Int) (w : World) (hr0 : Kd.C (Kd.int .u8) w A0 l0.length l0) (hc0 : l0.length ≤ c0) (h : spec_DrawIdomOf.f k l0 = some (r1, r2, r3, r4)) :
  Calls Try.prog 30 #[.slice A0 l0.length c0] w fun e w' => ∃ v0_ v2_ : Value, e = .returned (.tuple #[.agg #[v0_, .int .i64 r2, v2_], .int .i64 r4]) ∧ Kd.R (Kd.int .i64) 2 w' w.heap.size (fun _ => True) v0_ r1 ∧ Kd.R k88 88 w' w.heap.size (fun k_ => some k_ ≠ (v0_ : Value).ownBlock) v2_ r3 ∧ Below w.heap.size w w' := by
 have hu41 := Try.underlying41
 have HR0 := Aside0.mk hr0
 have HC0 := Aside0.mk hc0
 clear hr0 hc0
 have HB := Aside0.mk (Below.refl w.heap.size w)
 have H : ((spec_l1Open.f l0).bind fun bt540 => ((spec_l1Rd_graph.f k bt540.1 bt540.2).bind fun bt543 => ((spec_l1Rd_off.f k bt540.1 bt543.2.2.2 0 5).bind fun bt552 => (some (bt543.1, bt543.2.1, bt543.2.2.1, bt552.1))))) = some (r1, r2, r3, r4) := h
 clear h
 replace H := Option.bind_eq_some_iff.mp H
 obtain ⟨⟨t540, t541⟩, A20, H⟩ := H
 replace H : ((spec_l1Rd_graph.f k t540 t541).bind fun bt543 => ((spec_l1Rd_off.f k t540 bt543.2.2.2 0 5).bind fun bt552 => (some (bt543.1, bt543.2.1, bt543.2.2.1, bt552.1)))) = some (r1, r2, r3, r4) := H
 have A2 := Aside0.mk A20
 clear A20
 replace H := Option.bind_eq_some_iff.mp H
 obtain ⟨⟨t543, t546, t547, t550⟩, A30, H⟩ := H
 replace H : ((spec_l1Rd_off.f k t540 t550 0 5).bind fun bt552 => (some (t543, t546, t547, bt552.1))) = some (r1, r2, r3, r4) := H
 have A3 := Aside0.mk A30
 clear A30
 replace H := Option.bind_eq_some_iff.mp H
 obtain ⟨⟨t552, t553⟩, A40, H⟩ := H
 replace H : (some (t543, t546, t547, t552)) = some (r1, r2, r3, r4) := H
 have A4 := Aside0.mk A40
 clear A40
 simp only [Option.some.injEq, Prod.mk.injEq] at H
 obtain ⟨rfl, rfl, rfl, rfl⟩ := H
 go_enter Try.func30, Try.ntmps30
 try go_wp2_with (first | ((with_reducible refine gate_dst (N := 2) rfl ?_); refine box_event ?hg (N := 2) ?hd (cs := #[.slice none 0 0, .int .i64 0, .slice none 0 0]) (t := 41) ?hr ?_; (case hd => rfl); (case hg => rfl); (case hr => first | (go_simp; done) | (go_simp; rfl)); intro gb539 hg w5 hbox hb; have n0_ := Aside0.mk (below_step hB_ hb); have n1_ := Aside0.mk (hbox); have n2_ := Aside0.mk ((sz_ hg (below_size hB_) : w.heap.size ≤ gb539)); have n3_ := Aside0.mk ((sz_ hg (below_size hB_) : w.heap.size ≤ gb539)); clear HB; have HB := n0_; have BK539 := n1_; have GW539 := n2_; have GE539 := n3_; clear n0_ n1_ n2_ n3_; clear hb hbox hg) | ((with_reducible refine gate_callee (f := 66) rfl ?_); refine gL_ (some 7) Try.func66 #[.slice A0 l0.length c0] ?_; (with_reducible refine (spec_l1Open.calls _ _ l0 t540 t541 w _ ?side1 ?side2 ?side3 A2.out).mono ?_); (case side1 => repeat (first | (with_reducible first | exact HB.out | apply below_alloc | apply pw_below_drewN | apply below_drew1 | refine below_set ?_ GE539.out) | exact HB.out)); (case side2 => exact HR0.out); (case side3 => exact HC0.out); rintro e w6 ⟨g542, rfl, hi, hb, hb2⟩; refine ⟨_, rfl, ?_⟩; have n0_ := Aside0.mk (blk_below (g := gb539) (o := .cells #[.slice none 0 0, .int .i64 0, .slice none 0 0] 41 (0, 0)) bK539_ hb2); have n1_ := Aside0.mk (hb); have n2_ := Aside0.mk (hi); have n3_ := Aside0.mk (IsS100.ne_blk hi (blk_below (g := gb539) (o := .cells #[.slice none 0 0, .int .i64 0, .slice none 0 0] 41 (0, 0)) bK539_ hb2) (by decide)); have n4_ := Aside0.mk (Ne.symm (IsS100.ne_blk hi (blk_below (g := gb539) (o := .cells #[.slice none 0 0, .int .i64 0, .slice none 0 0] 41 (0, 0)) bK539_ hb2) (by decide))); clear BK539; clear HB; have BK539 := n0_; have HB := n1_; have HI542 := n2_; have NB542_539 := n3_; have NB539_542 := n4_; clear n0_ n1_ n2_ n3_ n4_; (try clear hb); (try clear hb2); (try clear hk); (try clear hi)) | ((with_reducible refine gate_callee (f := 67) rfl ?_); refine gL_ (some 9) Try.func67 #[.pointer (some ⟨g542, 0, none⟩)] ?_; (with_reducible refine (spec_l1Rd_graph.calls k g542 t540 t541 t543 t546 t547 t550 w _ ?side1 ?side2 A3.out).mono ?_); (case side1 => repeat (first | (with_reducible first | exact HI542.out | apply IsS100.alloc | apply IsS100.drewN | apply IsS100.drew | apply IsS100.set_1 | refine IsS100.far ?_ NB542_539.out _) | exact HI542.out)); (case side2 => repeat (first | (with_reducible first | exact HB.out | apply below_alloc | apply pw_below_drewN | apply below_drew1 | refine below_set ?_ (IsS100.ge HI542.out) | refine below_set ?_ GE539.out) | exact HB.out)); rintro e w7 ⟨v544, v548, rfl, ho0, ho1, hi, hb, hk⟩; refine ⟨_, rfl, ?_⟩; have n0_ := Aside0.mk (KeepBut.blk hk (g' := gb539) (o := .cells #[.slice none 0 0, .int .i64 0, .slice none 0 0] 41 (0, 0)) bK539_ NB539_542.out (by simp)); have n1_ := Aside0.mk (Kd.R_lower ho0 (below_size (by repeat (first | (with_reducible first | exact HB.out | apply below_alloc | apply pw_below_drewN | apply below_drew1 | refine below_set ?_ (IsS100.ge HI542.out) | refine below_set ?_ GE539.out) | exact HB.out)))); have n2_ := Aside0.mk (Kd.R_lower ho1 (below_size (by repeat (first | (with_reducible first | exact HB.out | apply below_alloc | apply pw_below_drewN | apply below_drew1 | refine below_set ?_ (IsS100.ge HI542.out) | refine below_set ?_ GE539.out) | exact HB.out)))); have n3_ := Aside0.mk (hb); have n4_ := Aside0.mk (hi); clear BK539; clear HB; clear HI542; have BK539 := n0_; have HO545 := n1_; have HO549 := n2_; have HB := n3_; have HI542 := n4_; clear n0_ n1_ n2_ n3_ n4_; (try clear hb); (try clear hb2); (try clear hk); (try clear hi); (try clear ho0); (try clear ho1)) | ((with_reducible refine gate_dst (N := 5) rfl ?_); refine box_event ?hg (N := 5) ?hd (cs := #[.slice none 0 0, .int .i64 0, .slice none 0 0]) (t := 41) ?hr ?_; (case hd => rfl); (case hg => rfl); (case hr => first | (go_simp; done) | (go_simp; rfl)); intro gb551 hg w8 hbox hb; have n0_ := Aside0.mk (Kd.R_below rHO545_ hb); have n1_ := Aside0.mk (Kd.R_below rHO549_ hb); have n2_ := Aside0.mk (blk_below (g := gb539) (o := .cells #[.slice none 0 0, .int .i64 0, .slice none 0 0] 41 (0, 0)) bK539_ hb); have n3_ := Aside0.mk (IsS100.below (by repeat (first | (with_reducible first | exact HI542.out | apply IsS100.alloc | apply IsS100.drewN | apply IsS100.drew | apply IsS100.set_1 | refine IsS100.far ?_ NB542_539.out _) | exact HI542.out)) hb); have n4_ := Aside0.mk (below_step (by repeat (first | (with_reducible first | exact HB.out | apply below_alloc | apply pw_below_drewN | apply below_drew1 | refine below_set ?_ (IsS100.ge HI542.out) | refine below_set ?_ GE539.out) | exact HB.out)) hb); have n5_ := Aside0.mk (hbox); have n6_ := Aside0.mk ((by rw [hg]; exact (below_size (by repeat (first | (with_reducible first | exact HB.out | apply below_alloc | apply pw_below_drewN | apply below_drew1 | refine below_set ?_ (IsS100.ge HI542.out) | refine below_set ?_ GE539.out) | exact HB.out))) : w.heap.size ≤ gb551)); have n7_ := Aside0.mk ((by rw [hg]; exact (below_size (by repeat (first | (with_reducible first | exact HB.out | apply below_alloc | apply pw_below_drewN | apply below_drew1 | refine below_set ?_ (IsS100.ge HI542.out) | refine below_set ?_ GE539.out) | exact HB.out))) : w.heap.size ≤ gb551)); have n8_ := Aside0.mk ((by rw [hg]; exact Nat.ne_of_lt (blk_lt (g := gb539) (o := .cells #[.slice none 0 0, .int .i64 0, .slice none 0 0] 41 (0, 0)) bK539_) : gb539 ≠ gb551)); have n9_ := Aside0.mk ((by rw [hg]; exact Nat.ne_of_gt (blk_lt (g := gb539) (o := .cells #[.slice none 0 0, .int .i64 0, .slice none 0 0] 41 (0, 0)) bK539_) : gb551 ≠ gb539)); have n10_ := Aside0.mk ((by rw [hg]; exact Nat.ne_of_lt (IsS100.lt (show IsS100 w _ g542 t540 t550 from by repeat (first | (with_reducible first | exact HI542.out | apply IsS100.alloc | apply IsS100.drewN | apply IsS100.drew | apply IsS100.set_1 | refine IsS100.far ?_ NB542_539.out _) | exact HI542.out))) : g542 ≠ gb551)); have n11_ := Aside0.mk ((by rw [hg]; exact Nat.ne_of_gt (IsS100.lt (show IsS100 w _ g542 t540 t550 from by repeat (first | (with_reducible first | exact HI542.out | apply IsS100.alloc | apply IsS100.drewN | apply IsS100.drew | apply IsS100.set_1 | refine IsS100.far ?_ NB542_539.out _) | exact HI542.out))) : gb551 ≠ g542)); clear HO545; clear HO549; clear BK539; clear HI542; clear HB; have HO545 := n0_; have HO549 := n1_; have BK539 := n2_; have HI542 := n3_; have HB := n4_; have BK551 := n5_; have GW551 := n6_; have GE551 := n7_; have NB539_551 := n8_; have NB551_539 := n9_; have NB542_551 := n10_; have NB551_542 := n11_; clear n0_ n1_ n2_ n3_ n4_ n5_ n6_ n7_ n8_ n9_ n10_ n11_; clear hb hbox hg; obtain ⟨Ao9, co9, eo9⟩ := Kd.R_slice HO545.out; subst eo9; have hnb10 := NB551_539.out; have hnc10 := NB539_551.out; have hnb11 := NB551_542.out; have hnc11 := NB542_551.out; obtain ⟨hcz12_0, hcz12_1, hcz12_2, hfz12_0, hfz12_1, hfz12_2⟩ := blkc3_ BK551.out; obtain ⟨Ao13, co13, eo13⟩ := Kd.R_slice HO549.out; subst eo13))
 have n0_ : Aside0 (Kd.R (Kd.int .i64) 2 (((w8.setCell ⟨gb551, 0, none⟩ (.slice Ao9 t543.length co9)).setCell ⟨gb551, 1, none⟩ (.int .i64 t546)).setCell ⟨gb551, 2, none⟩ (.slice Ao13 t547.length co13)) w.heap.size (fun _ => True) (.slice Ao9 t543.length co9) t543) := ⟨by (with_reducible repeat (first | apply Kd.R_alloc | apply Kd.R_drewN | apply Kd.R_drew)); exact Kd.R_mono (Kd.R_far (p := ⟨gb551, 2, none⟩) (Kd.R_far (p := ⟨gb551, 1, none⟩) (Kd.R_far (p := ⟨gb551, 0, none⟩) (Kd.R_types HO545.out BK551.out (by decide)) (fun _ hk => hk.2) (.slice Ao9 t543.length co9)) (fun _ hk => hk.2) (.int .i64 t546)) (fun _ hk => hk.2) (.slice Ao13 t547.length co13)) (fun _ hk => trivial)⟩
 have n1_ : Aside0 (Kd.R k88 88 (((w8.setCell ⟨gb551, 0, none⟩ (.slice Ao9 t543.length co9)).setCell ⟨gb551, 1, none⟩ (.int .i64 t546)).setCell ⟨gb551, 2, none⟩ (.slice Ao13 t547.length co13)) w.heap.size (fun k_ => some k_ ≠ (.slice Ao9 t543.length co9 : Value).ownBlock) (.slice Ao13 t547.length co13) t547) := ⟨by (with_reducible repeat (first | apply Kd.R_alloc | apply Kd.R_drewN | apply Kd.R_drew)); exact Kd.R_mono (Kd.R_far (p := ⟨gb551, 2, none⟩) (Kd.R_far (p := ⟨gb551, 1, none⟩) (Kd.R_far (p := ⟨gb551, 0, none⟩) (Kd.R_types HO549.out BK551.out (by decide)) (fun _ hk => hk.2) (.slice Ao9 t543.length co9)) (fun _ hk => hk.2) (.int .i64 t546)) (fun _ hk => hk.2) (.slice Ao13 t547.length co13)) (fun _ hk => hk.1)⟩
 have n2_ : Aside0 ((((w8.setCell ⟨gb551, 0, none⟩ (.slice Ao9 t543.length co9)).setCell ⟨gb551, 1, none⟩ (.int .i64 t546)).setCell ⟨gb551, 2, none⟩ (.slice Ao13 t547.length co13)).heap[gb539]? = some (.cells #[.slice none 0 0, .int .i64 0, .slice none 0 0] 41 (0, 0))) := ⟨fK539_⟩
 have n3_ : Aside0 ((((w8.setCell ⟨gb551, 0, none⟩ (.slice Ao9 t543.length co9)).setCell ⟨gb551, 1, none⟩ (.int .i64 t546)).setCell ⟨gb551, 2, none⟩ (.slice Ao13 t547.length co13)).heap[gb551]? = some (.cells #[.slice Ao9 t543.length co9, .int .i64 t546, .slice Ao13 t547.length co13] 41 (0, 0))) := ⟨by (with_reducible repeat (first | refine blk_drewN ?_ _ | refine blk_drew ?_ | refine blk_alloc ?_ _)); refine blk_put (cs := #[.slice Ao9 t543.length co9, .int .i64 t546, .slice none 0 0]) ?_ 2 _ rfl; (with_reducible repeat (first | refine blk_drewN ?_ _ | refine blk_drew ?_ | refine blk_alloc ?_ _)); refine blk_put (cs := #[.slice Ao9 t543.length co9, .int .i64 0, .slice none 0 0]) ?_ 1 _ rfl; (with_reducible repeat (first | refine blk_drewN ?_ _ | refine blk_drew ?_ | refine blk_alloc ?_ _)); refine blk_put (cs := #[.slice none 0 0, .int .i64 0, .slice none 0 0]) ?_ 0 _ rfl; (with_reducible repeat (first | refine blk_drewN ?_ _ | refine blk_drew ?_ | refine blk_alloc ?_ _)); exact BK551.out⟩
 have n4_ : Aside0 (IsS100 w (((w8.setCell ⟨gb551, 0, none⟩ (.slice Ao9 t543.length co9)).setCell ⟨gb551, 1, none⟩ (.int .i64 t546)).setCell ⟨gb551, 2, none⟩ (.slice Ao13 t547.length co13)) g542 t540 t550) := ⟨by repeat (first | (with_reducible first | exact HI542.out | apply IsS100.alloc | apply IsS100.drewN | apply IsS100.drew | apply IsS100.set_1 | refine IsS100.far ?_ NB542_539.out _ | refine IsS100.far ?_ NB542_551.out _) | exact HI542.out)⟩
 have n5_ : Aside0 (Below w.heap.size w (((w8.setCell ⟨gb551, 0, none⟩ (.slice Ao9 t543.length co9)).setCell ⟨gb551, 1, none⟩ (.int .i64 t546)).setCell ⟨gb551, 2, none⟩ (.slice Ao13 t547.length co13))) := ⟨by repeat (first | (with_reducible first | exact HB.out | apply below_alloc | apply pw_below_drewN | apply below_drew1 | refine below_set ?_ (IsS100.ge HI542.out) | refine below_set ?_ GE539.out | refine below_set ?_ GE551.out) | exact HB.out)⟩
 (try clear HO545)
 (try clear HO549)
 (try clear BK539)
 (try clear BK551)
 (try clear HI542)
 (try clear HB)
 generalize (((w8.setCell ⟨gb551, 0, none⟩ (.slice Ao9 t543.length co9)).setCell ⟨gb551, 1, none⟩ (.int .i64 t546)).setCell ⟨gb551, 2, none⟩ (.slice Ao13 t547.length co13)) = w14 at n0_ n1_ n2_ n3_ n4_ n5_ ⊢
 have HO545 := n0_
 have HO549 := n1_
 have BK539 := n2_
 have BK551 := n3_
 have HI542 := n4_
 have HB := n5_
 clear n0_ n1_ n2_ n3_ n4_ n5_
 have n0_ := Aside0.mk (Kd.R_drew HO545.out)
 have n1_ := Aside0.mk (Kd.R_drew HO549.out)
 have n2_ := Aside0.mk (blk_drew BK539.out)
 have n3_ := Aside0.mk (blk_drew BK551.out)
 have n4_ := Aside0.mk (IsS100.drew HI542.out)
 have n5_ := Aside0.mk (below_drew1 HB.out)
 clear HO545
 clear HO549
 clear BK539
 clear BK551
 clear HI542
 clear HB
 have HO545 := n0_
 have HO549 := n1_
 have BK539 := n2_
 have BK551 := n3_
 have HI542 := n4_
 have HB := n5_
 clear n0_ n1_ n2_ n3_ n4_ n5_
 refine start_ (n := 5) (S := fun w' => w'.cell? ⟨gb551, 0, none⟩ = some (.slice Ao9 t543.length co9) ∧ w'.cell? ⟨gb551, 1, none⟩ = some (.int .i64 t546) ∧ w'.cell? ⟨gb551, 2, none⟩ = some (.slice Ao13 t547.length co13)) (ds := []) #[false, false, false, false, false] (by kernel_rfl) rfl rfl ⟨(blk_cell BK551.out 0).trans rfl, (blk_cell BK551.out 1).trans rfl, (blk_cell BK551.out 2).trans rfl⟩ (fun hHeld => ?_)
 generalize w14.drew = w15 at HO545 HO549 BK539 BK551 HI542 HB hHeld ⊢
 refine pure_ (i := 1) (N := some 11) (v := ?_) (a' := ?_) #[false, true, false, false, false] rfl rfl (by kernel_rfl) (fun _ _ _ h => h) (Or.inl ⟨by rfl, ?_⟩) ?_ ?_
 rotate_left
 ·intro w'
  go_simp
  with_reducible rfl
 rotate_left
 ·simp only [Act.put, List.setIfInBounds_toArray, List.set_cons_zero, List.set_cons_succ, i64_w, i32_w]
  rfl
 refine take_ (i := 0) (N := some 10) (v := ?_) (a' := ?_) #[true, true, false, false, false] rfl rfl (by kernel_rfl) (fun _ _ _ h => h) (Or.inl ⟨by rfl, ?_⟩) hHeld ?_ ?_
 rotate_left
 ·rintro w' ⟨s0, s1, s2⟩
  go_simp
  with_reducible rfl
 rotate_left
 ·simp only [Act.put, List.setIfInBounds_toArray, List.set_cons_zero, List.set_cons_succ, i64_w, i32_w]
  rfl
 refine one_ (i := 2) (N := some 12) #[true, true, true, false, false] rfl rfl (by kernel_rfl) (by decide) (fun K hK => ?_)
 refine goes_ Try.func68 (by kernel_rfl) rfl #[.pointer (some ⟨g542, 0, none⟩), .int .i64 0, .int .i64 5] (by rfl) rfl rfl (by (try simp only [List.map_toArray, List.map_cons, List.map_nil]); first | done | rfl | (simp only [List.length_drop, List.length_take]; rfl)) ?_
 with_reducible refine (spec_l1Rd_off.calls k g542 t540 t550 0 5 t552 t553 w _ ?side1 ?side2 A4.out).mono ?_
 (case side1 => repeat (first | (with_reducible first | exact HI542.out | apply IsS100.alloc | apply IsS100.drewN | apply IsS100.drew | apply IsS100.set_1 | refine IsS100.far ?_ NB542_539.out _ | refine IsS100.far ?_ NB542_551.out _) | exact HI542.out))
 (case side2 => repeat (first | (with_reducible first | exact HB.out | apply below_alloc | apply pw_below_drewN | apply below_drew1 | refine below_set ?_ (IsS100.ge HI542.out) | refine below_set ?_ GE539.out | refine below_set ?_ GE551.out) | exact HB.out))
 rintro e w16 ⟨rfl, hi, hb, hk⟩
 refine ⟨_, rfl, ?_⟩
 have n0_ := Aside0.mk (KeepBut.blk hk (g' := gb539) (o := .cells #[.slice none 0 0, .int .i64 0, .slice none 0 0] 41 (0, 0)) bK539_ NB539_542.out (by simp))
 have n1_ := Aside0.mk (Kd.R_mono (Kd.R_keep (IsS100.apart (show IsS100 w _ g542 t540 t550 from by repeat (first | (with_reducible first | exact HI542.out | apply IsS100.alloc | apply IsS100.drewN | apply IsS100.drew | apply IsS100.set_1 | refine IsS100.far ?_ NB542_539.out _ | refine IsS100.far ?_ NB542_551.out _) | exact HI542.out)) rHO545_ (by decide)) hk (fun _ h => h.2)) (fun _ h => h.1))
 have n2_ := Aside0.mk (Kd.R_mono (Kd.R_keep (IsS100.apart (show IsS100 w _ g542 t540 t550 from by repeat (first | (with_reducible first | exact HI542.out | apply IsS100.alloc | apply IsS100.drewN | apply IsS100.drew | apply IsS100.set_1 | refine IsS100.far ?_ NB542_539.out _ | refine IsS100.far ?_ NB542_551.out _) | exact HI542.out)) rHO549_ (by decide)) hk (fun _ h => h.2)) (fun _ h => h.1))
 have n3_ := Aside0.mk (KeepBut.blk hk (g' := gb551) (o := .cells #[.slice Ao9 t543.length co9, .int .i64 t546, .slice Ao13 t547.length co13] 41 (0, 0)) bK551_ NB551_542.out (by simp))
 have n4_ := Aside0.mk (hb)
 have n5_ := Aside0.mk (hi)
 clear BK539
 clear HO545
 clear HO549
 clear BK551
 clear HB
 clear HI542
 have BK539 := n0_
 have HO545 := n1_
 have HO549 := n2_
 have BK551 := n3_
 have HB := n4_
 have HI542 := n5_
 clear n0_ n1_ n2_ n3_ n4_ n5_
 (try clear hb)
 (try clear hb2)
 (try clear hk)
 (try clear hi)
 refine hK.out _ _ ⟨(blk_cell BK551.out 0).trans rfl, (blk_cell BK551.out 1).trans rfl, (blk_cell BK551.out 2).trans rfl⟩ (fun hHeld => ?_)
 clear hK K
 refine norm_ (a' := ?_) ?_ ?_
 rotate_left
 ·show Act.put _ (some 12) _ = _
  simp only [Act.put, List.setIfInBounds_toArray, List.set_cons_zero, List.set_cons_succ, i64_w, i32_w]
  rfl
 refine one_ (i := 3) (N := none) #[true, true, true, true, false] rfl rfl (by kernel_rfl) (by decide) (fun K hK => ?_)
 have hs17 : w16.cell? ⟨gb539, 0, none⟩ = some (.slice none 0 0) := (blk_cell BK539.out 0).trans rfl
 have hfs17 := blk_frozen BK539.out 0
 have hns17_1 := NB551_539.out
 have hms17_1 := NB539_551.out
 have hs18 : w16.cell? ⟨gb539, 1, none⟩ = some (.int .i64 0) := (blk_cell BK539.out 1).trans rfl
 have hfs18 := blk_frozen BK539.out 1
 have hns18_1 := NB551_539.out
 have hms18_1 := NB539_551.out
 have hs19 : w16.cell? ⟨gb539, 2, none⟩ = some (.slice none 0 0) := (blk_cell BK539.out 2).trans rfl
 have hfs19 := blk_frozen BK539.out 2
 have hns19_1 := NB551_539.out
 have hms19_1 := NB539_551.out
 refine skip_ (w1 := ?_) (by rfl) rfl ?_ ?_
 rotate_left
 ·go_simp
  rfl
 refine hK.out _ _ ⟨((cell_far (p := ⟨gb539, _, none⟩) NB551_539.out _).trans (((cell_far (p := ⟨gb539, _, none⟩) NB551_539.out _).trans (((cell_far (p := ⟨gb539, _, none⟩) NB551_539.out _).trans (hHeld.1)))))), ((cell_far (p := ⟨gb539, _, none⟩) NB551_539.out _).trans (((cell_far (p := ⟨gb539, _, none⟩) NB551_539.out _).trans (((cell_far (p := ⟨gb539, _, none⟩) NB551_539.out _).trans (hHeld.2.1)))))), ((cell_far (p := ⟨gb539, _, none⟩) NB551_539.out _).trans (((cell_far (p := ⟨gb539, _, none⟩) NB551_539.out _).trans (((cell_far (p := ⟨gb539, _, none⟩) NB551_539.out _).trans (hHeld.2.2))))))⟩ (fun hHeld => ?_)
 clear hK K
 refine pure_ (i := 4) (N := some 3) (v := ?_) (a' := ?_) #[true, true, true, true, true] rfl rfl (by kernel_rfl) (fun _ _ _ h => h) (Or.inl ⟨by rfl, ?_⟩) ?_ ?_
 rotate_left
 ·intro w'
  go_simp
  with_reducible rfl
 rotate_left
 ·simp only [Act.put, List.setIfInBounds_toArray, List.set_cons_zero, List.set_cons_succ, i64_w, i32_w]
  rfl
 refine done_ (by kernel_rfl) ?_
 try go_wp2
 refine bodyPost_ret (results_ct rfl _ _ gb539 41 #[.slice Ao9 t543.length co9, .int .i64 t546, .slice Ao13 t547.length co13] (0, 0) _ rfl (by (with_reducible repeat (first | refine blk_drewN ?_ _ | refine blk_drew ?_ | refine blk_alloc ?_ _)); refine blk_put (cs := #[.slice Ao9 t543.length co9, .int .i64 t546, .slice none 0 0]) ?_ 2 _ rfl; (with_reducible repeat (first | refine blk_drewN ?_ _ | refine blk_drew ?_ | refine blk_alloc ?_ _)); refine blk_put (cs := #[.slice Ao9 t543.length co9, .int .i64 0, .slice none 0 0]) ?_ 1 _ rfl; (with_reducible repeat (first | refine blk_drewN ?_ _ | refine blk_drew ?_ | refine blk_alloc ?_ _)); refine blk_put (cs := #[.slice none 0 0, .int .i64 0, .slice none 0 0]) ?_ 0 _ rfl; (with_reducible repeat (first | refine blk_drewN ?_ _ | refine blk_drew ?_ | refine blk_alloc ?_ _)); exact BK539.out) Try.underlying41 rfl (by kernel_rfl)) rfl ?_
 exact ⟨_, _, rG_, by (with_reducible repeat (first | apply Kd.R_alloc | apply Kd.R_drewN | apply Kd.R_drew)); exact Kd.R_mono (Kd.R_far (p := ⟨gb539, 2, none⟩) (Kd.R_far (p := ⟨gb539, 1, none⟩) (Kd.R_far (p := ⟨gb539, 0, none⟩) (Kd.R_types HO545.out BK539.out (by decide)) (fun _ hk => hk.2) (.slice Ao9 t543.length co9)) (fun _ hk => hk.2) (.int .i64 t546)) (fun _ hk => hk.2) (.slice Ao13 t547.length co13)) (fun _ hk => trivial), by (with_reducible repeat (first | apply Kd.R_alloc | apply Kd.R_drewN | apply Kd.R_drew)); exact Kd.R_mono (Kd.R_far (p := ⟨gb539, 2, none⟩) (Kd.R_far (p := ⟨gb539, 1, none⟩) (Kd.R_far (p := ⟨gb539, 0, none⟩) (Kd.R_types HO549.out BK539.out (by decide)) (fun _ hk => hk.2) (.slice Ao9 t543.length co9)) (fun _ hk => hk.2) (.int .i64 t546)) (fun _ hk => hk.2) (.slice Ao13 t547.length co13)) (fun _ hk => hk.1), by repeat (first | (with_reducible first | exact HB.out | apply below_alloc | apply pw_below_drewN | apply below_drew1 | refine below_set ?_ (IsS100.ge HI542.out) | refine below_set ?_ GE539.out | refine below_set ?_ GE551.out) | exact HB.out)⟩
/-! ### impl_IdomOf: function 31 -/
def impl_IdomOf.l0 : Nat → Int → Int → Int → Int → List Int → Int → List (S88) → Option (Int)
 | 0, _, _, _, _, _, _, _ => none
 | k + 1, x1, x5, x13, x14, x555000, x555001, x555002 => if x14 < x13 then (if x14 = x1 then (impl_IdomOf.l0 k x1 x5 x13 (wrap64 (x14 + 1)) x555000 x555001 x555002) else ((impl_dominates.f k x555000 x555001 x555002 x14 x1).bind fun t556 => (if t556 = true then (if x5 < 0 then (impl_IdomOf.l0 k x1 x14 x13 (wrap64 (x14 + 1)) x555000 x555001 x555002) else ((impl_dominates.f k x555000 x555001 x555002 x5 x14).bind fun t557 => (if t557 = true then (impl_IdomOf.l0 k x1 x14 x13 (wrap64 (x14 + 1)) x555000 x555001 x555002) else (impl_IdomOf.l0 k x1 x5 x13 (wrap64 (x14 + 1)) x555000 x555001 x555002)))) else (impl_IdomOf.l0 k x1 x5 x13 (wrap64 (x14 + 1)) x555000 x555001 x555002)))) else (some x5)
def impl_IdomOf.f (k : Nat) (l0_0 : List Int) (a0_1 : Int) (l0_2 : List (S88)) (a1 : Int) : Option (Int) := (impl_isBlockOf.f l0_0 a0_1 l0_2 a1).bind fun t555 => (if t555 = true then (impl_IdomOf.l0 k a1 (-1) (l0_2.length : Int) 0 l0_0 a0_1 l0_2) else (some (-1)))
theorem impl_IdomOf.mono_l : ∀ k, (∀ y0 y1 y2 y3 y4 y5 y6, LeO (impl_IdomOf.l0 k y0 y1 y2 y3 y4 y5 y6) (impl_IdomOf.l0 (k + 1) y0 y1 y2 y3 y4 y5 y6))
 | 0 => fun _ _ _ _ _ _ _ r h => by simp [impl_IdomOf.l0] at h
 | k + 1 => by
  have ih0 := impl_IdomOf.mono_l k
  ·intro y0 y1 y2 y3 y4 y5 y6
   unfold impl_IdomOf.l0
   repeat' first
   | (with_reducible exact ih0 _ _ _ _ _ _ _)
   | (with_reducible exact impl_dominates.mono _ _ _ _ _ _)
   | (with_reducible exact LeO.refl _)
   | (with_reducible exact LeO.none _)
   | (with_reducible refine LeO.ite ?_ ?_)
   | (with_reducible refine LeO.bind ?_ (fun _ => ?_))
   | exact ih0 _ _ _ _ _ _ _
   | exact impl_dominates.mono _ _ _ _ _ _
   | exact LeO.none _
   | refine LeO.ite ?_ ?_
   | refine LeO.bind ?_ (fun _ => ?_)
theorem impl_IdomOf.mono : ∀ a0 a1 a2 a3 k, LeO (impl_IdomOf.f k a0 a1 a2 a3) (impl_IdomOf.f (k + 1) a0 a1 a2 a3) := by
 intro a0 a1 a2 a3 k
 have ih0 := impl_IdomOf.mono_l k
 unfold impl_IdomOf.f
 repeat' first
   | (with_reducible exact ih0 _ _ _ _ _ _ _)
   | (with_reducible exact impl_dominates.mono _ _ _ _ _ _)
   | (with_reducible exact LeO.refl _)
   | (with_reducible exact LeO.none _)
   | (with_reducible refine LeO.ite ?_ ?_)
   | (with_reducible refine LeO.bind ?_ (fun _ => ?_))
   | exact ih0 _ _ _ _ _ _ _
   | exact impl_dominates.mono _ _ _ _ _ _
   | exact LeO.none _
   | refine LeO.ite ?_ ?_
   | refine LeO.bind ?_ (fun _ => ?_)
set_option maxHeartbeats 8000000 in
set_option maxRecDepth 100000 in
theorem impl_IdomOf.calls (k : Nat) (A0_0 : Option Addr) (c0_0 : Nat) (l0_0 : List Int) (a0_1 : Int) (A0_2 : Option Addr) (c0_2 : Nat) (l0_2 : List (S88)) (a1 : Int) (r : Int) (w : World) (hr0_0 : Kd.C (Kd.int .i64) w A0_0 l0_0.length l0_0) (hc0_0 : l0_0.length ≤ c0_0) (hr0_2 : Kd.C k88 w A0_2 l0_2.length l0_2) (hc0_2 : l0_2.length ≤ c0_2) (h : impl_IdomOf.f k l0_0 a0_1 l0_2 a1 = some r) :
  Calls Try.prog 31 #[.agg #[.slice A0_0 l0_0.length c0_0, .int .i64 a0_1, .slice A0_2 l0_2.length c0_2], .int .i64 a1] w fun e w' => e = .returned (.int .i64 r) ∧ Below w.heap.size w w' := by
 have hu41 := Try.underlying41
 have HR0_0 := Aside0.mk hr0_0
 have HC0_0 := Aside0.mk hc0_0
 clear hr0_0 hc0_0
 have HR0_2 := Aside0.mk hr0_2
 have HC0_2 := Aside0.mk hc0_2
 clear hr0_2 hc0_2
 have HB := Aside0.mk (Below.refl w.heap.size w)
 have H : ((impl_isBlockOf.f l0_0 a0_1 l0_2 a1).bind fun t555 => (if t555 = true then (impl_IdomOf.l0 k a1 (-1) (l0_2.length : Int) 0 l0_0 a0_1 l0_2) else (some (-1)))) = some r := h
 clear h
 replace H := Option.bind_eq_some_iff.mp H
 obtain ⟨t555, A30, H⟩ := H
 replace H : (if t555 = true then (impl_IdomOf.l0 k a1 (-1) (l0_2.length : Int) 0 l0_0 a0_1 l0_2) else (some (-1))) = some r := H
 have A3 := Aside0.mk A30
 clear A30
 by_cases c4 : t555 = true
 ·subst c4
  have H1 := (if_pos rfl).symm.trans H
  clear H
  have H := H1
  clear H1
  have H' := Aside0.mk H
  clear H
  go_enter Try.func31, Try.ntmps31
  go_wp2_with (first | ((with_reducible refine gate_dst (N := 2) rfl ?_); refine box_event ?hg (N := 2) ?hd (cs := #[.slice A0_0 l0_0.length c0_0, .int .i64 a0_1, .slice A0_2 l0_2.length c0_2]) (t := 41) ?hr ?_; (case hd => rfl); (case hg => rfl); (case hr => first | (go_simp; done) | (go_simp; rfl)); intro gb554 hg w5 hbox hb; have n0_ := Aside0.mk (below_step hB_ hb); have n1_ := Aside0.mk (hbox); have n2_ := Aside0.mk ((sz_ hg (below_size hB_) : w.heap.size ≤ gb554)); have n3_ := Aside0.mk ((sz_ hg (below_size hB_) : w.heap.size ≤ gb554)); clear HB; have HB := n0_; have BK554 := n1_; have GW554 := n2_; have GE554 := n3_; clear n0_ n1_ n2_ n3_; clear hb hbox hg; obtain ⟨hcz6_0, hcz6_1, hcz6_2, hfz6_0, hfz6_1, hfz6_2⟩ := blkc3_ BK554.out) | ((with_reducible refine gate_callee (f := 69) rfl ?_); refine gL_ (some 9) Try.func69 #[.agg #[.slice A0_0 l0_0.length c0_0, .int .i64 a0_1, .slice A0_2 l0_2.length c0_2], .int .i64 a1] ?_; (with_reducible refine (impl_isBlockOf.calls _ _ l0_0 a0_1 _ _ l0_2 a1 true _ ?side1 ?side2 ?side3 ?side4 A3.out).mono ?_); (case side1 => exact cHR0_0_); (case side2 => exact HC0_0.out); (case side3 => exact cHR0_2_); (case side4 => exact HC0_2.out); rintro e w7 ⟨rfl, hb⟩; refine ⟨_, rfl, ?_⟩; have n0_ := Aside0.mk (blk_below (g := gb554) (o := .cells #[.slice A0_0 l0_0.length c0_0, .int .i64 a0_1, .slice A0_2 l0_2.length c0_2] 41 (0, 0)) bK554_ hb); have n1_ := Aside0.mk (below_step hS_ hb); clear BK554; clear HB; have BK554 := n0_; have HB := n1_; clear n0_ n1_; (try clear hb); (try clear hb2); (try clear hk); (try clear hi); obtain ⟨hcz8_0, hcz8_1, hcz8_2, hfz8_0, hfz8_1, hfz8_2⟩ := blkc3_ BK554.out))
  go_loopg [5, 14] k (fun kq v5 v14 w' => ∃ (x5_1 : Int) (x14_1 : Int), v5 = .int .i64 x5_1 ∧ v14 = .int .i64 x14_1 ∧ Aside0 (impl_IdomOf.l0 kq a1 x5_1 (l0_2.length : Int) x14_1 l0_0 a0_1 l0_2 = some r) ∧ Aside0 (kq ≤ k) ∧ Aside0 (w'.heap[gb554]? = some (.cells #[(.slice A0_0 l0_0.length c0_0), .int .i64 a0_1, (.slice A0_2 l0_2.length c0_2)] 41 (0, 0))) ∧ Aside0 (Below w.heap.size w w'))
  case atStart => exact ⟨((-1)), (0), rF_, rF_, H', ⟨Nat.le_refl _⟩, ⟨bK554_⟩, ⟨hS_⟩⟩
  case round =>
   clear H'
   try clear p2
   try clear c3
   try clear c4
   try clear c6
   try clear hcz6_0 hcz6_1 hcz6_2 hfz6_0 hfz6_1 hfz6_2
   try clear hcz8_0 hcz8_1 hcz8_2 hfz8_0 hfz8_1 hfz8_2
   obtain ⟨x5_1, x14_1, rfl, rfl, HA, HK1, BK554, HB⟩ := hrel
   cases gk with
   | zero => exact absurd HA.out (by simp [impl_IdomOf.l0])
   | succ k1 =>
    have H := HA.out
    clear HA
    simp only [impl_IdomOf.l0] at H
    by_cases c9 : x14_1 < (l0_2.length : Int)
    ·rw [if_pos c9] at H
     have c9b0 : decide (x14_1 < (l0_2.length : Int)) = true := decide_eq_true c9
     clear c9
     by_cases c10 : x14_1 = a1
     ·rw [if_pos c10] at H
      have c10b0 : (x14_1 == a1) = true := beq_iff_eq.mpr c10
      have c10b1 : (x14_1 != a1) = false := bne_eq_false_iff_eq.mpr c10
      clear c10
      have H' := Aside0.mk H
      clear H
      go_wp2
      go_roundg k1
      case measure => have := HK1.out; omega
      case rel => exact ⟨(x5_1), (wrap64 (x14_1 + 1)), rF_, rF_, H', ⟨by have := HK1.out; omega⟩, ⟨bK554_⟩, ⟨hS_⟩⟩
     ·rw [if_neg c10] at H
      have c10b0 : (x14_1 == a1) = false := beq_eq_false_iff_ne.mpr c10
      have c10b1 : (x14_1 != a1) = true := bne_iff_ne.mpr c10
      replace H := Option.bind_eq_some_iff.mp H
      obtain ⟨t556, A110, H⟩ := H
      replace H : (if t556 = true then (if x5_1 < 0 then (impl_IdomOf.l0 k1 a1 x14_1 (l0_2.length : Int) (wrap64 (x14_1 + 1)) l0_0 a0_1 l0_2) else ((impl_dominates.f k1 l0_0 a0_1 l0_2 x5_1 x14_1).bind fun t557 => (if t557 = true then (impl_IdomOf.l0 k1 a1 x14_1 (l0_2.length : Int) (wrap64 (x14_1 + 1)) l0_0 a0_1 l0_2) else (impl_IdomOf.l0 k1 a1 x5_1 (l0_2.length : Int) (wrap64 (x14_1 + 1)) l0_0 a0_1 l0_2)))) else (impl_IdomOf.l0 k1 a1 x5_1 (l0_2.length : Int) (wrap64 (x14_1 + 1)) l0_0 a0_1 l0_2)) = some r := H
      have A11 := Aside0.mk A110
      clear A110
      by_cases c12 : t556 = true
      ·subst c12
       have H1 := (if_pos rfl).symm.trans H
       clear H
       have H := H1
       clear H1
       by_cases c13 : x5_1 < 0
       ·rw [if_pos c13] at H
        have c13b0 : decide (x5_1 < 0) = true := decide_eq_true c13
        clear c13
        have H' := Aside0.mk H
        clear H
        obtain ⟨hcz14_0, hcz14_1, hcz14_2, hfz14_0, hfz14_1, hfz14_2⟩ := blkc3_ BK554.out
        go_wp2_with (first | (go_at_call 70; (with_reducible refine (impl_dominates.calls k1 _ _ l0_0 a0_1 _ _ l0_2 x14_1 a1 true _ ?side1 ?side2 ?side3 ?side4 A11.out).mono ?_); (case side1 => exact cHR0_0_); (case side2 => exact HC0_0.out); (case side3 => exact cHR0_2_); (case side4 => exact HC0_2.out); rintro e w15 ⟨rfl, hb⟩; have n0_ := Aside0.mk (blk_below (g := gb554) (o := .cells #[.slice A0_0 l0_0.length c0_0, .int .i64 a0_1, .slice A0_2 l0_2.length c0_2] 41 (0, 0)) bK554_ hb); have n1_ := Aside0.mk (below_step hS_ hb); clear BK554; clear HB; have BK554 := n0_; have HB := n1_; clear n0_ n1_; (try clear hb); (try clear hb2); (try clear hk); (try clear hi)))
        go_roundg k1
        case measure => have := HK1.out; omega
        case rel => exact ⟨(x14_1), (wrap64 (x14_1 + 1)), rF_, rF_, H', ⟨by have := HK1.out; omega⟩, ⟨bK554_⟩, ⟨hS_⟩⟩
       ·rw [if_neg c13] at H
        have c13b0 : decide (x5_1 < 0) = false := decide_eq_false c13
        clear c13
        replace H := Option.bind_eq_some_iff.mp H
        obtain ⟨t557, A160, H⟩ := H
        replace H : (if t557 = true then (impl_IdomOf.l0 k1 a1 x14_1 (l0_2.length : Int) (wrap64 (x14_1 + 1)) l0_0 a0_1 l0_2) else (impl_IdomOf.l0 k1 a1 x5_1 (l0_2.length : Int) (wrap64 (x14_1 + 1)) l0_0 a0_1 l0_2)) = some r := H
        have A16 := Aside0.mk A160
        clear A160
        by_cases c17 : t557 = true
        ·subst c17
         have H1 := (if_pos rfl).symm.trans H
         clear H
         have H := H1
         clear H1
         have H' := Aside0.mk H
         clear H
         obtain ⟨hcz18_0, hcz18_1, hcz18_2, hfz18_0, hfz18_1, hfz18_2⟩ := blkc3_ BK554.out
         go_wp2_with (first | (go_at_call 70; (with_reducible refine (impl_dominates.calls k1 _ _ l0_0 a0_1 _ _ l0_2 x14_1 a1 true _ ?side1 ?side2 ?side3 ?side4 A11.out).mono ?_); (case side1 => exact cHR0_0_); (case side2 => exact HC0_0.out); (case side3 => exact cHR0_2_); (case side4 => exact HC0_2.out); rintro e w19 ⟨rfl, hb⟩; have n0_ := Aside0.mk (blk_below (g := gb554) (o := .cells #[.slice A0_0 l0_0.length c0_0, .int .i64 a0_1, .slice A0_2 l0_2.length c0_2] 41 (0, 0)) bK554_ hb); have n1_ := Aside0.mk (below_step hS_ hb); clear BK554; clear HB; have BK554 := n0_; have HB := n1_; clear n0_ n1_; (try clear hb); (try clear hb2); (try clear hk); (try clear hi); obtain ⟨hcz20_0, hcz20_1, hcz20_2, hfz20_0, hfz20_1, hfz20_2⟩ := blkc3_ BK554.out) | (go_at_call 70; (with_reducible refine (impl_dominates.calls k1 _ _ l0_0 a0_1 _ _ l0_2 x5_1 x14_1 true _ ?side1 ?side2 ?side3 ?side4 A16.out).mono ?_); (case side1 => exact cHR0_0_); (case side2 => exact HC0_0.out); (case side3 => exact cHR0_2_); (case side4 => exact HC0_2.out); rintro e w21 ⟨rfl, hb⟩; have n0_ := Aside0.mk (blk_below (g := gb554) (o := .cells #[.slice A0_0 l0_0.length c0_0, .int .i64 a0_1, .slice A0_2 l0_2.length c0_2] 41 (0, 0)) bK554_ hb); have n1_ := Aside0.mk (below_step hS_ hb); clear BK554; clear HB; have BK554 := n0_; have HB := n1_; clear n0_ n1_; (try clear hb); (try clear hb2); (try clear hk); (try clear hi)))
         go_roundg k1
         case measure => have := HK1.out; omega
         case rel => exact ⟨(x14_1), (wrap64 (x14_1 + 1)), rF_, rF_, H', ⟨by have := HK1.out; omega⟩, ⟨bK554_⟩, ⟨hS_⟩⟩
        ·replace c17 := Bool.eq_false_iff.mpr c17
         subst c17
         have H1 := (if_neg (show ¬ (false = true) by decide)).symm.trans H
         clear H
         have H := H1
         clear H1
         have H' := Aside0.mk H
         clear H
         obtain ⟨hcz22_0, hcz22_1, hcz22_2, hfz22_0, hfz22_1, hfz22_2⟩ := blkc3_ BK554.out
         go_wp2_with (first | (go_at_call 70; (with_reducible refine (impl_dominates.calls k1 _ _ l0_0 a0_1 _ _ l0_2 x14_1 a1 true _ ?side1 ?side2 ?side3 ?side4 A11.out).mono ?_); (case side1 => exact cHR0_0_); (case side2 => exact HC0_0.out); (case side3 => exact cHR0_2_); (case side4 => exact HC0_2.out); rintro e w23 ⟨rfl, hb⟩; have n0_ := Aside0.mk (blk_below (g := gb554) (o := .cells #[.slice A0_0 l0_0.length c0_0, .int .i64 a0_1, .slice A0_2 l0_2.length c0_2] 41 (0, 0)) bK554_ hb); have n1_ := Aside0.mk (below_step hS_ hb); clear BK554; clear HB; have BK554 := n0_; have HB := n1_; clear n0_ n1_; (try clear hb); (try clear hb2); (try clear hk); (try clear hi); obtain ⟨hcz24_0, hcz24_1, hcz24_2, hfz24_0, hfz24_1, hfz24_2⟩ := blkc3_ BK554.out) | (go_at_call 70; (with_reducible refine (impl_dominates.calls k1 _ _ l0_0 a0_1 _ _ l0_2 x5_1 x14_1 false _ ?side1 ?side2 ?side3 ?side4 A16.out).mono ?_); (case side1 => exact cHR0_0_); (case side2 => exact HC0_0.out); (case side3 => exact cHR0_2_); (case side4 => exact HC0_2.out); rintro e w25 ⟨rfl, hb⟩; have n0_ := Aside0.mk (blk_below (g := gb554) (o := .cells #[.slice A0_0 l0_0.length c0_0, .int .i64 a0_1, .slice A0_2 l0_2.length c0_2] 41 (0, 0)) bK554_ hb); have n1_ := Aside0.mk (below_step hS_ hb); clear BK554; clear HB; have BK554 := n0_; have HB := n1_; clear n0_ n1_; (try clear hb); (try clear hb2); (try clear hk); (try clear hi)))
         go_roundg k1
         case measure => have := HK1.out; omega
         case rel => exact ⟨(x5_1), (wrap64 (x14_1 + 1)), rF_, rF_, H', ⟨by have := HK1.out; omega⟩, ⟨bK554_⟩, ⟨hS_⟩⟩
      ·replace c12 := Bool.eq_false_iff.mpr c12
       subst c12
       have H1 := (if_neg (show ¬ (false = true) by decide)).symm.trans H
       clear H
       have H := H1
       clear H1
       have H' := Aside0.mk H
       clear H
       obtain ⟨hcz26_0, hcz26_1, hcz26_2, hfz26_0, hfz26_1, hfz26_2⟩ := blkc3_ BK554.out
       go_wp2_with (first | (go_at_call 70; (with_reducible refine (impl_dominates.calls k1 _ _ l0_0 a0_1 _ _ l0_2 x14_1 a1 false _ ?side1 ?side2 ?side3 ?side4 A11.out).mono ?_); (case side1 => exact cHR0_0_); (case side2 => exact HC0_0.out); (case side3 => exact cHR0_2_); (case side4 => exact HC0_2.out); rintro e w27 ⟨rfl, hb⟩; have n0_ := Aside0.mk (blk_below (g := gb554) (o := .cells #[.slice A0_0 l0_0.length c0_0, .int .i64 a0_1, .slice A0_2 l0_2.length c0_2] 41 (0, 0)) bK554_ hb); have n1_ := Aside0.mk (below_step hS_ hb); clear BK554; clear HB; have BK554 := n0_; have HB := n1_; clear n0_ n1_; (try clear hb); (try clear hb2); (try clear hk); (try clear hi)))
       go_roundg k1
       case measure => have := HK1.out; omega
       case rel => exact ⟨(x5_1), (wrap64 (x14_1 + 1)), rF_, rF_, H', ⟨by have := HK1.out; omega⟩, ⟨bK554_⟩, ⟨hS_⟩⟩
    ·rw [if_neg c9] at H
     have c9b0 : decide (x14_1 < (l0_2.length : Int)) = false := decide_eq_false c9
     clear c9
     obtain rfl := Option.some.inj H
     go_wp2
     go_ret
     exact ⟨rG_, hS_⟩
 ·replace c4 := Bool.eq_false_iff.mpr c4
  subst c4
  have H1 := (if_neg (show ¬ (false = true) by decide)).symm.trans H
  clear H
  have H := H1
  clear H1
  obtain rfl := Option.some.inj H
  go_enter Try.func31, Try.ntmps31
  go_wp2_with (first | ((with_reducible refine gate_dst (N := 2) rfl ?_); refine box_event ?hg (N := 2) ?hd (cs := #[.slice A0_0 l0_0.length c0_0, .int .i64 a0_1, .slice A0_2 l0_2.length c0_2]) (t := 41) ?hr ?_; (case hd => rfl); (case hg => rfl); (case hr => first | (go_simp; done) | (go_simp; rfl)); intro gb554 hg w28 hbox hb; have n0_ := Aside0.mk (below_step hB_ hb); have n1_ := Aside0.mk (hbox); have n2_ := Aside0.mk ((sz_ hg (below_size hB_) : w.heap.size ≤ gb554)); have n3_ := Aside0.mk ((sz_ hg (below_size hB_) : w.heap.size ≤ gb554)); clear HB; have HB := n0_; have BK554 := n1_; have GW554 := n2_; have GE554 := n3_; clear n0_ n1_ n2_ n3_; clear hb hbox hg; obtain ⟨hcz29_0, hcz29_1, hcz29_2, hfz29_0, hfz29_1, hfz29_2⟩ := blkc3_ BK554.out) | ((with_reducible refine gate_callee (f := 69) rfl ?_); refine gL_ (some 9) Try.func69 #[.agg #[.slice A0_0 l0_0.length c0_0, .int .i64 a0_1, .slice A0_2 l0_2.length c0_2], .int .i64 a1] ?_; (with_reducible refine (impl_isBlockOf.calls _ _ l0_0 a0_1 _ _ l0_2 a1 false _ ?side1 ?side2 ?side3 ?side4 A3.out).mono ?_); (case side1 => exact cHR0_0_); (case side2 => exact HC0_0.out); (case side3 => exact cHR0_2_); (case side4 => exact HC0_2.out); rintro e w30 ⟨rfl, hb⟩; refine ⟨_, rfl, ?_⟩; have n0_ := Aside0.mk (blk_below (g := gb554) (o := .cells #[.slice A0_0 l0_0.length c0_0, .int .i64 a0_1, .slice A0_2 l0_2.length c0_2] 41 (0, 0)) bK554_ hb); have n1_ := Aside0.mk (below_step hS_ hb); clear BK554; clear HB; have BK554 := n0_; have HB := n1_; clear n0_ n1_; (try clear hb); (try clear hb2); (try clear hk); (try clear hi)))
  go_ret
  exact ⟨rG_, hS_⟩
/-! ### spec_l1In: function 57 -/
def spec_l1In.f (a0 : Int) (a1 : Int) (a2 : Int) : Option (Bool) := if a0 ≥ a1 then (some (decide (a0 ≤ a2))) else (some false)
set_option maxHeartbeats 8000000 in
set_option maxRecDepth 100000 in
theorem spec_l1In.calls (a0 : Int) (a1 : Int) (a2 : Int) (r : Bool) (w : World) (h : spec_l1In.f a0 a1 a2 = some r) :
  Calls Try.prog 57 #[.int .i64 a0, .int .i64 a1, .int .i64 a2] w fun e w' => e = .returned (.bool r) ∧ Drawn0 w w' := by
 have H : (if a0 ≥ a1 then (some (decide (a0 ≤ a2))) else (some false)) = some r := h
 clear h
 by_cases c4 : a0 ≥ a1
 ·rw [if_pos c4] at H
  have c4b0 : decide (a1 ≤ a0) = true := decide_eq_true c4
  clear c4
  obtain rfl := Option.some.inj H
  go_enter Try.func57, Try.ntmps57
  go_wp2
  go_ret
  exact ⟨rF_, by repeat (first | exact Drawn0.refl _ | apply Drawn0.step)⟩
 ·rw [if_neg c4] at H
  have c4b0 : decide (a1 ≤ a0) = false := decide_eq_false c4
  clear c4
  obtain rfl := Option.some.inj H
  go_enter Try.func57, Try.ntmps57
  go_wp2
  go_ret
  exact ⟨rF_, by repeat (first | exact Drawn0.refl _ | apply Drawn0.step)⟩
/-! ### spec_l3Succs: function 104 -/
def spec_l3Succs.f (l0_0 : List Int) (a0_1 : Int) (l0_2 : List (S88)) (a1 : Int) : Option (List Int) := if 0 ≤ a1 then (if a1 < (l0_2.length : Int) then (if ((rd_T88 l0_2 a1).f2.f0) = 2 then (some (([(rd_T88 l0_2 a1).f2.f2] : List Int))) else (if ((rd_T88 l0_2 a1).f2.f0) = 3 then (some (([(rd_T88 l0_2 a1).f2.f2, (rd_T88 l0_2 a1).f2.f3] : List Int))) else (some (([] : List Int))))) else (none)) else (none)
set_option maxHeartbeats 8000000 in
set_option maxRecDepth 100000 in
theorem spec_l3Succs.calls (A0_0 : Option Addr) (c0_0 : Nat) (l0_0 : List Int) (a0_1 : Int) (A0_2 : Option Addr) (c0_2 : Nat) (l0_2 : List (S88)) (a1 : Int) (r : List Int) (w : World) (hr0_0 : Kd.C (Kd.int .i64) w A0_0 l0_0.length l0_0) (hc0_0 : l0_0.length ≤ c0_0) (hr0_2 : Kd.C k88 w A0_2 l0_2.length l0_2) (hc0_2 : l0_2.length ≤ c0_2) (h : spec_l3Succs.f l0_0 a0_1 l0_2 a1 = some r) :
  Calls Try.prog 104 #[.agg #[.slice A0_0 l0_0.length c0_0, .int .i64 a0_1, .slice A0_2 l0_2.length c0_2], .int .i64 a1] w fun e w' => ∃ v0_ : Value, e = .returned (v0_) ∧ Kd.R (Kd.int .i64) 2 w' w.heap.size (fun _ => True) v0_ r ∧ Below w.heap.size w w' := by
 have hu41 := Try.underlying41
 have hu86 := Try.underlying86
 have HR0_0 := Aside0.mk hr0_0
 have HC0_0 := Aside0.mk hc0_0
 clear hr0_0 hc0_0
 have HR0_2 := Aside0.mk hr0_2
 have HC0_2 := Aside0.mk hc0_2
 clear hr0_2 hc0_2
 have HB := Aside0.mk (Below.refl w.heap.size w)
 have H : (if 0 ≤ a1 then (if a1 < (l0_2.length : Int) then (if ((rd_T88 l0_2 a1).f2.f0) = 2 then (some (([(rd_T88 l0_2 a1).f2.f2] : List Int))) else (if ((rd_T88 l0_2 a1).f2.f0) = 3 then (some (([(rd_T88 l0_2 a1).f2.f2, (rd_T88 l0_2 a1).f2.f3] : List Int))) else (some (([] : List Int))))) else (none)) else (none)) = some r := h
 clear h
 by_cases c3 : 0 ≤ a1
 ·rw [if_pos c3] at H
  have c3b0 : decide (0 ≤ a1) = true := decide_eq_true c3
  clear c3
  by_cases c4 : a1 < (l0_2.length : Int)
  ·rw [if_pos c4] at H
   have c4b0 : decide (a1 < (l0_2.length : Int)) = true := decide_eq_true c4
   clear c4
   by_cases c5 : ((rd_T88 l0_2 a1).f2.f0) = 2
   ·rw [if_pos c5] at H
    have c5b0 : (((rd_T88 l0_2 a1).f2.f0) == 2) = true := beq_iff_eq.mpr c5
    have c5b1 : (((rd_T88 l0_2 a1).f2.f0) != 2) = false := bne_eq_false_iff_eq.mpr c5
    clear c5
    obtain ⟨y397, hy397⟩ : ∃ y_ : List Int, y_ = (([(rd_T88 l0_2 a1).f2.f2] : List Int)) := ⟨_, rfl⟩
    replace H : (some y397) = some r := by first | (rw [hy397]; with_reducible exact H) | (have H2_ := (Option.bind_some _ _).symm.trans H; rw [hy397]; with_reducible exact H2_) | (have H2_ := (Option.bind_some _ _).symm.trans H; with_reducible exact H2_) | with_reducible exact H | (rw [hy397]; exact H) | exact H
    have Ny397 := Aside0.mk hy397
    clear hy397
    obtain rfl := Option.some.inj H
    go_enter Try.func104, Try.ntmps104
    go_wp2_with (first | ((with_reducible refine gate_dst (N := 2) rfl ?_); refine box_event ?hg (N := 2) ?hd (cs := #[.slice A0_0 l0_0.length c0_0, .int .i64 a0_1, .slice A0_2 l0_2.length c0_2]) (t := 41) ?hr ?_; (case hd => rfl); (case hg => rfl); (case hr => first | (go_simp; done) | (go_simp; rfl)); intro gb394 hg w6 hbox hb; have n0_ := Aside0.mk (below_step hB_ hb); have n1_ := Aside0.mk (hbox); have n2_ := Aside0.mk ((sz_ hg (below_size hB_) : w.heap.size ≤ gb394)); have n3_ := Aside0.mk ((sz_ hg (below_size hB_) : w.heap.size ≤ gb394)); clear HB; have HB := n0_; have BK394 := n1_; have GW394 := n2_; have GE394 := n3_; clear n0_ n1_ n2_ n3_; clear hb hbox hg; obtain ⟨hcz7_0, hcz7_1, hcz7_2, hfz7_0, hfz7_1, hfz7_2⟩ := blkc3_ BK394.out; have p395 : 0 ≤ (a1 : Int) := oD_; have q395 : a1 < (l0_2.length : Int) := oD_; obtain ⟨ad395, A395_0, c395_0, A395_1, c395_1, e395, hx395_0, hx395_1, hx395_2, hx395_3, hx395_4, hx395_5, hl395_0, hi395_0, hl395_1, hi395_1⟩ := at_T88 HR0_2.out a1 p395 q395; cases e395; replace hx395_0 := hx_ HB.out hx395_0; replace hx395_1 := hx_ HB.out hx395_1; replace hx395_2 := hx_ HB.out hx395_2; replace hx395_3 := hx_ HB.out hx395_3; replace hx395_4 := hx_ HB.out hx395_4; replace hx395_5 := hx_ HB.out hx395_5; have HR395_0 := Aside0.mk hi395_0; have HC395_0 := Aside0.mk hl395_0; clear hi395_0 hl395_0; have HR395_1 := Aside0.mk hi395_1; have HC395_1 := Aside0.mk hl395_1; clear hi395_1 hl395_1; replace p395 := eq_true p395; replace q395 := eq_true q395) | ((with_reducible refine gate_dst (N := 5) rfl ?_); refine box_event ?hg (N := 5) ?hd (cs := #[.int .i64 0, .int .i64 0, .int .i64 0, .int .i64 0]) (t := 86) ?hr ?_; (case hd => rfl); (case hg => rfl); (case hr => first | (go_simp; done) | (go_simp; rfl)); intro gb396 hg w8 hbox hb; have n0_ := Aside0.mk (blk_below (g := gb394) (o := .cells #[.slice A0_0 l0_0.length c0_0, .int .i64 a0_1, .slice (some ad395) l0_2.length c0_2] 41 (0, 0)) bK394_ hb); have n1_ := Aside0.mk (below_step hS_ hb); have n2_ := Aside0.mk (hbox); have n3_ := Aside0.mk ((sz_ hg (below_size hS_) : w.heap.size ≤ gb396)); have n4_ := Aside0.mk ((sz_ hg (below_size hS_) : w.heap.size ≤ gb396)); have n5_ := Aside0.mk ((by rw [hg]; exact Nat.ne_of_lt (blk_lt (g := gb394) (o := .cells #[.slice A0_0 l0_0.length c0_0, .int .i64 a0_1, .slice (some ad395) l0_2.length c0_2] 41 (0, 0)) bK394_) : gb394 ≠ gb396)); have n6_ := Aside0.mk ((by rw [hg]; exact Nat.ne_of_gt (blk_lt (g := gb394) (o := .cells #[.slice A0_0 l0_0.length c0_0, .int .i64 a0_1, .slice (some ad395) l0_2.length c0_2] 41 (0, 0)) bK394_) : gb396 ≠ gb394)); clear BK394; clear HB; have BK394 := n0_; have HB := n1_; have BK396 := n2_; have GW396 := n3_; have GE396 := n4_; have NB394_396 := n5_; have NB396_394 := n6_; clear n0_ n1_ n2_ n3_ n4_ n5_ n6_; clear hb hbox hg; have hnb9 := NB396_394.out; have hnc9 := NB394_396.out; obtain ⟨hcz10_0, hcz10_1, hcz10_2, hcz10_3, hfz10_0, hfz10_1, hfz10_2, hfz10_3⟩ := blkc4_ BK396.out) | ((with_reducible refine gate_dst (N := 18) rfl ?_); refine Kd.R_lit (Kd.int .i64) _ 2 ?hg (N := 18) ?hd (xs := ([(rd_T88 l0_2 a1).f2.f2] : List Int)) (inner := [.int .i64 ((rd_T88 l0_2 a1).f2.f2)]) (ok := fun _ => True) (okp := fun _ => True) ?hr ?hp (fun _ hk => hk) trivial (Below.refl _ _) (Nat.le_refl _) (by simp) ?_; (case hd => rfl); (case hg => rfl); (case hr => first | (go_simp; done) | (go_simp; rfl)); (case hp => exact (Reps.one (show Kd.M (Kd.int .i64) _ _ _ ((rd_T88 l0_2 a1).f2.f2) [.int .i64 ((rd_T88 l0_2 a1).f2.f2)] from rfl) (Reps.none _ _))); intro v398 w11 ho12 hb hg_ hnew_; clear hg_ hnew_; (first | rw [← Ny397.out] at ho12 | (simp only [Int.reduceToNat] at ho12; rw [← Ny397.out] at ho12)); have n0_ := Aside0.mk (Kd.R_lower ho12 (below_size hS_)); have n1_ := Aside0.mk (blk_below (g := gb394) (o := .cells #[.slice A0_0 l0_0.length c0_0, .int .i64 a0_1, .slice (some ad395) l0_2.length c0_2] 41 (0, 0)) fK394_ hb); have n2_ := Aside0.mk (blk_below (g := gb396) (o := .cells #[.int .i64 ((rd_T88 l0_2 a1).f2.f0), .int .i64 ((rd_T88 l0_2 a1).f2.f1), .int .i64 ((rd_T88 l0_2 a1).f2.f2), .int .i64 ((rd_T88 l0_2 a1).f2.f3)] 86 (0, 0)) (by (with_reducible repeat (first | refine blk_drewN ?_ _ | refine blk_drew ?_ | refine blk_alloc ?_ _)); refine blk_put (cs := #[.int .i64 ((rd_T88 l0_2 a1).f2.f0), .int .i64 ((rd_T88 l0_2 a1).f2.f1), .int .i64 ((rd_T88 l0_2 a1).f2.f2), .int .i64 0]) ?_ 3 _ rfl; (with_reducible repeat (first | refine blk_drewN ?_ _ | refine blk_drew ?_ | refine blk_alloc ?_ _)); refine blk_put (cs := #[.int .i64 ((rd_T88 l0_2 a1).f2.f0), .int .i64 ((rd_T88 l0_2 a1).f2.f1), .int .i64 0, .int .i64 0]) ?_ 2 _ rfl; (with_reducible repeat (first | refine blk_drewN ?_ _ | refine blk_drew ?_ | refine blk_alloc ?_ _)); refine blk_put (cs := #[.int .i64 ((rd_T88 l0_2 a1).f2.f0), .int .i64 0, .int .i64 0, .int .i64 0]) ?_ 1 _ rfl; (with_reducible repeat (first | refine blk_drewN ?_ _ | refine blk_drew ?_ | refine blk_alloc ?_ _)); refine blk_put (cs := #[.int .i64 0, .int .i64 0, .int .i64 0, .int .i64 0]) ?_ 0 _ rfl; (with_reducible repeat (first | refine blk_drewN ?_ _ | refine blk_drew ?_ | refine blk_alloc ?_ _)); exact BK396.out) hb); have n3_ := Aside0.mk (below_step hS_ hb); clear BK394; clear BK396; clear HB; have HO399 := n0_; have BK394 := n1_; have BK396 := n2_; have HB := n3_; clear n0_ n1_ n2_ n3_; clear hb ho12))
    go_ret
    exact ⟨_, rG_, rHO399_, hS_⟩
   ·rw [if_neg c5] at H
    have c5b0 : (((rd_T88 l0_2 a1).f2.f0) == 2) = false := beq_eq_false_iff_ne.mpr c5
    have c5b1 : (((rd_T88 l0_2 a1).f2.f0) != 2) = true := bne_iff_ne.mpr c5
    by_cases c13 : ((rd_T88 l0_2 a1).f2.f0) = 3
    ·rw [if_pos c13] at H
     have c13b0 : (((rd_T88 l0_2 a1).f2.f0) == 3) = true := beq_iff_eq.mpr c13
     have c13b1 : (((rd_T88 l0_2 a1).f2.f0) != 3) = false := bne_eq_false_iff_eq.mpr c13
     clear c13
     obtain ⟨y400, hy400⟩ : ∃ y_ : List Int, y_ = (([(rd_T88 l0_2 a1).f2.f2, (rd_T88 l0_2 a1).f2.f3] : List Int)) := ⟨_, rfl⟩
     replace H : (some y400) = some r := by first | (rw [hy400]; with_reducible exact H) | (have H2_ := (Option.bind_some _ _).symm.trans H; rw [hy400]; with_reducible exact H2_) | (have H2_ := (Option.bind_some _ _).symm.trans H; with_reducible exact H2_) | with_reducible exact H | (rw [hy400]; exact H) | exact H
     have Ny400 := Aside0.mk hy400
     clear hy400
     obtain rfl := Option.some.inj H
     go_enter Try.func104, Try.ntmps104
     go_wp2_with (first | ((with_reducible refine gate_dst (N := 2) rfl ?_); refine box_event ?hg (N := 2) ?hd (cs := #[.slice A0_0 l0_0.length c0_0, .int .i64 a0_1, .slice A0_2 l0_2.length c0_2]) (t := 41) ?hr ?_; (case hd => rfl); (case hg => rfl); (case hr => first | (go_simp; done) | (go_simp; rfl)); intro gb394 hg w14 hbox hb; have n0_ := Aside0.mk (below_step hB_ hb); have n1_ := Aside0.mk (hbox); have n2_ := Aside0.mk ((sz_ hg (below_size hB_) : w.heap.size ≤ gb394)); have n3_ := Aside0.mk ((sz_ hg (below_size hB_) : w.heap.size ≤ gb394)); clear HB; have HB := n0_; have BK394 := n1_; have GW394 := n2_; have GE394 := n3_; clear n0_ n1_ n2_ n3_; clear hb hbox hg; obtain ⟨hcz15_0, hcz15_1, hcz15_2, hfz15_0, hfz15_1, hfz15_2⟩ := blkc3_ BK394.out; have p395 : 0 ≤ (a1 : Int) := oD_; have q395 : a1 < (l0_2.length : Int) := oD_; obtain ⟨ad395, A395_0, c395_0, A395_1, c395_1, e395, hx395_0, hx395_1, hx395_2, hx395_3, hx395_4, hx395_5, hl395_0, hi395_0, hl395_1, hi395_1⟩ := at_T88 HR0_2.out a1 p395 q395; cases e395; replace hx395_0 := hx_ HB.out hx395_0; replace hx395_1 := hx_ HB.out hx395_1; replace hx395_2 := hx_ HB.out hx395_2; replace hx395_3 := hx_ HB.out hx395_3; replace hx395_4 := hx_ HB.out hx395_4; replace hx395_5 := hx_ HB.out hx395_5; have HR395_0 := Aside0.mk hi395_0; have HC395_0 := Aside0.mk hl395_0; clear hi395_0 hl395_0; have HR395_1 := Aside0.mk hi395_1; have HC395_1 := Aside0.mk hl395_1; clear hi395_1 hl395_1; replace p395 := eq_true p395; replace q395 := eq_true q395) | ((with_reducible refine gate_dst (N := 5) rfl ?_); refine box_event ?hg (N := 5) ?hd (cs := #[.int .i64 0, .int .i64 0, .int .i64 0, .int .i64 0]) (t := 86) ?hr ?_; (case hd => rfl); (case hg => rfl); (case hr => first | (go_simp; done) | (go_simp; rfl)); intro gb396 hg w16 hbox hb; have n0_ := Aside0.mk (blk_below (g := gb394) (o := .cells #[.slice A0_0 l0_0.length c0_0, .int .i64 a0_1, .slice (some ad395) l0_2.length c0_2] 41 (0, 0)) bK394_ hb); have n1_ := Aside0.mk (below_step hS_ hb); have n2_ := Aside0.mk (hbox); have n3_ := Aside0.mk ((sz_ hg (below_size hS_) : w.heap.size ≤ gb396)); have n4_ := Aside0.mk ((sz_ hg (below_size hS_) : w.heap.size ≤ gb396)); have n5_ := Aside0.mk ((by rw [hg]; exact Nat.ne_of_lt (blk_lt (g := gb394) (o := .cells #[.slice A0_0 l0_0.length c0_0, .int .i64 a0_1, .slice (some ad395) l0_2.length c0_2] 41 (0, 0)) bK394_) : gb394 ≠ gb396)); have n6_ := Aside0.mk ((by rw [hg]; exact Nat.ne_of_gt (blk_lt (g := gb394) (o := .cells #[.slice A0_0 l0_0.length c0_0, .int .i64 a0_1, .slice (some ad395) l0_2.length c0_2] 41 (0, 0)) bK394_) : gb396 ≠ gb394)); clear BK394; clear HB; have BK394 := n0_; have HB := n1_; have BK396 := n2_; have GW396 := n3_; have GE396 := n4_; have NB394_396 := n5_; have NB396_394 := n6_; clear n0_ n1_ n2_ n3_ n4_ n5_ n6_; clear hb hbox hg; have hnb17 := NB396_394.out; have hnc17 := NB394_396.out; obtain ⟨hcz18_0, hcz18_1, hcz18_2, hcz18_3, hfz18_0, hfz18_1, hfz18_2, hfz18_3⟩ := blkc4_ BK396.out) | ((with_reducible refine gate_dst (N := 25) rfl ?_); refine Kd.R_lit (Kd.int .i64) _ 2 ?hg (N := 25) ?hd (xs := ([(rd_T88 l0_2 a1).f2.f2, (rd_T88 l0_2 a1).f2.f3] : List Int)) (inner := [.int .i64 ((rd_T88 l0_2 a1).f2.f2), .int .i64 ((rd_T88 l0_2 a1).f2.f3)]) (ok := fun _ => True) (okp := fun _ => True) ?hr ?hp (fun _ hk => hk) trivial (Below.refl _ _) (Nat.le_refl _) (by simp) ?_; (case hd => rfl); (case hg => rfl); (case hr => first | (go_simp; done) | (go_simp; rfl)); (case hp => exact (Reps.one (show Kd.M (Kd.int .i64) _ _ _ ((rd_T88 l0_2 a1).f2.f2) [.int .i64 ((rd_T88 l0_2 a1).f2.f2)] from rfl) (Reps.one (show Kd.M (Kd.int .i64) _ _ _ ((rd_T88 l0_2 a1).f2.f3) [.int .i64 ((rd_T88 l0_2 a1).f2.f3)] from rfl) (Reps.none _ _)))); intro v401 w19 ho20 hb hg_ hnew_; clear hg_ hnew_; (first | rw [← Ny400.out] at ho20 | (simp only [Int.reduceToNat] at ho20; rw [← Ny400.out] at ho20)); have n0_ := Aside0.mk (Kd.R_lower ho20 (below_size hS_)); have n1_ := Aside0.mk (blk_below (g := gb394) (o := .cells #[.slice A0_0 l0_0.length c0_0, .int .i64 a0_1, .slice (some ad395) l0_2.length c0_2] 41 (0, 0)) fK394_ hb); have n2_ := Aside0.mk (blk_below (g := gb396) (o := .cells #[.int .i64 ((rd_T88 l0_2 a1).f2.f0), .int .i64 ((rd_T88 l0_2 a1).f2.f1), .int .i64 ((rd_T88 l0_2 a1).f2.f2), .int .i64 ((rd_T88 l0_2 a1).f2.f3)] 86 (0, 0)) (by (with_reducible repeat (first | refine blk_drewN ?_ _ | refine blk_drew ?_ | refine blk_alloc ?_ _)); refine blk_put (cs := #[.int .i64 ((rd_T88 l0_2 a1).f2.f0), .int .i64 ((rd_T88 l0_2 a1).f2.f1), .int .i64 ((rd_T88 l0_2 a1).f2.f2), .int .i64 0]) ?_ 3 _ rfl; (with_reducible repeat (first | refine blk_drewN ?_ _ | refine blk_drew ?_ | refine blk_alloc ?_ _)); refine blk_put (cs := #[.int .i64 ((rd_T88 l0_2 a1).f2.f0), .int .i64 ((rd_T88 l0_2 a1).f2.f1), .int .i64 0, .int .i64 0]) ?_ 2 _ rfl; (with_reducible repeat (first | refine blk_drewN ?_ _ | refine blk_drew ?_ | refine blk_alloc ?_ _)); refine blk_put (cs := #[.int .i64 ((rd_T88 l0_2 a1).f2.f0), .int .i64 0, .int .i64 0, .int .i64 0]) ?_ 1 _ rfl; (with_reducible repeat (first | refine blk_drewN ?_ _ | refine blk_drew ?_ | refine blk_alloc ?_ _)); refine blk_put (cs := #[.int .i64 0, .int .i64 0, .int .i64 0, .int .i64 0]) ?_ 0 _ rfl; (with_reducible repeat (first | refine blk_drewN ?_ _ | refine blk_drew ?_ | refine blk_alloc ?_ _)); exact BK396.out) hb); have n3_ := Aside0.mk (below_step hS_ hb); clear BK394; clear BK396; clear HB; have HO402 := n0_; have BK394 := n1_; have BK396 := n2_; have HB := n3_; clear n0_ n1_ n2_ n3_; clear hb ho20))
     go_ret
     exact ⟨_, rG_, rHO402_, hS_⟩
    ·rw [if_neg c13] at H
     have c13b0 : (((rd_T88 l0_2 a1).f2.f0) == 3) = false := beq_eq_false_iff_ne.mpr c13
     have c13b1 : (((rd_T88 l0_2 a1).f2.f0) != 3) = true := bne_iff_ne.mpr c13
     obtain ⟨y403, hy403⟩ : ∃ y_ : List Int, y_ = (([] : List Int)) := ⟨_, rfl⟩
     replace H : (some y403) = some r := by first | (rw [hy403]; with_reducible exact H) | (have H2_ := (Option.bind_some _ _).symm.trans H; rw [hy403]; with_reducible exact H2_) | (have H2_ := (Option.bind_some _ _).symm.trans H; with_reducible exact H2_) | with_reducible exact H | (rw [hy403]; exact H) | exact H
     have Ny403 := Aside0.mk hy403
     clear hy403
     obtain rfl := Option.some.inj H
     go_enter Try.func104, Try.ntmps104
     go_wp2_with (first | ((with_reducible refine gate_dst (N := 2) rfl ?_); refine box_event ?hg (N := 2) ?hd (cs := #[.slice A0_0 l0_0.length c0_0, .int .i64 a0_1, .slice A0_2 l0_2.length c0_2]) (t := 41) ?hr ?_; (case hd => rfl); (case hg => rfl); (case hr => first | (go_simp; done) | (go_simp; rfl)); intro gb394 hg w21 hbox hb; have n0_ := Aside0.mk (below_step hB_ hb); have n1_ := Aside0.mk (hbox); have n2_ := Aside0.mk ((sz_ hg (below_size hB_) : w.heap.size ≤ gb394)); have n3_ := Aside0.mk ((sz_ hg (below_size hB_) : w.heap.size ≤ gb394)); clear HB; have HB := n0_; have BK394 := n1_; have GW394 := n2_; have GE394 := n3_; clear n0_ n1_ n2_ n3_; clear hb hbox hg; obtain ⟨hcz22_0, hcz22_1, hcz22_2, hfz22_0, hfz22_1, hfz22_2⟩ := blkc3_ BK394.out; have p395 : 0 ≤ (a1 : Int) := oD_; have q395 : a1 < (l0_2.length : Int) := oD_; obtain ⟨ad395, A395_0, c395_0, A395_1, c395_1, e395, hx395_0, hx395_1, hx395_2, hx395_3, hx395_4, hx395_5, hl395_0, hi395_0, hl395_1, hi395_1⟩ := at_T88 HR0_2.out a1 p395 q395; cases e395; replace hx395_0 := hx_ HB.out hx395_0; replace hx395_1 := hx_ HB.out hx395_1; replace hx395_2 := hx_ HB.out hx395_2; replace hx395_3 := hx_ HB.out hx395_3; replace hx395_4 := hx_ HB.out hx395_4; replace hx395_5 := hx_ HB.out hx395_5; have HR395_0 := Aside0.mk hi395_0; have HC395_0 := Aside0.mk hl395_0; clear hi395_0 hl395_0; have HR395_1 := Aside0.mk hi395_1; have HC395_1 := Aside0.mk hl395_1; clear hi395_1 hl395_1; replace p395 := eq_true p395; replace q395 := eq_true q395) | ((with_reducible refine gate_dst (N := 5) rfl ?_); refine box_event ?hg (N := 5) ?hd (cs := #[.int .i64 0, .int .i64 0, .int .i64 0, .int .i64 0]) (t := 86) ?hr ?_; (case hd => rfl); (case hg => rfl); (case hr => first | (go_simp; done) | (go_simp; rfl)); intro gb396 hg w23 hbox hb; have n0_ := Aside0.mk (blk_below (g := gb394) (o := .cells #[.slice A0_0 l0_0.length c0_0, .int .i64 a0_1, .slice (some ad395) l0_2.length c0_2] 41 (0, 0)) bK394_ hb); have n1_ := Aside0.mk (below_step hS_ hb); have n2_ := Aside0.mk (hbox); have n3_ := Aside0.mk ((sz_ hg (below_size hS_) : w.heap.size ≤ gb396)); have n4_ := Aside0.mk ((sz_ hg (below_size hS_) : w.heap.size ≤ gb396)); have n5_ := Aside0.mk ((by rw [hg]; exact Nat.ne_of_lt (blk_lt (g := gb394) (o := .cells #[.slice A0_0 l0_0.length c0_0, .int .i64 a0_1, .slice (some ad395) l0_2.length c0_2] 41 (0, 0)) bK394_) : gb394 ≠ gb396)); have n6_ := Aside0.mk ((by rw [hg]; exact Nat.ne_of_gt (blk_lt (g := gb394) (o := .cells #[.slice A0_0 l0_0.length c0_0, .int .i64 a0_1, .slice (some ad395) l0_2.length c0_2] 41 (0, 0)) bK394_) : gb396 ≠ gb394)); clear BK394; clear HB; have BK394 := n0_; have HB := n1_; have BK396 := n2_; have GW396 := n3_; have GE396 := n4_; have NB394_396 := n5_; have NB396_394 := n6_; clear n0_ n1_ n2_ n3_ n4_ n5_ n6_; clear hb hbox hg; have hnb24 := NB396_394.out; have hnc24 := NB394_396.out; obtain ⟨hcz25_0, hcz25_1, hcz25_2, hcz25_3, hfz25_0, hfz25_1, hfz25_2, hfz25_3⟩ := blkc4_ BK396.out) | ((with_reducible refine gate_dst (N := 26) rfl ?_); refine Kd.R_lit (Kd.int .i64) _ 2 ?hg (N := 26) ?hd (xs := ([] : List Int)) (inner := []) (ok := fun _ => True) (okp := fun _ => True) ?hr ?hp (fun _ hk => hk) trivial (Below.refl _ _) (Nat.le_refl _) (by simp) ?_; (case hd => rfl); (case hg => rfl); (case hr => first | (go_simp; done) | (go_simp; rfl)); (case hp => exact (Reps.none _ _)); intro v404 w26 ho27 hb hg_ hnew_; clear hg_ hnew_; (first | rw [← Ny403.out] at ho27 | (simp only [Int.reduceToNat] at ho27; rw [← Ny403.out] at ho27)); have n0_ := Aside0.mk (Kd.R_lower ho27 (below_size hS_)); have n1_ := Aside0.mk (blk_below (g := gb394) (o := .cells #[.slice A0_0 l0_0.length c0_0, .int .i64 a0_1, .slice (some ad395) l0_2.length c0_2] 41 (0, 0)) fK394_ hb); have n2_ := Aside0.mk (blk_below (g := gb396) (o := .cells #[.int .i64 ((rd_T88 l0_2 a1).f2.f0), .int .i64 ((rd_T88 l0_2 a1).f2.f1), .int .i64 ((rd_T88 l0_2 a1).f2.f2), .int .i64 ((rd_T88 l0_2 a1).f2.f3)] 86 (0, 0)) (by (with_reducible repeat (first | refine blk_drewN ?_ _ | refine blk_drew ?_ | refine blk_alloc ?_ _)); refine blk_put (cs := #[.int .i64 ((rd_T88 l0_2 a1).f2.f0), .int .i64 ((rd_T88 l0_2 a1).f2.f1), .int .i64 ((rd_T88 l0_2 a1).f2.f2), .int .i64 0]) ?_ 3 _ rfl; (with_reducible repeat (first | refine blk_drewN ?_ _ | refine blk_drew ?_ | refine blk_alloc ?_ _)); refine blk_put (cs := #[.int .i64 ((rd_T88 l0_2 a1).f2.f0), .int .i64 ((rd_T88 l0_2 a1).f2.f1), .int .i64 0, .int .i64 0]) ?_ 2 _ rfl; (with_reducible repeat (first | refine blk_drewN ?_ _ | refine blk_drew ?_ | refine blk_alloc ?_ _)); refine blk_put (cs := #[.int .i64 ((rd_T88 l0_2 a1).f2.f0), .int .i64 0, .int .i64 0, .int .i64 0]) ?_ 1 _ rfl; (with_reducible repeat (first | refine blk_drewN ?_ _ | refine blk_drew ?_ | refine blk_alloc ?_ _)); refine blk_put (cs := #[.int .i64 0, .int .i64 0, .int .i64 0, .int .i64 0]) ?_ 0 _ rfl; (with_reducible repeat (first | refine blk_drewN ?_ _ | refine blk_drew ?_ | refine blk_alloc ?_ _)); exact BK396.out) hb); have n3_ := Aside0.mk (below_step hS_ hb); clear BK394; clear BK396; clear HB; have HO405 := n0_; have BK394 := n1_; have BK396 := n2_; have HB := n3_; clear n0_ n1_ n2_ n3_; clear hb ho27))
     go_ret
     exact ⟨_, rG_, rHO405_, hS_⟩
  ·rw [if_neg c4] at H
   exact absurd H (by simp)
 ·rw [if_neg c3] at H
  exact absurd H (by simp)
/-! ### spec_l3There: function 71 -/
mutual
def spec_l3There.l0 : Nat → Int → Int → Int → List Int → Int → List (S88) → Option (Bool)
 | 0, _, _, _, _, _, _ => none
 | k + 1, x1, x5, x6, x407000, x407001, x407002 => if x6 < x5 then ((spec_l3Succs.f x407000 x407001 x407002 x6).bind fun t408 => (spec_l3There.l1 k x1 x5 x6 t408 0 x407000 x407001 x407002)) else ((spec_l1In.f x1 0 (wrap64 (x5 - 1))).bind fun t407 => (if t407 = true then (some (decide (x5 ≤ 10))) else (some false)))
def spec_l3There.l1 : Nat → Int → Int → Int → List Int → Int → List Int → Int → List (S88) → Option (Bool)
 | 0, _, _, _, _, _, _, _, _ => none
 | k + 1, x1, x5, x6, x7, x8, x407000, x407001, x407002 => if x8 < (x7.length : Int) then (if 0 ≤ x8 then ((spec_l1In.f (rd x7 x8) 0 (wrap64 (x5 - 1))).bind fun t412 => (if t412 = true then (spec_l3There.l1 k x1 x5 x6 x7 (wrap64 (x8 + 1)) x407000 x407001 x407002) else (some false))) else (none)) else (spec_l3There.l0 k x1 x5 (wrap64 (x6 + 1)) x407000 x407001 x407002)
end
def spec_l3There.f (k : Nat) (l0_0 : List Int) (a0_1 : Int) (l0_2 : List (S88)) (a1 : Int) : Option (Bool) := spec_l3There.l0 k a1 (l0_2.length : Int) 0 l0_0 a0_1 l0_2
theorem spec_l3There.mono_l : ∀ k, (∀ y0 y1 y2 y3 y4 y5, LeO (spec_l3There.l0 k y0 y1 y2 y3 y4 y5) (spec_l3There.l0 (k + 1) y0 y1 y2 y3 y4 y5)) ∧ (∀ y0 y1 y2 y3 y4 y5 y6 y7, LeO (spec_l3There.l1 k y0 y1 y2 y3 y4 y5 y6 y7) (spec_l3There.l1 (k + 1) y0 y1 y2 y3 y4 y5 y6 y7))
 | 0 => ⟨fun _ _ _ _ _ _ r h => by simp [spec_l3There.l0] at h, fun _ _ _ _ _ _ _ _ r h => by simp [spec_l3There.l1] at h⟩
 | k + 1 => by
  obtain ⟨ih0, ih1⟩ := spec_l3There.mono_l k
  refine ⟨?_, ?_⟩
  ·intro y0 y1 y2 y3 y4 y5
   unfold spec_l3There.l0
   repeat' first
   | (with_reducible exact ih0 _ _ _ _ _ _)
   | (with_reducible exact ih1 _ _ _ _ _ _ _ _)
   | (with_reducible exact LeO.refl _)
   | (with_reducible exact LeO.none _)
   | (with_reducible refine LeO.ite ?_ ?_)
   | (with_reducible refine LeO.bind ?_ (fun _ => ?_))
   | exact ih0 _ _ _ _ _ _
   | exact ih1 _ _ _ _ _ _ _ _
   | exact LeO.none _
   | refine LeO.ite ?_ ?_
   | refine LeO.bind ?_ (fun _ => ?_)
  ·intro y0 y1 y2 y3 y4 y5 y6 y7
   unfold spec_l3There.l1
   repeat' first
   | (with_reducible exact ih0 _ _ _ _ _ _)
   | (with_reducible exact ih1 _ _ _ _ _ _ _ _)
   | (with_reducible exact LeO.refl _)
   | (with_reducible exact LeO.none _)
   | (with_reducible refine LeO.ite ?_ ?_)
   | (with_reducible refine LeO.bind ?_ (fun _ => ?_))
   | exact ih0 _ _ _ _ _ _
   | exact ih1 _ _ _ _ _ _ _ _
   | exact LeO.none _
   | refine LeO.ite ?_ ?_
   | refine LeO.bind ?_ (fun _ => ?_)
theorem spec_l3There.mono : ∀ a0 a1 a2 a3 k, LeO (spec_l3There.f k a0 a1 a2 a3) (spec_l3There.f (k + 1) a0 a1 a2 a3) := by
 intro a0 a1 a2 a3 k
 obtain ⟨ih0, ih1⟩ := spec_l3There.mono_l k
 unfold spec_l3There.f
 repeat' first
   | (with_reducible exact ih0 _ _ _ _ _ _)
   | (with_reducible exact ih1 _ _ _ _ _ _ _ _)
   | (with_reducible exact LeO.refl _)
   | (with_reducible exact LeO.none _)
   | (with_reducible refine LeO.ite ?_ ?_)
   | (with_reducible refine LeO.bind ?_ (fun _ => ?_))
   | exact ih0 _ _ _ _ _ _
   | exact ih1 _ _ _ _ _ _ _ _
   | exact LeO.none _
   | refine LeO.ite ?_ ?_
   | refine LeO.bind ?_ (fun _ => ?_)
set_option maxHeartbeats 8000000 in
set_option maxRecDepth 100000 in
theorem spec_l3There.calls (k : Nat) (A0_0 : Option Addr) (c0_0 : Nat) (l0_0 : List Int) (a0_1 : Int) (A0_2 : Option Addr) (c0_2 : Nat) (l0_2 : List (S88)) (a1 : Int) (r : Bool) (w : World) (hr0_0 : Kd.C (Kd.int .i64) w A0_0 l0_0.length l0_0) (hc0_0 : l0_0.length ≤ c0_0) (hr0_2 : Kd.C k88 w A0_2 l0_2.length l0_2) (hc0_2 : l0_2.length ≤ c0_2) (h : spec_l3There.f k l0_0 a0_1 l0_2 a1 = some r) :
  Calls Try.prog 71 #[.agg #[.slice A0_0 l0_0.length c0_0, .int .i64 a0_1, .slice A0_2 l0_2.length c0_2], .int .i64 a1] w fun e w' => e = .returned (.bool r) ∧ Below w.heap.size w w' := by
 have hu41 := Try.underlying41
 have HR0_0 := Aside0.mk hr0_0
 have HC0_0 := Aside0.mk hc0_0
 clear hr0_0 hc0_0
 have HR0_2 := Aside0.mk hr0_2
 have HC0_2 := Aside0.mk hc0_2
 clear hr0_2 hc0_2
 have HB := Aside0.mk (Below.refl w.heap.size w)
 have H : (spec_l3There.l0 k a1 (l0_2.length : Int) 0 l0_0 a0_1 l0_2) = some r := h
 clear h
 have H' := Aside0.mk H
 clear H
 go_enter Try.func71, Try.ntmps71
 go_wp2_with (first | ((with_reducible refine gate_dst (N := 2) rfl ?_); refine box_event ?hg (N := 2) ?hd (cs := #[.slice A0_0 l0_0.length c0_0, .int .i64 a0_1, .slice A0_2 l0_2.length c0_2]) (t := 41) ?hr ?_; (case hd => rfl); (case hg => rfl); (case hr => first | (go_simp; done) | (go_simp; rfl)); intro gb406 hg w3 hbox hb; have n0_ := Aside0.mk (below_step hB_ hb); have n1_ := Aside0.mk (hbox); have n2_ := Aside0.mk ((sz_ hg (below_size hB_) : w.heap.size ≤ gb406)); have n3_ := Aside0.mk ((sz_ hg (below_size hB_) : w.heap.size ≤ gb406)); clear HB; have HB := n0_; have BK406 := n1_; have GW406 := n2_; have GE406 := n3_; clear n0_ n1_ n2_ n3_; clear hb hbox hg; obtain ⟨hcz4_0, hcz4_1, hcz4_2, hfz4_0, hfz4_1, hfz4_2⟩ := blkc3_ BK406.out))
 go_loopg [6] k (fun kq v6 w' => ∃ (x6_1 : Int), v6 = .int .i64 x6_1 ∧ Aside0 (spec_l3There.l0 kq a1 (l0_2.length : Int) x6_1 l0_0 a0_1 l0_2 = some r) ∧ Aside0 (kq ≤ k) ∧ Aside0 (w'.heap[gb406]? = some (.cells #[(.slice A0_0 l0_0.length c0_0), .int .i64 a0_1, (.slice A0_2 l0_2.length c0_2)] 41 (0, 0))) ∧ Aside0 (Below w.heap.size w w'))
 case atStart => exact ⟨(0), rF_, H', ⟨Nat.le_refl _⟩, ⟨bK406_⟩, ⟨hS_⟩⟩
 case round =>
  clear H'
  try clear p2
  try clear hcz4_0 hcz4_1 hcz4_2 hfz4_0 hfz4_1 hfz4_2
  obtain ⟨x6_1, rfl, HA, HK1, BK406, HB⟩ := hrel
  cases gk with
  | zero => exact absurd HA.out (by simp [spec_l3There.l0])
  | succ k1 =>
   have H := HA.out
   clear HA
   simp only [spec_l3There.l0] at H
   by_cases c5 : x6_1 < (l0_2.length : Int)
   ·rw [if_pos c5] at H
    have c5b0 : decide (x6_1 < (l0_2.length : Int)) = true := decide_eq_true c5
    clear c5
    replace H := Option.bind_eq_some_iff.mp H
    obtain ⟨t408, A60, H⟩ := H
    replace H : (spec_l3There.l1 k1 a1 (l0_2.length : Int) x6_1 t408 0 l0_0 a0_1 l0_2) = some r := H
    have A6 := Aside0.mk A60
    clear A60
    have H' := Aside0.mk H
    clear H
    obtain ⟨hcz7_0, hcz7_1, hcz7_2, hfz7_0, hfz7_1, hfz7_2⟩ := blkc3_ BK406.out
    go_wp2_with (first | ((with_reducible refine gate_callee (f := 104) rfl ?_); refine gL_ (some 19) Try.func104 #[.agg #[.slice A0_0 l0_0.length c0_0, .int .i64 a0_1, .slice A0_2 l0_2.length c0_2], .int .i64 x6_1] ?_; (with_reducible refine (spec_l3Succs.calls _ _ l0_0 a0_1 _ _ l0_2 x6_1 t408 _ ?side1 ?side2 ?side3 ?side4 A6.out).mono ?_); (case side1 => exact cHR0_0_); (case side2 => exact HC0_0.out); (case side3 => exact cHR0_2_); (case side4 => exact HC0_2.out); rintro e w8 ⟨v409, rfl, ho0, hb⟩; refine ⟨_, rfl, ?_⟩; have n0_ := Aside0.mk (Kd.R_lower ho0 (below_size hS_)); have n1_ := Aside0.mk (blk_below (g := gb406) (o := .cells #[.slice A0_0 l0_0.length c0_0, .int .i64 a0_1, .slice A0_2 l0_2.length c0_2] 41 (0, 0)) bK406_ hb); have n2_ := Aside0.mk (below_step hS_ hb); clear BK406; clear HB; have HO410 := n0_; have BK406 := n1_; have HB := n2_; clear n0_ n1_ n2_; (try clear hb); (try clear hb2); (try clear hk); (try clear hi); (try clear ho0)))
    go_loopg [8] k1 (fun kq v8 w' => ∃ (x8_2 : Int), v8 = .int .i64 x8_2 ∧ Aside0 (spec_l3There.l1 kq a1 (l0_2.length : Int) x6_1 t408 x8_2 l0_0 a0_1 l0_2 = some r) ∧ Aside0 (kq ≤ k1) ∧ Aside0 (Kd.R (Kd.int .i64) 2 w' w.heap.size (fun _ => True) v409 t408) ∧ Aside0 (w'.heap[gb406]? = some (.cells #[(.slice A0_0 l0_0.length c0_0), .int .i64 a0_1, (.slice A0_2 l0_2.length c0_2)] 41 (0, 0))) ∧ Aside0 (Below w.heap.size w w'))
    case atStart => exact ⟨(0), rF_, H', ⟨Nat.le_refl _⟩, ⟨rHO410_⟩, ⟨bK406_⟩, ⟨hS_⟩⟩
    case round =>
     clear H'
     try clear c1
     try clear p2
     try clear c5
     try clear c5b0
     try clear c7
     try clear hcz4_0 hcz4_1 hcz4_2 hfz4_0 hfz4_1 hfz4_2
     try clear hcz7_0 hcz7_1 hcz7_2 hfz7_0 hfz7_1 hfz7_2
     try clear p2
     obtain ⟨x8_2, rfl, HA, HK2, HO_7, BK406, HB⟩ := hrel
     cases gk with
     | zero => exact absurd HA.out (by simp [spec_l3There.l1])
     | succ k2 =>
      have H := HA.out
      clear HA
      simp only [spec_l3There.l1] at H
      by_cases c9 : x8_2 < (t408.length : Int)
      ·rw [if_pos c9] at H
       have c9b0 : decide (x8_2 < (t408.length : Int)) = true := decide_eq_true c9
       clear c9
       by_cases c10 : 0 ≤ x8_2
       ·rw [if_pos c10] at H
        have c10b0 : decide (0 ≤ x8_2) = true := decide_eq_true c10
        clear c10
        replace H := Option.bind_eq_some_iff.mp H
        obtain ⟨t412, A110, H⟩ := H
        replace H : (if t412 = true then (spec_l3There.l1 k2 a1 (l0_2.length : Int) x6_1 t408 (wrap64 (x8_2 + 1)) l0_0 a0_1 l0_2) else (some false)) = some r := H
        have A11 := Aside0.mk A110
        clear A110
        by_cases c12 : t412 = true
        ·subst c12
         have H1 := (if_pos rfl).symm.trans H
         clear H
         have H := H1
         clear H1
         have H' := Aside0.mk H
         clear H
         obtain ⟨Ao13, co13, eo13⟩ := Kd.R_slice HO_7.out
         subst eo13
         have p411 : 0 ≤ (x8_2 : Int) := oD_
         have q411 : x8_2 < (t408.length : Int) := oD_
         obtain ⟨ad411, e411, hx411_0⟩ := Kd.at_int (Kd.R_reads' HO_7.out).2.2 x8_2 p411 q411
         cases e411
         replace p411 := eq_true p411
         replace q411 := eq_true q411
         go_wp2_with (first | ((with_reducible refine gate_callee (f := 57) rfl ?_); refine gL_ (some 32) Try.func57 #[.int .i64 (rd t408 x8_2), .int .i64 0, .int .i64 (wrap64 ((l0_2.length : Int) - 1))] ?_; (with_reducible refine (spec_l1In.calls (rd t408 x8_2) 0 (wrap64 ((l0_2.length : Int) - 1)) true _ A11.out).mono ?_); rintro e w' ⟨rfl, ⟨nd, rfl⟩⟩; refine ⟨_, rfl, ?_⟩))
         go_roundg k2
         case measure => have := HK1.out; have := HK2.out; omega
         case rel => exact ⟨(wrap64 (x8_2 + 1)), rF_, H', ⟨by have := HK1.out; have := HK2.out; omega⟩, ⟨rHO_7_⟩, ⟨bK406_⟩, ⟨hS_⟩⟩
        ·replace c12 := Bool.eq_false_iff.mpr c12
         subst c12
         have H1 := (if_neg (show ¬ (false = true) by decide)).symm.trans H
         clear H
         have H := H1
         clear H1
         obtain rfl := Option.some.inj H
         obtain ⟨Ao14, co14, eo14⟩ := Kd.R_slice HO_7.out
         subst eo14
         have p411 : 0 ≤ (x8_2 : Int) := oD_
         have q411 : x8_2 < (t408.length : Int) := oD_
         obtain ⟨ad411, e411, hx411_0⟩ := Kd.at_int (Kd.R_reads' HO_7.out).2.2 x8_2 p411 q411
         cases e411
         replace p411 := eq_true p411
         replace q411 := eq_true q411
         go_wp2_with (first | ((with_reducible refine gate_callee (f := 57) rfl ?_); refine gL_ (some 32) Try.func57 #[.int .i64 (rd t408 x8_2), .int .i64 0, .int .i64 (wrap64 ((l0_2.length : Int) - 1))] ?_; (with_reducible refine (spec_l1In.calls (rd t408 x8_2) 0 (wrap64 ((l0_2.length : Int) - 1)) false _ A11.out).mono ?_); rintro e w' ⟨rfl, ⟨nd, rfl⟩⟩; refine ⟨_, rfl, ?_⟩))
         go_ret
         exact ⟨rG_, hS_⟩
       ·rw [if_neg c10] at H
        exact absurd H (by simp)
      ·rw [if_neg c9] at H
       have c9b0 : decide (x8_2 < (t408.length : Int)) = false := decide_eq_false c9
       clear c9
       have H' := Aside0.mk H
       clear H
       obtain ⟨Ao15, co15, eo15⟩ := Kd.R_slice HO_7.out
       subst eo15
       go_wp2
       go_roundg k2
       case measure => have := HK1.out; have := HK2.out; omega
       case rel => exact ⟨(wrap64 (x6_1 + 1)), rF_, H', ⟨by have := HK1.out; have := HK2.out; omega⟩, ⟨bK406_⟩, ⟨hS_⟩⟩
   ·rw [if_neg c5] at H
    have c5b0 : decide (x6_1 < (l0_2.length : Int)) = false := decide_eq_false c5
    clear c5
    replace H := Option.bind_eq_some_iff.mp H
    obtain ⟨t407, A160, H⟩ := H
    replace H : (if t407 = true then (some (decide ((l0_2.length : Int) ≤ 10))) else (some false)) = some r := H
    have A16 := Aside0.mk A160
    clear A160
    by_cases c17 : t407 = true
    ·subst c17
     have H1 := (if_pos rfl).symm.trans H
     clear H
     have H := H1
     clear H1
     obtain rfl := Option.some.inj H
     go_wp2_with (first | ((with_reducible refine gate_callee (f := 57) rfl ?_); refine gL_ (some 37) Try.func57 #[.int .i64 a1, .int .i64 0, .int .i64 (wrap64 ((l0_2.length : Int) - 1))] ?_; (with_reducible refine (spec_l1In.calls a1 0 (wrap64 ((l0_2.length : Int) - 1)) true _ A16.out).mono ?_); rintro e w' ⟨rfl, ⟨nd, rfl⟩⟩; refine ⟨_, rfl, ?_⟩))
     go_ret
     exact ⟨rG_, hS_⟩
    ·replace c17 := Bool.eq_false_iff.mpr c17
     subst c17
     have H1 := (if_neg (show ¬ (false = true) by decide)).symm.trans H
     clear H
     have H := H1
     clear H1
     obtain rfl := Option.some.inj H
     go_wp2_with (first | ((with_reducible refine gate_callee (f := 57) rfl ?_); refine gL_ (some 37) Try.func57 #[.int .i64 a1, .int .i64 0, .int .i64 (wrap64 ((l0_2.length : Int) - 1))] ?_; (with_reducible refine (spec_l1In.calls a1 0 (wrap64 ((l0_2.length : Int) - 1)) false _ A16.out).mono ?_); rintro e w' ⟨rfl, ⟨nd, rfl⟩⟩; refine ⟨_, rfl, ?_⟩))
     go_ret
     exact ⟨rG_, hS_⟩
/-! ### spec_l1Has: function 105 -/
def spec_l1Has.l0 : Nat → List Int → Int → Int → Option (Bool)
 | 0, _, _, _ => none
 | k + 1, x0, x1, x5 => if x5 < (x0.length : Int) then (if 0 ≤ x5 then (if (rd x0 x5) = x1 then (some true) else (spec_l1Has.l0 k x0 x1 (wrap64 (x5 + 1)))) else (none)) else (some false)
def spec_l1Has.f (k : Nat) (l0 : List Int) (a1 : Int) : Option (Bool) := spec_l1Has.l0 k l0 a1 0
theorem spec_l1Has.mono_l : ∀ k, (∀ y0 y1 y2, LeO (spec_l1Has.l0 k y0 y1 y2) (spec_l1Has.l0 (k + 1) y0 y1 y2))
 | 0 => fun _ _ _ r h => by simp [spec_l1Has.l0] at h
 | k + 1 => by
  have ih0 := spec_l1Has.mono_l k
  ·intro y0 y1 y2
   unfold spec_l1Has.l0
   repeat' first
   | (with_reducible exact ih0 _ _ _)
   | (with_reducible exact LeO.refl _)
   | (with_reducible exact LeO.none _)
   | (with_reducible refine LeO.ite ?_ ?_)
   | (with_reducible refine LeO.bind ?_ (fun _ => ?_))
   | exact ih0 _ _ _
   | exact LeO.none _
   | refine LeO.ite ?_ ?_
   | refine LeO.bind ?_ (fun _ => ?_)
theorem spec_l1Has.mono : ∀ a0 a1 k, LeO (spec_l1Has.f k a0 a1) (spec_l1Has.f (k + 1) a0 a1) := by
 intro a0 a1 k
 have ih0 := spec_l1Has.mono_l k
 unfold spec_l1Has.f
 repeat' first
   | (with_reducible exact ih0 _ _ _)
   | (with_reducible exact LeO.refl _)
   | (with_reducible exact LeO.none _)
   | (with_reducible refine LeO.ite ?_ ?_)
   | (with_reducible refine LeO.bind ?_ (fun _ => ?_))
   | exact ih0 _ _ _
   | exact LeO.none _
   | refine LeO.ite ?_ ?_
   | refine LeO.bind ?_ (fun _ => ?_)
set_option maxHeartbeats 8000000 in
set_option maxRecDepth 100000 in
theorem spec_l1Has.calls (k : Nat) (A0 : Option Addr) (c0 : Nat) (l0 : List Int) (a1 : Int) (r : Bool) (w : World) (hr0 : Kd.C (Kd.int .i64) w A0 l0.length l0) (hc0 : l0.length ≤ c0) (h : spec_l1Has.f k l0 a1 = some r) :
  Calls Try.prog 105 #[.slice A0 l0.length c0, .int .i64 a1] w fun e w' => e = .returned (.bool r) ∧ Drawn0 w w' := by
 have HR0 := Aside0.mk hr0
 have HC0 := Aside0.mk hc0
 clear hr0 hc0
 have H : (spec_l1Has.l0 k l0 a1 0) = some r := h
 clear h
 have H' := Aside0.mk H
 clear H
 go_enter Try.func105, Try.ntmps105
 go_wp2
 go_loopg [5] k (fun kq v5 w' => ∃ (x5_1 : Int), v5 = .int .i64 x5_1 ∧ Aside0 (spec_l1Has.l0 kq l0 a1 x5_1 = some r) ∧ Aside0 (kq ≤ k) ∧ Drawn0 w w')
 case atStart => exact ⟨(0), rF_, H', ⟨Nat.le_refl _⟩, by repeat (first | exact Drawn0.refl _ | apply Drawn0.step)⟩
 case round =>
  clear H'
  try clear c1
  try clear p2
  obtain ⟨x5_1, rfl, HA, HK1, ⟨m1, rfl⟩⟩ := hrel
  cases gk with
  | zero => exact absurd HA.out (by simp [spec_l1Has.l0])
  | succ k1 =>
   have H := HA.out
   clear HA
   simp only [spec_l1Has.l0] at H
   by_cases c3 : x5_1 < (l0.length : Int)
   ·rw [if_pos c3] at H
    have c3b0 : decide (x5_1 < (l0.length : Int)) = true := decide_eq_true c3
    clear c3
    by_cases c4 : 0 ≤ x5_1
    ·rw [if_pos c4] at H
     have c4b0 : decide (0 ≤ x5_1) = true := decide_eq_true c4
     clear c4
     by_cases c5 : (rd l0 x5_1) = a1
     ·rw [if_pos c5] at H
      have c5b0 : ((rd l0 x5_1) == a1) = true := beq_iff_eq.mpr c5
      have c5b1 : ((rd l0 x5_1) != a1) = false := bne_eq_false_iff_eq.mpr c5
      clear c5
      obtain rfl := Option.some.inj H
      have p413 : 0 ≤ (x5_1 : Int) := oD_
      have q413 : x5_1 < (l0.length : Int) := oD_
      obtain ⟨ad413, e413, hx413_0⟩ := Kd.at_int HR0.out x5_1 p413 q413
      cases e413
      replace p413 := eq_true p413
      replace q413 := eq_true q413
      go_wp2
      go_ret
      exact ⟨rF_, by repeat (first | exact Drawn0.refl _ | apply Drawn0.step)⟩
     ·rw [if_neg c5] at H
      have c5b0 : ((rd l0 x5_1) == a1) = false := beq_eq_false_iff_ne.mpr c5
      have c5b1 : ((rd l0 x5_1) != a1) = true := bne_iff_ne.mpr c5
      have H' := Aside0.mk H
      clear H
      have p413 : 0 ≤ (x5_1 : Int) := oD_
      have q413 : x5_1 < (l0.length : Int) := oD_
      obtain ⟨ad413, e413, hx413_0⟩ := Kd.at_int HR0.out x5_1 p413 q413
      cases e413
      replace p413 := eq_true p413
      replace q413 := eq_true q413
      go_wp2
      go_roundg k1
      case measure => have := HK1.out; omega
      case rel => exact ⟨(wrap64 (x5_1 + 1)), rF_, H', ⟨by have := HK1.out; omega⟩, by repeat (first | exact Drawn0.refl _ | apply Drawn0.step)⟩
    ·rw [if_neg c4] at H
     exact absurd H (by simp)
   ·rw [if_neg c3] at H
    have c3b0 : decide (x5_1 < (l0.length : Int)) = false := decide_eq_false c3
    clear c3
    obtain rfl := Option.some.inj H
    go_wp2
    go_ret
    exact ⟨rF_, by repeat (first | exact Drawn0.refl _ | apply Drawn0.step)⟩
/-! ### spec_l1Copy: function 90 -/
def spec_l1Copy.f (l0 : List Int) : Option (List Int) := (some (([] : List Int) : List Int)).bind fun y103 => (if y103.length + l0.length < 17592186044416 then (some (y103 ++ l0)) else (none))
set_option maxHeartbeats 8000000 in
set_option maxRecDepth 100000 in
theorem spec_l1Copy.calls (A0 : Option Addr) (c0 : Nat) (l0 : List Int) (r : List Int) (w : World) (hr0 : Kd.C (Kd.int .i64) w A0 l0.length l0) (hc0 : l0.length ≤ c0) (h : spec_l1Copy.f l0 = some r) :
  Calls Try.prog 90 #[.slice A0 l0.length c0] w fun e w' => ∃ v0_ : Value, e = .returned (v0_) ∧ Kd.R (Kd.int .i64) 2 w' w.heap.size (fun _ => True) v0_ r ∧ Below w.heap.size w w' := by
 have HR0 := Aside0.mk hr0
 have HC0 := Aside0.mk hc0
 clear hr0 hc0
 have HB := Aside0.mk (Below.refl w.heap.size w)
 have H : ((some (([] : List Int) : List Int)).bind fun y103 => (if y103.length + l0.length < 17592186044416 then (some (y103 ++ l0)) else (none))) = some r := h
 clear h
 obtain ⟨y103, hy103⟩ : ∃ y_ : List Int, y_ = (([] : List Int)) := ⟨_, rfl⟩
 replace H : (if y103.length + l0.length < 17592186044416 then (some (y103 ++ l0)) else (none)) = some r := by first | (rw [hy103]; with_reducible exact H) | (have H2_ := (Option.bind_some _ _).symm.trans H; rw [hy103]; with_reducible exact H2_) | (have H2_ := (Option.bind_some _ _).symm.trans H; with_reducible exact H2_) | with_reducible exact H | (rw [hy103]; exact H) | exact H
 have Ny103 := Aside0.mk hy103
 clear hy103
 by_cases c2 : y103.length + l0.length < 17592186044416
 ·rw [if_pos c2] at H
  have LMc2 := Aside0.mk c2
  clear c2
  obtain ⟨y106, hy106⟩ : ∃ y_ : List Int, y_ = (y103 ++ l0) := ⟨_, rfl⟩
  replace H : (some y106) = some r := by first | (rw [hy106]; with_reducible exact H) | (have H2_ := (Option.bind_some _ _).symm.trans H; rw [hy106]; with_reducible exact H2_) | (have H2_ := (Option.bind_some _ _).symm.trans H; with_reducible exact H2_) | with_reducible exact H | (rw [hy106]; exact H) | exact H
  have Ny106 := Aside0.mk hy106
  clear hy106
  obtain rfl := Option.some.inj H
  go_enter Try.func90, Try.ntmps90
  go_wp2_with (first | ((with_reducible refine gate_dst (N := 3) rfl ?_); refine Kd.R_lit (Kd.int .i64) _ 2 ?hg (N := 3) ?hd (xs := ([] : List Int)) (inner := []) (ok := fun _ => True) (okp := fun _ => True) ?hr ?hp (fun _ hk => hk) trivial (Below.refl _ _) (Nat.le_refl _) (by simp) ?_; (case hd => rfl); (case hg => rfl); (case hr => first | (go_simp; done) | (go_simp; rfl)); (case hp => exact (Reps.none _ _)); intro v104 w3 ho4 hb hg_ hnew_; clear hg_ hnew_; (first | rw [← Ny103.out] at ho4 | (simp only [Int.reduceToNat] at ho4; rw [← Ny103.out] at ho4)); have n0_ := Aside0.mk (Kd.R_lower ho4 (below_size hB_)); have n1_ := Aside0.mk (below_step hB_ hb); clear HB; have HO105 := n0_; have HB := n1_; clear n0_ n1_; clear hb ho4) | ((with_reducible refine gate_builtin (b := .append) (xs := #[.tmp 3, .tmp 4]) rfl ?_); at_builtin; refine Kd.R_append_rows (Kd.int .i64) (w0 := w) w.heap.size rfl (.tmp 3) (.tmp 4) 22 2 (.int .i64 0) 8 rfl Try.underlying22 info2 rfl (by decide) (by omega) v104 y103 l0 _ _ _ (fun _ => True) (fun _ => False) rfl rfl ?aO ?aR (fun _ _ h => h) (fun _ h => h.elim) ?aF ?aB ?aS ?aL ?_; (case aR => exact cHR0_); (case aB => exact hB_); (case aF => exact (fun _ _ => trivial)); (case aO => exact rHO105_); (case aS => exact (below_size hB_)); (case aL => have := LMc2.out; omega); intro v107 w5 ho hb hg hat; rw [← Ny106.out] at ho; have n0_ := Aside0.mk (hb); have n1_ := Aside0.mk (ho); clear HB; clear HO105; have HB := n0_; have HO108 := n1_; clear n0_ n1_; clear ho hb hg hat))
  go_ret
  exact ⟨_, rG_, rHO108_, hB_⟩
 ·rw [if_neg c2] at H
  exact absurd H (by simp)
/-! ### spec_l1Put: function 112 -/
def spec_l1Put.l0 : Nat → List Int → Int → Int → Option (List Int)
 | 0, _, _, _ => none
 | k + 1, x0, x1, x5 => if x5 < (x0.length : Int) then (if 0 ≤ x5 then (if (rd x0 x5) < x1 then (spec_l1Put.l0 k x0 x1 (wrap64 (x5 + 1))) else (if (rd x0 x5) = x1 then (some x0) else ((some (([] : List Int) : List Int)).bind fun y416 => (if x5 ≤ (x0.length : Int) then ((some (x0.take (x5 : Int).toNat : List Int)).bind fun y419 => (if y416.length + y419.length < 17592186044416 then ((some (y416 ++ y419 : List Int)).bind fun y423 => (if y423.length < 17592186044416 then ((some (y423 ++ [x1] : List Int)).bind fun y426 => ((some (x0.drop (x5 : Int).toNat : List Int)).bind fun y429 => (if y426.length + y429.length < 17592186044416 then (some (y426 ++ y429)) else (none)))) else (none))) else (none))) else (none))))) else (none)) else ((some (([] : List Int) : List Int)).bind fun y436 => (if 0 ≤ x5 then (if x5 ≤ (x0.length : Int) then ((some (x0.take (x5 : Int).toNat : List Int)).bind fun y439 => (if y436.length + y439.length < 17592186044416 then ((some (y436 ++ y439 : List Int)).bind fun y443 => (if y443.length < 17592186044416 then ((some (y443 ++ [x1] : List Int)).bind fun y446 => ((some (x0.drop (x5 : Int).toNat : List Int)).bind fun y449 => (if y446.length + y449.length < 17592186044416 then (some (y446 ++ y449)) else (none)))) else (none))) else (none))) else (none)) else (none)))
def spec_l1Put.f (k : Nat) (l0 : List Int) (a1 : Int) : Option (List Int) := spec_l1Put.l0 k l0 a1 0
theorem spec_l1Put.mono_l : ∀ k, (∀ y0 y1 y2, LeO (spec_l1Put.l0 k y0 y1 y2) (spec_l1Put.l0 (k + 1) y0 y1 y2))
 | 0 => fun _ _ _ r h => by simp [spec_l1Put.l0] at h
 | k + 1 => by
  have ih0 := spec_l1Put.mono_l k
  ·intro y0 y1 y2
   unfold spec_l1Put.l0
   repeat' first
   | (with_reducible exact ih0 _ _ _)
   | (with_reducible exact LeO.refl _)
   | (with_reducible exact LeO.none _)
   | (with_reducible refine LeO.ite ?_ ?_)
   | (with_reducible refine LeO.bind ?_ (fun _ => ?_))
   | exact ih0 _ _ _
   | exact LeO.none _
   | refine LeO.ite ?_ ?_
   | refine LeO.bind ?_ (fun _ => ?_)
theorem spec_l1Put.mono : ∀ a0 a1 k, LeO (spec_l1Put.f k a0 a1) (spec_l1Put.f (k + 1) a0 a1) := by
 intro a0 a1 k
 have ih0 := spec_l1Put.mono_l k
 unfold spec_l1Put.f
 repeat' first
   | (with_reducible exact ih0 _ _ _)
   | (with_reducible exact LeO.refl _)
   | (with_reducible exact LeO.none _)
   | (with_reducible refine LeO.ite ?_ ?_)
   | (with_reducible refine LeO.bind ?_ (fun _ => ?_))
   | exact ih0 _ _ _
   | exact LeO.none _
   | refine LeO.ite ?_ ?_
   | refine LeO.bind ?_ (fun _ => ?_)
set_option maxHeartbeats 8000000 in
set_option maxRecDepth 100000 in
theorem spec_l1Put.calls (k : Nat) (P0_ : Nat → Prop) (u9000_ : Value) (l0 : List Int) (a1 : Int) (r : List Int) (w0 w : World) (hB : Below w0.heap.size w0 w) (ho0 : Kd.R (Kd.int .i64) 2 w w0.heap.size P0_ u9000_ l0) (h : spec_l1Put.f k l0 a1 = some r) :
  Calls Try.prog 112 #[u9000_, .int .i64 a1] w fun e w' => ∃ v0_ : Value, e = .returned (v0_) ∧ Kd.R (Kd.int .i64) 2 w' w0.heap.size (fun k_ => (P0_ k_ ∨ w.heap.size ≤ k_)) v0_ r ∧ Below w0.heap.size w0 w' ∧ Kept w w' (fun k_ => P0_ k_) := by
 have HO0 := Aside0.mk (show Kd.R (Kd.int .i64) 2 w w0.heap.size (fun k_ => (P0_ k_ ∨ w.heap.size ≤ k_)) u9000_ l0 from Kd.R_mono ho0 (fun k_ hk => (.inl hk)))
 have HK := Aside0.mk (Kept.refl w (fun k_ => P0_ k_))
 have HW0 := Aside0.mk hB.size
 have HB := Aside0.mk hB
 clear hB
 have H : (spec_l1Put.l0 k l0 a1 0) = some r := h
 clear h
 have H' := Aside0.mk H
 clear H
 go_enter Try.func112, Try.ntmps112
 go_wp2
 go_loopg [5] k (fun kq v5 w' => ∃ (x5_1 : Int), v5 = .int .i64 x5_1 ∧ Aside0 (spec_l1Put.l0 kq l0 a1 x5_1 = some r) ∧ Aside0 (kq ≤ k) ∧ Aside0 (Kd.R (Kd.int .i64) 2 w' w0.heap.size (fun k_ => (P0_ k_ ∨ w.heap.size ≤ k_)) u9000_ l0) ∧ Aside0 (Kept w w' (fun k_ => P0_ k_)) ∧ Aside0 (Below w0.heap.size w0 w'))
 case atStart => exact ⟨(0), rF_, H', ⟨Nat.le_refl _⟩, ⟨rHO0_⟩, ⟨by repeat (first | (with_reducible first | exact HK.out | apply Kept.alloc | apply Kept.drewN | apply Kept.drew) | exact HK.out)⟩, ⟨hB_⟩⟩
 case round =>
  clear H'
  try clear c1
  try clear p2
  obtain ⟨x5_1, rfl, HA, HK1, HO_0, HK, HB⟩ := hrel
  cases gk with
  | zero => exact absurd HA.out (by simp [spec_l1Put.l0])
  | succ k1 =>
   have H := HA.out
   clear HA
   simp only [spec_l1Put.l0] at H
   by_cases c3 : x5_1 < (l0.length : Int)
   ·rw [if_pos c3] at H
    have c3b0 : decide (x5_1 < (l0.length : Int)) = true := decide_eq_true c3
    clear c3
    by_cases c4 : 0 ≤ x5_1
    ·rw [if_pos c4] at H
     have c4b0 : decide (0 ≤ x5_1) = true := decide_eq_true c4
     clear c4
     by_cases c5 : (rd l0 x5_1) < a1
     ·rw [if_pos c5] at H
      have c5b0 : decide ((rd l0 x5_1) < a1) = true := decide_eq_true c5
      clear c5
      have H' := Aside0.mk H
      clear H
      obtain ⟨Ao6, co6, eo6⟩ := Kd.R_slice HO_0.out
      subst eo6
      have p414 : 0 ≤ (x5_1 : Int) := oD_
      have q414 : x5_1 < (l0.length : Int) := oD_
      obtain ⟨ad414, e414, hx414_0⟩ := Kd.at_int (Kd.R_reads' HO_0.out).2.2 x5_1 p414 q414
      cases e414
      replace p414 := eq_true p414
      replace q414 := eq_true q414
      go_wp2
      go_roundg k1
      case measure => have := HK1.out; omega
      case rel => exact ⟨(wrap64 (x5_1 + 1)), rF_, H', ⟨by have := HK1.out; omega⟩, ⟨rHO_0_⟩, ⟨by repeat (first | (with_reducible first | exact HK.out | apply Kept.alloc | apply Kept.drewN | apply Kept.drew) | exact HK.out)⟩, ⟨hB_⟩⟩
     ·rw [if_neg c5] at H
      have c5b0 : decide ((rd l0 x5_1) < a1) = false := decide_eq_false c5
      clear c5
      by_cases c7 : (rd l0 x5_1) = a1
      ·rw [if_pos c7] at H
       have c7b0 : ((rd l0 x5_1) == a1) = true := beq_iff_eq.mpr c7
       have c7b1 : ((rd l0 x5_1) != a1) = false := bne_eq_false_iff_eq.mpr c7
       clear c7
       obtain rfl := Option.some.inj H
       obtain ⟨Ao8, co8, eo8⟩ := Kd.R_slice HO_0.out
       subst eo8
       have p414 : 0 ≤ (x5_1 : Int) := oD_
       have q414 : x5_1 < (l0.length : Int) := oD_
       obtain ⟨ad414, e414, hx414_0⟩ := Kd.at_int (Kd.R_reads' HO_0.out).2.2 x5_1 p414 q414
       cases e414
       replace p414 := eq_true p414
       replace q414 := eq_true q414
       have p415 : 0 ≤ (x5_1 : Int) := oD_
       have q415 : x5_1 < (l0.length : Int) := oD_
       obtain ⟨ad415, e415, hx415_0⟩ := Kd.at_int (Kd.R_reads' HO_0.out).2.2 x5_1 p415 q415
       obtain rfl : ad414 = ad415 := (by injection e415)
       replace p415 := eq_true p415
       replace q415 := eq_true q415
       go_wp2
       go_ret
       exact ⟨_, rG_, rHO_0_, hB_, by repeat (first | (with_reducible first | exact HK.out | apply Kept.alloc | apply Kept.drewN | apply Kept.drew) | exact HK.out)⟩
      ·rw [if_neg c7] at H
       have c7b0 : ((rd l0 x5_1) == a1) = false := beq_eq_false_iff_ne.mpr c7
       have c7b1 : ((rd l0 x5_1) != a1) = true := bne_iff_ne.mpr c7
       obtain ⟨y416, hy416⟩ : ∃ y_ : List Int, y_ = (([] : List Int)) := ⟨_, rfl⟩
       replace H : (if x5_1 ≤ (l0.length : Int) then ((some (l0.take (x5_1 : Int).toNat : List Int)).bind fun y419 => (if y416.length + y419.length < 17592186044416 then ((some (y416 ++ y419 : List Int)).bind fun y423 => (if y423.length < 17592186044416 then ((some (y423 ++ [a1] : List Int)).bind fun y426 => ((some (l0.drop (x5_1 : Int).toNat : List Int)).bind fun y429 => (if y426.length + y429.length < 17592186044416 then (some (y426 ++ y429)) else (none)))) else (none))) else (none))) else (none)) = some r := by first | (rw [hy416]; with_reducible exact H) | (have H2_ := (Option.bind_some _ _).symm.trans H; rw [hy416]; with_reducible exact H2_) | (have H2_ := (Option.bind_some _ _).symm.trans H; with_reducible exact H2_) | with_reducible exact H | (rw [hy416]; exact H) | exact H
       have Ny416 := Aside0.mk hy416
       clear hy416
       have c9b0 := eq_true (oD_ : 0 ≤ x5_1)
       by_cases c10 : x5_1 ≤ (l0.length : Int)
       ·rw [if_pos c10] at H
        have c10b0 := eq_true c10
        have c10b1 : decide (x5_1 ≤ (l0.length : Int)) = true := decide_eq_true c10
        clear c10
        obtain ⟨y419, hy419⟩ : ∃ y_ : List Int, y_ = (l0.take (x5_1 : Int).toNat) := ⟨_, rfl⟩
        replace H : (if y416.length + y419.length < 17592186044416 then ((some (y416 ++ y419 : List Int)).bind fun y423 => (if y423.length < 17592186044416 then ((some (y423 ++ [a1] : List Int)).bind fun y426 => ((some (l0.drop (x5_1 : Int).toNat : List Int)).bind fun y429 => (if y426.length + y429.length < 17592186044416 then (some (y426 ++ y429)) else (none)))) else (none))) else (none)) = some r := by first | (rw [hy419]; with_reducible exact H) | (have H2_ := (Option.bind_some _ _).symm.trans H; rw [hy419]; with_reducible exact H2_) | (have H2_ := (Option.bind_some _ _).symm.trans H; with_reducible exact H2_) | with_reducible exact H | (rw [hy419]; exact H) | exact H
        have Ny419 := Aside0.mk hy419
        clear hy419
        by_cases c11 : y416.length + y419.length < 17592186044416
        ·rw [if_pos c11] at H
         have LMc11 := Aside0.mk c11
         clear c11
         obtain ⟨y423, hy423⟩ : ∃ y_ : List Int, y_ = (y416 ++ y419) := ⟨_, rfl⟩
         replace H : (if y423.length < 17592186044416 then ((some (y423 ++ [a1] : List Int)).bind fun y426 => ((some (l0.drop (x5_1 : Int).toNat : List Int)).bind fun y429 => (if y426.length + y429.length < 17592186044416 then (some (y426 ++ y429)) else (none)))) else (none)) = some r := by first | (rw [hy423]; with_reducible exact H) | (have H2_ := (Option.bind_some _ _).symm.trans H; rw [hy423]; with_reducible exact H2_) | (have H2_ := (Option.bind_some _ _).symm.trans H; with_reducible exact H2_) | with_reducible exact H | (rw [hy423]; exact H) | exact H
         have Ny423 := Aside0.mk hy423
         clear hy423
         by_cases c12 : y423.length < 17592186044416
         ·rw [if_pos c12] at H
          have LMc12 := Aside0.mk c12
          clear c12
          obtain ⟨y426, hy426⟩ : ∃ y_ : List Int, y_ = (y423 ++ [a1]) := ⟨_, rfl⟩
          replace H : ((some (l0.drop (x5_1 : Int).toNat : List Int)).bind fun y429 => (if y426.length + y429.length < 17592186044416 then (some (y426 ++ y429)) else (none))) = some r := by first | (rw [hy426]; with_reducible exact H) | (have H2_ := (Option.bind_some _ _).symm.trans H; rw [hy426]; with_reducible exact H2_) | (have H2_ := (Option.bind_some _ _).symm.trans H; with_reducible exact H2_) | with_reducible exact H | (rw [hy426]; exact H) | exact H
          have Ny426 := Aside0.mk hy426
          clear hy426
          have c13b0 := eq_true (oD_ : 0 ≤ x5_1)
          have c14b0 := eq_true (oD_ : x5_1 ≤ (l0.length : Int))
          obtain ⟨y429, hy429⟩ : ∃ y_ : List Int, y_ = (l0.drop (x5_1 : Int).toNat) := ⟨_, rfl⟩
          replace H : (if y426.length + y429.length < 17592186044416 then (some (y426 ++ y429)) else (none)) = some r := by first | (rw [hy429]; with_reducible exact H) | (have H2_ := (Option.bind_some _ _).symm.trans H; rw [hy429]; with_reducible exact H2_) | (have H2_ := (Option.bind_some _ _).symm.trans H; with_reducible exact H2_) | with_reducible exact H | (rw [hy429]; exact H) | exact H
          have Ny429 := Aside0.mk hy429
          clear hy429
          by_cases c15 : y426.length + y429.length < 17592186044416
          ·rw [if_pos c15] at H
           have LMc15 := Aside0.mk c15
           clear c15
           obtain ⟨y433, hy433⟩ : ∃ y_ : List Int, y_ = (y426 ++ y429) := ⟨_, rfl⟩
           replace H : (some y433) = some r := by first | (rw [hy433]; with_reducible exact H) | (have H2_ := (Option.bind_some _ _).symm.trans H; rw [hy433]; with_reducible exact H2_) | (have H2_ := (Option.bind_some _ _).symm.trans H; with_reducible exact H2_) | with_reducible exact H | (rw [hy433]; exact H) | exact H
           have Ny433 := Aside0.mk hy433
           clear hy433
           obtain rfl := Option.some.inj H
           obtain ⟨Ao16, co16, eo16⟩ := Kd.R_slice HO_0.out
           subst eo16
           have p414 : 0 ≤ (x5_1 : Int) := oD_
           have q414 : x5_1 < (l0.length : Int) := oD_
           obtain ⟨ad414, e414, hx414_0⟩ := Kd.at_int (Kd.R_reads' HO_0.out).2.2 x5_1 p414 q414
           cases e414
           replace p414 := eq_true p414
           replace q414 := eq_true q414
           have p415 : 0 ≤ (x5_1 : Int) := oD_
           have q415 : x5_1 < (l0.length : Int) := oD_
           obtain ⟨ad415, e415, hx415_0⟩ := Kd.at_int (Kd.R_reads' HO_0.out).2.2 x5_1 p415 q415
           obtain rfl : ad414 = ad415 := (by injection e415)
           replace p415 := eq_true p415
           replace q415 := eq_true q415
           go_wp2_with (first | ((with_reducible refine gate_dst (N := 34) rfl ?_); refine Kd.R_lit (Kd.int .i64) _ 2 ?hg (N := 34) ?hd (xs := ([] : List Int)) (inner := []) (ok := fun _ => True) (okp := fun _ => True) ?hr ?hp (fun _ hk => hk) trivial (Below.refl _ _) (Nat.le_refl _) (by simp) ?_; (case hd => rfl); (case hg => rfl); (case hr => first | (go_simp; done) | (go_simp; rfl)); (case hp => exact (Reps.none _ _)); intro v417 w17 ho18 hb hg_ hnew_; clear hg_ hnew_; (first | rw [← Ny416.out] at ho18 | (simp only [Int.reduceToNat] at ho18; rw [← Ny416.out] at ho18)); have n0_ := Aside0.mk (Kd.R_elder' rHO_0_ (Kd.R_base ho18) hb); have n1_ := Aside0.mk (Kd.R_lower (Kd.R_new' (Kd.R_newM (M := fun k_ => (P0_ k_ ∨ w.heap.size ≤ k_)) ho18 (by first | exact HK.out.1 | exact (show Kept w _ (fun k_ => P0_ k_) from by repeat (first | (with_reducible first | exact HK.out | apply Kept.alloc | apply Kept.drewN | apply Kept.drew) | exact HK.out)).1) (fun k_ h_ => .inr h_)) (Kd.R_lt rHO_0_)) (below_size hB_)); have n2_ := Aside0.mk (Kept.below (S := (fun k_ => P0_ k_)) (by repeat (first | (with_reducible first | exact HK.out | apply Kept.alloc | apply Kept.drewN | apply Kept.drew) | exact HK.out)) hb); have n3_ := Aside0.mk (below_step hB_ hb); clear HO_0; clear HK; clear HB; have HO_0 := n0_; have HO418 := n1_; have HK := n2_; have HB := n3_; clear n0_ n1_ n2_ n3_; clear hb ho18; have q19 : (x5_1 : Int) ≤ ((l0.length : Int) : Int) := oD_; obtain ⟨i019, hi019, _, hsz19, _⟩ := info_parts info2; have hroom19 : l0.length ≤ co16 := (Kd.R_reads' HO_0.out).2.1; have hC19 : Kd.C (Kd.int .i64) _ (some ad414) l0.length l0 := (Kd.R_reads' HO_0.out).2.2; have hcut19 := cut_to (P := Try.prog) 22 2 .i64 Try.underlying22 hi019 (some ad414) l0.length co16 x5_1 (oD_) q19 hroom19; have hr19 := Kd.C_take (m := (x5_1 : Int).toNat) hC19 (by omega); have hy19 : y419.length = (x5_1 : Int).toNat := (by rw [Ny419.out, List.length_take]; omega); rw [← Ny419.out] at hr19; rw [← hy19] at hcut19; have HR422 := Aside0.mk hr19; have HC422 := Aside0.mk (show y419.length ≤ co16 from by omega); clear hr19 hC19 hroom19 hi019 hsz19; have KY19 := Aside0.mk hy19; clear hy19; have KL19 := Aside0.mk (show (x5_1 : Int).toNat ≤ l0.length from by omega); replace q19 := eq_true q19) | ((with_reducible refine gate_builtin (b := .append) (xs := #[.tmp 34, .tmp 37]) rfl ?_); at_builtin; refine Kd.R_append_rows (Kd.int .i64) (w0 := w0) w0.heap.size rfl (.tmp 34) (.tmp 37) 22 2 (.int .i64 0) 8 rfl Try.underlying22 info2 rfl (by decide) (by omega) v417 y416 y419 _ _ _ (fun k_ => (P0_ k_ ∨ w.heap.size ≤ k_) ∧ some k_ ≠ (.slice (some ad414) l0.length co16 : Value).ownBlock) (fun _ => False) rfl rfl ?aO ?aR (fun _ _ h => h) (fun _ h => h.elim) ?aF ?aB ?aS ?aL ?_; (case aR => repeat (first | exact (by repeat (first | (with_reducible exact HR422.out) | (with_reducible refine Kd.C_alloc ?_ _) | (with_reducible refine Kd.C_drewN ?_ _) | (with_reducible refine Kd.C_drew ?_) | exact HR422.out)) | (with_reducible refine Kd.C_alloc ?_ _) | (with_reducible refine Kd.C_drewN ?_ _) | (with_reducible refine Kd.C_drew ?_))); (case aB => exact hB_); (case aF => exact (fun k_ hk => ⟨(.inr (Nat.le_trans (by first | exact HK.out.1 | exact (show Kept w _ (fun k_ => P0_ k_) from by repeat (first | (with_reducible first | exact HK.out | apply Kept.alloc | apply Kept.drewN | apply Kept.drew) | exact HK.out)).1) hk)), Kd.fresh' (Kd.R_lt rHO_0_) k_ hk⟩)); (case aO => exact (by (with_reducible repeat (first | apply Kd.R_alloc | apply Kd.R_drewN | apply Kd.R_drew)); exact Kd.R_mono HO418.out (fun _ hk => ⟨hk.1.1, hk.2⟩))); (case aS => exact (below_size hB_)); (case aL => have := LMc11.out; omega); intro v424 w20 ho hb hg hat; rw [← Ny423.out] at ho; have n0_ := Aside0.mk (Kd.R_after (ok := (fun k_ => (P0_ k_ ∨ w.heap.size ≤ k_))) rHO_0_ hg hat); have n1_ := Aside0.mk (hb); have n2_ := Aside0.mk (Kept.of_grown (S := (fun k_ => P0_ k_)) hg (by repeat (first | (with_reducible first | exact HK.out | apply Kept.alloc | apply Kept.drewN | apply Kept.drew) | exact HK.out)) (fun k_ e_ => (HO418.out.1 k_ e_).1.1)); have n3_ := Aside0.mk ((show Kd.C (Kd.int .i64) w20 (some ad414) y419.length y419 from by rw [Ny419.out]; exact Kd.C_take (m := (x5_1 : Int).toNat) ((Kd.R_reads' (Kd.R_after (ok := (fun k_ => (P0_ k_ ∨ w.heap.size ≤ k_))) rHO_0_ hg hat)).2.2) KL19.out)); have n4_ := Aside0.mk (ho); clear HO_0; clear HB; clear HK; clear HR422; clear HO418; have HO_0 := n0_; have HB := n1_; have HK := n2_; have HR422 := n3_; have HO425 := n4_; clear n0_ n1_ n2_ n3_ n4_; clear ho hb hg hat) | ((with_reducible refine gate_builtin (b := .append) (xs := #[.tmp 39, .tmp 41]) rfl ?_); at_builtin; refine Kd.R_append (Kd.int .i64) (w0 := w0) w0.heap.size rfl (.tmp 39) (.tmp 41) 22 2 (.int .i64 0) 8 rfl Try.underlying22 info2 rfl (by decide) (by omega) v424 y423 a1 [.int .i64 a1] (fun k_ => (P0_ k_ ∨ w.heap.size ≤ k_) ∧ some k_ ≠ (.slice (some ad414) l0.length co16 : Value).ownBlock) (fun _ => False) rfl rfl ?aP (fun _ hk => hk.elim) ?aF ?aO ?aB ?aS ?aL ?_; (case aP => exact rfl); (case aB => exact hB_); (case aF => exact (fun k_ hk => ⟨(.inr (Nat.le_trans (by first | exact HK.out.1 | exact (show Kept w _ (fun k_ => P0_ k_) from by repeat (first | (with_reducible first | exact HK.out | apply Kept.alloc | apply Kept.drewN | apply Kept.drew) | exact HK.out)).1) hk)), Kd.fresh' (Kd.R_lt rHO_0_) k_ hk⟩)); (case aO => exact rHO425_); (case aS => exact (below_size hB_)); (case aL => have := LMc12.out; omega); intro v427 w21 ho hb hg hat; rw [← Ny426.out] at ho; have n0_ := Aside0.mk (Kd.R_after (ok := (fun k_ => (P0_ k_ ∨ w.heap.size ≤ k_))) rHO_0_ hg hat); have n1_ := Aside0.mk (hb); have n2_ := Aside0.mk (Kept.of_grown (S := (fun k_ => P0_ k_)) hg (by repeat (first | (with_reducible first | exact HK.out | apply Kept.alloc | apply Kept.drewN | apply Kept.drew) | exact HK.out)) (fun k_ e_ => (HO425.out.1 k_ e_).1)); have n3_ := Aside0.mk ((show Kd.C (Kd.int .i64) w21 (some ad414) y419.length y419 from by rw [Ny419.out]; exact Kd.C_take (m := (x5_1 : Int).toNat) ((Kd.R_reads' (Kd.R_after (ok := (fun k_ => (P0_ k_ ∨ w.heap.size ≤ k_))) rHO_0_ hg hat)).2.2) KL19.out)); have n4_ := Aside0.mk (ho); clear HO_0; clear HB; clear HK; clear HR422; clear HO425; have HO_0 := n0_; have HB := n1_; have HK := n2_; have HR422 := n3_; have HO428 := n4_; clear n0_ n1_ n2_ n3_ n4_; clear ho hb hg hat; have q22 : (x5_1 : Int) ≤ ((l0.length : Int) : Int) := oD_; obtain ⟨i022, hi022, _, hsz22, _⟩ := info_parts info2; have hroom22 : l0.length ≤ co16 := (Kd.R_reads' HO_0.out).2.1; have hC22 : Kd.C (Kd.int .i64) _ (some ad414) l0.length l0 := (Kd.R_reads' HO_0.out).2.2; have q022 : (0 : Int) ≤ (x5_1 : Int) := oD_; have hcut22 := cut_from (P := Try.prog) 22 2 .i64 Try.underlying22 hi022 1 hsz22 (some ad414) l0.length co16 x5_1 q022 q22; have hr22 := Kd.C_drop (m := (x5_1 : Int).toNat) (c := co16) hC22 (by omega) hroom22; obtain ⟨A22, hA22⟩ : ∃ A1, A1 = (if co16 = (x5_1 : Int).toNat then (some ad414) else ((some ad414) : Option Addr).map (·.add ((x5_1 : Int).toNat * 1))) := ⟨_, rfl⟩; obtain ⟨c22, hc22⟩ : ∃ c1, c1 = co16 - (x5_1 : Int).toNat := ⟨_, rfl⟩; have hy22 : y429.length = l0.length - (x5_1 : Int).toNat := (by rw [Ny429.out, List.length_drop] <;> omega); rw [show (l0).drop (x5_1 : Int).toNat = y429 from Ny429.out.symm] at hr22; replace hr22 : Kd.C (Kd.int .i64) _ A22 y429.length y429 := (by rw [hA22]; exact hr22); rw [← hy22, ← hA22, ← hc22] at hcut22; have HR432 := Aside0.mk hr22; have HC432 := Aside0.mk (show y429.length ≤ c22 from by rw [hy22, hc22]; exact Nat.sub_le_sub_right hroom22 _); clear hr22 hC22 hroom22 hi022 hsz22 hc22; have KY22 := Aside0.mk hy22; have KA22 := Aside0.mk hA22; clear hy22 hA22; have KL22 := Aside0.mk (show (x5_1 : Int).toNat ≤ l0.length from by omega); replace q22 := eq_true q22) | ((with_reducible refine gate_builtin (b := .append) (xs := #[.tmp 43, .tmp 46]) rfl ?_); at_builtin; refine Kd.R_append_rows (Kd.int .i64) (w0 := w0) w0.heap.size rfl (.tmp 43) (.tmp 46) 22 2 (.int .i64 0) 8 rfl Try.underlying22 info2 rfl (by decide) (by omega) v427 y426 y429 _ _ _ (fun k_ => (P0_ k_ ∨ w.heap.size ≤ k_) ∧ some k_ ≠ (.slice (some ad414) l0.length co16 : Value).ownBlock) (fun _ => False) rfl rfl ?aO ?aR (fun _ _ h => h) (fun _ h => h.elim) ?aF ?aB ?aS ?aL ?_; (case aR => repeat (first | exact (by repeat (first | (with_reducible exact HR432.out) | (with_reducible refine Kd.C_alloc ?_ _) | (with_reducible refine Kd.C_drewN ?_ _) | (with_reducible refine Kd.C_drew ?_) | exact HR432.out)) | (with_reducible refine Kd.C_alloc ?_ _) | (with_reducible refine Kd.C_drewN ?_ _) | (with_reducible refine Kd.C_drew ?_))); (case aB => exact hB_); (case aF => exact (fun k_ hk => ⟨(.inr (Nat.le_trans (by first | exact HK.out.1 | exact (show Kept w _ (fun k_ => P0_ k_) from by repeat (first | (with_reducible first | exact HK.out | apply Kept.alloc | apply Kept.drewN | apply Kept.drew) | exact HK.out)).1) hk)), Kd.fresh' (Kd.R_lt rHO_0_) k_ hk⟩)); (case aO => exact rHO428_); (case aS => exact (below_size hB_)); (case aL => have := LMc15.out; omega); intro v434 w23 ho hb hg hat; rw [← Ny433.out] at ho; have n0_ := Aside0.mk (Kd.R_after (ok := (fun k_ => (P0_ k_ ∨ w.heap.size ≤ k_))) rHO_0_ hg hat); have n1_ := Aside0.mk (hb); have n2_ := Aside0.mk (Kept.of_grown (S := (fun k_ => P0_ k_)) hg (by repeat (first | (with_reducible first | exact HK.out | apply Kept.alloc | apply Kept.drewN | apply Kept.drew) | exact HK.out)) (fun k_ e_ => (HO428.out.1 k_ e_).1)); have n3_ := Aside0.mk ((show Kd.C (Kd.int .i64) w23 (some ad414) y419.length y419 from by rw [Ny419.out]; exact Kd.C_take (m := (x5_1 : Int).toNat) ((Kd.R_reads' (Kd.R_after (ok := (fun k_ => (P0_ k_ ∨ w.heap.size ≤ k_))) rHO_0_ hg hat)).2.2) KL19.out)); have n4_ := Aside0.mk ((show Kd.C (Kd.int .i64) w23 A22 y429.length y429 from by rw [Ny429.out, KA22.out]; exact Kd.C_drop (m := (x5_1 : Int).toNat) (c := co16) ((Kd.R_reads' (Kd.R_after (ok := (fun k_ => (P0_ k_ ∨ w.heap.size ≤ k_))) rHO_0_ hg hat)).2.2) KL22.out ((Kd.R_reads' (Kd.R_after (ok := (fun k_ => (P0_ k_ ∨ w.heap.size ≤ k_))) rHO_0_ hg hat)).2.1))); have n5_ := Aside0.mk (ho); clear HO_0; clear HB; clear HK; clear HR422; clear HR432; clear HO428; have HO_0 := n0_; have HB := n1_; have HK := n2_; have HR422 := n3_; have HR432 := n4_; have HO435 := n5_; clear n0_ n1_ n2_ n3_ n4_ n5_; clear ho hb hg hat))
           go_ret
           exact ⟨_, rG_, by (with_reducible repeat (first | apply Kd.R_alloc | apply Kd.R_drewN | apply Kd.R_drew)); exact Kd.R_mono HO435.out (fun _ hk => hk.1), hB_, by repeat (first | (with_reducible first | exact HK.out | apply Kept.alloc | apply Kept.drewN | apply Kept.drew) | exact HK.out)⟩
          ·rw [if_neg c15] at H
           exact absurd H (by simp)
         ·rw [if_neg c12] at H
          exact absurd H (by simp)
        ·rw [if_neg c11] at H
         exact absurd H (by simp)
       ·rw [if_neg c10] at H
        exact absurd H (by simp)
    ·rw [if_neg c4] at H
     exact absurd H (by simp)
   ·rw [if_neg c3] at H
    have c3b0 : decide (x5_1 < (l0.length : Int)) = false := decide_eq_false c3
    clear c3
    obtain ⟨y436, hy436⟩ : ∃ y_ : List Int, y_ = (([] : List Int)) := ⟨_, rfl⟩
    replace H : (if 0 ≤ x5_1 then (if x5_1 ≤ (l0.length : Int) then ((some (l0.take (x5_1 : Int).toNat : List Int)).bind fun y439 => (if y436.length + y439.length < 17592186044416 then ((some (y436 ++ y439 : List Int)).bind fun y443 => (if y443.length < 17592186044416 then ((some (y443 ++ [a1] : List Int)).bind fun y446 => ((some (l0.drop (x5_1 : Int).toNat : List Int)).bind fun y449 => (if y446.length + y449.length < 17592186044416 then (some (y446 ++ y449)) else (none)))) else (none))) else (none))) else (none)) else (none)) = some r := by first | (rw [hy436]; with_reducible exact H) | (have H2_ := (Option.bind_some _ _).symm.trans H; rw [hy436]; with_reducible exact H2_) | (have H2_ := (Option.bind_some _ _).symm.trans H; with_reducible exact H2_) | with_reducible exact H | (rw [hy436]; exact H) | exact H
    have Ny436 := Aside0.mk hy436
    clear hy436
    by_cases c24 : 0 ≤ x5_1
    ·rw [if_pos c24] at H
     have c24b0 := eq_true c24
     have c24b1 : decide (0 ≤ x5_1) = true := decide_eq_true c24
     clear c24
     by_cases c25 : x5_1 ≤ (l0.length : Int)
     ·rw [if_pos c25] at H
      have c25b0 := eq_true c25
      have c25b1 : decide (x5_1 ≤ (l0.length : Int)) = true := decide_eq_true c25
      clear c25
      obtain ⟨y439, hy439⟩ : ∃ y_ : List Int, y_ = (l0.take (x5_1 : Int).toNat) := ⟨_, rfl⟩
      replace H : (if y436.length + y439.length < 17592186044416 then ((some (y436 ++ y439 : List Int)).bind fun y443 => (if y443.length < 17592186044416 then ((some (y443 ++ [a1] : List Int)).bind fun y446 => ((some (l0.drop (x5_1 : Int).toNat : List Int)).bind fun y449 => (if y446.length + y449.length < 17592186044416 then (some (y446 ++ y449)) else (none)))) else (none))) else (none)) = some r := by first | (rw [hy439]; with_reducible exact H) | (have H2_ := (Option.bind_some _ _).symm.trans H; rw [hy439]; with_reducible exact H2_) | (have H2_ := (Option.bind_some _ _).symm.trans H; with_reducible exact H2_) | with_reducible exact H | (rw [hy439]; exact H) | exact H
      have Ny439 := Aside0.mk hy439
      clear hy439
      by_cases c26 : y436.length + y439.length < 17592186044416
      ·rw [if_pos c26] at H
       have LMc26 := Aside0.mk c26
       clear c26
       obtain ⟨y443, hy443⟩ : ∃ y_ : List Int, y_ = (y436 ++ y439) := ⟨_, rfl⟩
       replace H : (if y443.length < 17592186044416 then ((some (y443 ++ [a1] : List Int)).bind fun y446 => ((some (l0.drop (x5_1 : Int).toNat : List Int)).bind fun y449 => (if y446.length + y449.length < 17592186044416 then (some (y446 ++ y449)) else (none)))) else (none)) = some r := by first | (rw [hy443]; with_reducible exact H) | (have H2_ := (Option.bind_some _ _).symm.trans H; rw [hy443]; with_reducible exact H2_) | (have H2_ := (Option.bind_some _ _).symm.trans H; with_reducible exact H2_) | with_reducible exact H | (rw [hy443]; exact H) | exact H
       have Ny443 := Aside0.mk hy443
       clear hy443
       by_cases c27 : y443.length < 17592186044416
       ·rw [if_pos c27] at H
        have LMc27 := Aside0.mk c27
        clear c27
        obtain ⟨y446, hy446⟩ : ∃ y_ : List Int, y_ = (y443 ++ [a1]) := ⟨_, rfl⟩
        replace H : ((some (l0.drop (x5_1 : Int).toNat : List Int)).bind fun y449 => (if y446.length + y449.length < 17592186044416 then (some (y446 ++ y449)) else (none))) = some r := by first | (rw [hy446]; with_reducible exact H) | (have H2_ := (Option.bind_some _ _).symm.trans H; rw [hy446]; with_reducible exact H2_) | (have H2_ := (Option.bind_some _ _).symm.trans H; with_reducible exact H2_) | with_reducible exact H | (rw [hy446]; exact H) | exact H
        have Ny446 := Aside0.mk hy446
        clear hy446
        have c28b0 := eq_true (oD_ : 0 ≤ x5_1)
        have c29b0 := eq_true (oD_ : x5_1 ≤ (l0.length : Int))
        obtain ⟨y449, hy449⟩ : ∃ y_ : List Int, y_ = (l0.drop (x5_1 : Int).toNat) := ⟨_, rfl⟩
        replace H : (if y446.length + y449.length < 17592186044416 then (some (y446 ++ y449)) else (none)) = some r := by first | (rw [hy449]; with_reducible exact H) | (have H2_ := (Option.bind_some _ _).symm.trans H; rw [hy449]; with_reducible exact H2_) | (have H2_ := (Option.bind_some _ _).symm.trans H; with_reducible exact H2_) | with_reducible exact H | (rw [hy449]; exact H) | exact H
        have Ny449 := Aside0.mk hy449
        clear hy449
        by_cases c30 : y446.length + y449.length < 17592186044416
        ·rw [if_pos c30] at H
         have LMc30 := Aside0.mk c30
         clear c30
         obtain ⟨y453, hy453⟩ : ∃ y_ : List Int, y_ = (y446 ++ y449) := ⟨_, rfl⟩
         replace H : (some y453) = some r := by first | (rw [hy453]; with_reducible exact H) | (have H2_ := (Option.bind_some _ _).symm.trans H; rw [hy453]; with_reducible exact H2_) | (have H2_ := (Option.bind_some _ _).symm.trans H; with_reducible exact H2_) | with_reducible exact H | (rw [hy453]; exact H) | exact H
         have Ny453 := Aside0.mk hy453
         clear hy453
         obtain rfl := Option.some.inj H
         obtain ⟨Ao31, co31, eo31⟩ := Kd.R_slice HO_0.out
         subst eo31
         go_wp2_with (first | ((with_reducible refine gate_dst (N := 34) rfl ?_); refine Kd.R_lit (Kd.int .i64) _ 2 ?hg (N := 34) ?hd (xs := ([] : List Int)) (inner := []) (ok := fun _ => True) (okp := fun _ => True) ?hr ?hp (fun _ hk => hk) trivial (Below.refl _ _) (Nat.le_refl _) (by simp) ?_; (case hd => rfl); (case hg => rfl); (case hr => first | (go_simp; done) | (go_simp; rfl)); (case hp => exact (Reps.none _ _)); intro v437 w32 ho33 hb hg_ hnew_; clear hg_ hnew_; (first | rw [← Ny436.out] at ho33 | (simp only [Int.reduceToNat] at ho33; rw [← Ny436.out] at ho33)); have n0_ := Aside0.mk (Kd.R_elder' rHO_0_ (Kd.R_base ho33) hb); have n1_ := Aside0.mk (Kd.R_lower (Kd.R_new' (Kd.R_newM (M := fun k_ => (P0_ k_ ∨ w.heap.size ≤ k_)) ho33 (by first | exact HK.out.1 | exact (show Kept w _ (fun k_ => P0_ k_) from by repeat (first | (with_reducible first | exact HK.out | apply Kept.alloc | apply Kept.drewN | apply Kept.drew) | exact HK.out)).1) (fun k_ h_ => .inr h_)) (Kd.R_lt rHO_0_)) (below_size hB_)); have n2_ := Aside0.mk (Kept.below (S := (fun k_ => P0_ k_)) (by repeat (first | (with_reducible first | exact HK.out | apply Kept.alloc | apply Kept.drewN | apply Kept.drew) | exact HK.out)) hb); have n3_ := Aside0.mk (below_step hB_ hb); clear HO_0; clear HK; clear HB; have HO_0 := n0_; have HO438 := n1_; have HK := n2_; have HB := n3_; clear n0_ n1_ n2_ n3_; clear hb ho33; have q34 : (x5_1 : Int) ≤ ((l0.length : Int) : Int) := oD_; obtain ⟨i034, hi034, _, hsz34, _⟩ := info_parts info2; have hroom34 : l0.length ≤ co31 := (Kd.R_reads' HO_0.out).2.1; have hC34 : Kd.C (Kd.int .i64) _ Ao31 l0.length l0 := (Kd.R_reads' HO_0.out).2.2; have hcut34 := cut_to (P := Try.prog) 22 2 .i64 Try.underlying22 hi034 Ao31 l0.length co31 x5_1 (oD_) q34 hroom34; have hr34 := Kd.C_take (m := (x5_1 : Int).toNat) hC34 (by omega); have hy34 : y439.length = (x5_1 : Int).toNat := (by rw [Ny439.out, List.length_take]; omega); rw [← Ny439.out] at hr34; rw [← hy34] at hcut34; have HR442 := Aside0.mk hr34; have HC442 := Aside0.mk (show y439.length ≤ co31 from by omega); clear hr34 hC34 hroom34 hi034 hsz34; have KY34 := Aside0.mk hy34; clear hy34; have KL34 := Aside0.mk (show (x5_1 : Int).toNat ≤ l0.length from by omega); replace q34 := eq_true q34) | ((with_reducible refine gate_builtin (b := .append) (xs := #[.tmp 34, .tmp 37]) rfl ?_); at_builtin; refine Kd.R_append_rows (Kd.int .i64) (w0 := w0) w0.heap.size rfl (.tmp 34) (.tmp 37) 22 2 (.int .i64 0) 8 rfl Try.underlying22 info2 rfl (by decide) (by omega) v437 y436 y439 _ _ _ (fun k_ => (P0_ k_ ∨ w.heap.size ≤ k_) ∧ some k_ ≠ (.slice Ao31 l0.length co31 : Value).ownBlock) (fun _ => False) rfl rfl ?aO ?aR (fun _ _ h => h) (fun _ h => h.elim) ?aF ?aB ?aS ?aL ?_; (case aR => repeat (first | exact (by repeat (first | (with_reducible exact HR442.out) | (with_reducible refine Kd.C_alloc ?_ _) | (with_reducible refine Kd.C_drewN ?_ _) | (with_reducible refine Kd.C_drew ?_) | exact HR442.out)) | (with_reducible refine Kd.C_alloc ?_ _) | (with_reducible refine Kd.C_drewN ?_ _) | (with_reducible refine Kd.C_drew ?_))); (case aB => exact hB_); (case aF => exact (fun k_ hk => ⟨(.inr (Nat.le_trans (by first | exact HK.out.1 | exact (show Kept w _ (fun k_ => P0_ k_) from by repeat (first | (with_reducible first | exact HK.out | apply Kept.alloc | apply Kept.drewN | apply Kept.drew) | exact HK.out)).1) hk)), Kd.fresh' (Kd.R_lt rHO_0_) k_ hk⟩)); (case aO => exact (by (with_reducible repeat (first | apply Kd.R_alloc | apply Kd.R_drewN | apply Kd.R_drew)); exact Kd.R_mono HO438.out (fun _ hk => ⟨hk.1.1, hk.2⟩))); (case aS => exact (below_size hB_)); (case aL => have := LMc26.out; omega); intro v444 w35 ho hb hg hat; rw [← Ny443.out] at ho; have n0_ := Aside0.mk (Kd.R_after (ok := (fun k_ => (P0_ k_ ∨ w.heap.size ≤ k_))) rHO_0_ hg hat); have n1_ := Aside0.mk (hb); have n2_ := Aside0.mk (Kept.of_grown (S := (fun k_ => P0_ k_)) hg (by repeat (first | (with_reducible first | exact HK.out | apply Kept.alloc | apply Kept.drewN | apply Kept.drew) | exact HK.out)) (fun k_ e_ => (HO438.out.1 k_ e_).1.1)); have n3_ := Aside0.mk ((show Kd.C (Kd.int .i64) w35 Ao31 y439.length y439 from by rw [Ny439.out]; exact Kd.C_take (m := (x5_1 : Int).toNat) ((Kd.R_reads' (Kd.R_after (ok := (fun k_ => (P0_ k_ ∨ w.heap.size ≤ k_))) rHO_0_ hg hat)).2.2) KL34.out)); have n4_ := Aside0.mk (ho); clear HO_0; clear HB; clear HK; clear HR442; clear HO438; have HO_0 := n0_; have HB := n1_; have HK := n2_; have HR442 := n3_; have HO445 := n4_; clear n0_ n1_ n2_ n3_ n4_; clear ho hb hg hat) | ((with_reducible refine gate_builtin (b := .append) (xs := #[.tmp 39, .tmp 41]) rfl ?_); at_builtin; refine Kd.R_append (Kd.int .i64) (w0 := w0) w0.heap.size rfl (.tmp 39) (.tmp 41) 22 2 (.int .i64 0) 8 rfl Try.underlying22 info2 rfl (by decide) (by omega) v444 y443 a1 [.int .i64 a1] (fun k_ => (P0_ k_ ∨ w.heap.size ≤ k_) ∧ some k_ ≠ (.slice Ao31 l0.length co31 : Value).ownBlock) (fun _ => False) rfl rfl ?aP (fun _ hk => hk.elim) ?aF ?aO ?aB ?aS ?aL ?_; (case aP => exact rfl); (case aB => exact hB_); (case aF => exact (fun k_ hk => ⟨(.inr (Nat.le_trans (by first | exact HK.out.1 | exact (show Kept w _ (fun k_ => P0_ k_) from by repeat (first | (with_reducible first | exact HK.out | apply Kept.alloc | apply Kept.drewN | apply Kept.drew) | exact HK.out)).1) hk)), Kd.fresh' (Kd.R_lt rHO_0_) k_ hk⟩)); (case aO => exact rHO445_); (case aS => exact (below_size hB_)); (case aL => have := LMc27.out; omega); intro v447 w36 ho hb hg hat; rw [← Ny446.out] at ho; have n0_ := Aside0.mk (Kd.R_after (ok := (fun k_ => (P0_ k_ ∨ w.heap.size ≤ k_))) rHO_0_ hg hat); have n1_ := Aside0.mk (hb); have n2_ := Aside0.mk (Kept.of_grown (S := (fun k_ => P0_ k_)) hg (by repeat (first | (with_reducible first | exact HK.out | apply Kept.alloc | apply Kept.drewN | apply Kept.drew) | exact HK.out)) (fun k_ e_ => (HO445.out.1 k_ e_).1)); have n3_ := Aside0.mk ((show Kd.C (Kd.int .i64) w36 Ao31 y439.length y439 from by rw [Ny439.out]; exact Kd.C_take (m := (x5_1 : Int).toNat) ((Kd.R_reads' (Kd.R_after (ok := (fun k_ => (P0_ k_ ∨ w.heap.size ≤ k_))) rHO_0_ hg hat)).2.2) KL34.out)); have n4_ := Aside0.mk (ho); clear HO_0; clear HB; clear HK; clear HR442; clear HO445; have HO_0 := n0_; have HB := n1_; have HK := n2_; have HR442 := n3_; have HO448 := n4_; clear n0_ n1_ n2_ n3_ n4_; clear ho hb hg hat; have q37 : (x5_1 : Int) ≤ ((l0.length : Int) : Int) := oD_; obtain ⟨i037, hi037, _, hsz37, _⟩ := info_parts info2; have hroom37 : l0.length ≤ co31 := (Kd.R_reads' HO_0.out).2.1; have hC37 : Kd.C (Kd.int .i64) _ Ao31 l0.length l0 := (Kd.R_reads' HO_0.out).2.2; have q037 : (0 : Int) ≤ (x5_1 : Int) := oD_; have hcut37 := cut_from (P := Try.prog) 22 2 .i64 Try.underlying22 hi037 1 hsz37 Ao31 l0.length co31 x5_1 q037 q37; have hr37 := Kd.C_drop (m := (x5_1 : Int).toNat) (c := co31) hC37 (by omega) hroom37; obtain ⟨A37, hA37⟩ : ∃ A1, A1 = (if co31 = (x5_1 : Int).toNat then Ao31 else (Ao31 : Option Addr).map (·.add ((x5_1 : Int).toNat * 1))) := ⟨_, rfl⟩; obtain ⟨c37, hc37⟩ : ∃ c1, c1 = co31 - (x5_1 : Int).toNat := ⟨_, rfl⟩; have hy37 : y449.length = l0.length - (x5_1 : Int).toNat := (by rw [Ny449.out, List.length_drop] <;> omega); rw [show (l0).drop (x5_1 : Int).toNat = y449 from Ny449.out.symm] at hr37; replace hr37 : Kd.C (Kd.int .i64) _ A37 y449.length y449 := (by rw [hA37]; exact hr37); rw [← hy37, ← hA37, ← hc37] at hcut37; have HR452 := Aside0.mk hr37; have HC452 := Aside0.mk (show y449.length ≤ c37 from by rw [hy37, hc37]; exact Nat.sub_le_sub_right hroom37 _); clear hr37 hC37 hroom37 hi037 hsz37 hc37; have KY37 := Aside0.mk hy37; have KA37 := Aside0.mk hA37; clear hy37 hA37; have KL37 := Aside0.mk (show (x5_1 : Int).toNat ≤ l0.length from by omega); replace q37 := eq_true q37) | ((with_reducible refine gate_builtin (b := .append) (xs := #[.tmp 43, .tmp 46]) rfl ?_); at_builtin; refine Kd.R_append_rows (Kd.int .i64) (w0 := w0) w0.heap.size rfl (.tmp 43) (.tmp 46) 22 2 (.int .i64 0) 8 rfl Try.underlying22 info2 rfl (by decide) (by omega) v447 y446 y449 _ _ _ (fun k_ => (P0_ k_ ∨ w.heap.size ≤ k_) ∧ some k_ ≠ (.slice Ao31 l0.length co31 : Value).ownBlock) (fun _ => False) rfl rfl ?aO ?aR (fun _ _ h => h) (fun _ h => h.elim) ?aF ?aB ?aS ?aL ?_; (case aR => repeat (first | exact (by repeat (first | (with_reducible exact HR452.out) | (with_reducible refine Kd.C_alloc ?_ _) | (with_reducible refine Kd.C_drewN ?_ _) | (with_reducible refine Kd.C_drew ?_) | exact HR452.out)) | (with_reducible refine Kd.C_alloc ?_ _) | (with_reducible refine Kd.C_drewN ?_ _) | (with_reducible refine Kd.C_drew ?_))); (case aB => exact hB_); (case aF => exact (fun k_ hk => ⟨(.inr (Nat.le_trans (by first | exact HK.out.1 | exact (show Kept w _ (fun k_ => P0_ k_) from by repeat (first | (with_reducible first | exact HK.out | apply Kept.alloc | apply Kept.drewN | apply Kept.drew) | exact HK.out)).1) hk)), Kd.fresh' (Kd.R_lt rHO_0_) k_ hk⟩)); (case aO => exact rHO448_); (case aS => exact (below_size hB_)); (case aL => have := LMc30.out; omega); intro v454 w38 ho hb hg hat; rw [← Ny453.out] at ho; have n0_ := Aside0.mk (Kd.R_after (ok := (fun k_ => (P0_ k_ ∨ w.heap.size ≤ k_))) rHO_0_ hg hat); have n1_ := Aside0.mk (hb); have n2_ := Aside0.mk (Kept.of_grown (S := (fun k_ => P0_ k_)) hg (by repeat (first | (with_reducible first | exact HK.out | apply Kept.alloc | apply Kept.drewN | apply Kept.drew) | exact HK.out)) (fun k_ e_ => (HO448.out.1 k_ e_).1)); have n3_ := Aside0.mk ((show Kd.C (Kd.int .i64) w38 Ao31 y439.length y439 from by rw [Ny439.out]; exact Kd.C_take (m := (x5_1 : Int).toNat) ((Kd.R_reads' (Kd.R_after (ok := (fun k_ => (P0_ k_ ∨ w.heap.size ≤ k_))) rHO_0_ hg hat)).2.2) KL34.out)); have n4_ := Aside0.mk ((show Kd.C (Kd.int .i64) w38 A37 y449.length y449 from by rw [Ny449.out, KA37.out]; exact Kd.C_drop (m := (x5_1 : Int).toNat) (c := co31) ((Kd.R_reads' (Kd.R_after (ok := (fun k_ => (P0_ k_ ∨ w.heap.size ≤ k_))) rHO_0_ hg hat)).2.2) KL37.out ((Kd.R_reads' (Kd.R_after (ok := (fun k_ => (P0_ k_ ∨ w.heap.size ≤ k_))) rHO_0_ hg hat)).2.1))); have n5_ := Aside0.mk (ho); clear HO_0; clear HB; clear HK; clear HR442; clear HR452; clear HO448; have HO_0 := n0_; have HB := n1_; have HK := n2_; have HR442 := n3_; have HR452 := n4_; have HO455 := n5_; clear n0_ n1_ n2_ n3_ n4_ n5_; clear ho hb hg hat))
         go_ret
         exact ⟨_, rG_, by (with_reducible repeat (first | apply Kd.R_alloc | apply Kd.R_drewN | apply Kd.R_drew)); exact Kd.R_mono HO455.out (fun _ hk => hk.1), hB_, by repeat (first | (with_reducible first | exact HK.out | apply Kept.alloc | apply Kept.drewN | apply Kept.drew) | exact HK.out)⟩
        ·rw [if_neg c30] at H
         exact absurd H (by simp)
       ·rw [if_neg c27] at H
        exact absurd H (by simp)
      ·rw [if_neg c26] at H
       exact absurd H (by simp)
     ·rw [if_neg c25] at H
      exact absurd H (by simp)
    ·rw [if_neg c24] at H
     exact absurd H (by simp)
/-! ### spec_l3Reach: function 106 -/
mutual
def spec_l3Reach.l0 : Nat → Int → List Int → List Int → List Int → Int → List (S88) → Option (List Int)
 | 0, _, _, _, _, _, _ => none
 | k + 1, x1, x5, x6, x457000, x457001, x457002 => if (x6.length : Int) > 0 then (if 0 < (x6.length : Int) then (if 1 ≤ (x6.length : Int) then ((spec_l1Copy.f (x6.drop 1)).bind fun t468 => (if (rd x6 0) = x1 then (spec_l3Reach.j1 k x1 x5 t468 (rd x6 0) true x457000 x457001 x457002) else ((spec_l1Has.f k x5 (rd x6 0)).bind fun t471 => (spec_l3Reach.j1 k x1 x5 t468 (rd x6 0) t471 x457000 x457001 x457002)))) else (none)) else (none)) else (some x5)
def spec_l3Reach.j1 : Nat → Int → List Int → List Int → Int → Bool → List Int → Int → List (S88) → Option (List Int)
 | 0, _, _, _, _, _, _, _, _ => none
 | k + 1, x1, x5, x6, x7, x29, x457000, x457001, x457002 => if x29 = true then (spec_l3Reach.l0 k x1 x5 x6 x457000 x457001 x457002) else ((spec_l1Put.f k x5 x7).bind fun t472 => ((spec_l3Succs.f x457000 x457001 x457002 x7).bind fun t475 => (if x6.length + t475.length < 17592186044416 then (spec_l3Reach.l0 k x1 t472 (x6 ++ t475) x457000 x457001 x457002) else (none))))
end
def spec_l3Reach.f (k : Nat) (l0_0 : List Int) (a0_1 : Int) (l0_2 : List (S88)) (a1 : Int) : Option (List Int) := (some (([] : List Int) : List Int)).bind fun y457 => (if a1 = 0 then (some y457) else (spec_l3Reach.l0 k a1 y457 (([0] : List Int)) l0_0 a0_1 l0_2))
theorem spec_l3Reach.mono_l : ∀ k, (∀ y0 y1 y2 y3 y4 y5, LeO (spec_l3Reach.l0 k y0 y1 y2 y3 y4 y5) (spec_l3Reach.l0 (k + 1) y0 y1 y2 y3 y4 y5)) ∧ (∀ y0 y1 y2 y3 y4 y5 y6 y7, LeO (spec_l3Reach.j1 k y0 y1 y2 y3 y4 y5 y6 y7) (spec_l3Reach.j1 (k + 1) y0 y1 y2 y3 y4 y5 y6 y7))
 | 0 => ⟨fun _ _ _ _ _ _ r h => by simp [spec_l3Reach.l0] at h, fun _ _ _ _ _ _ _ _ r h => by simp [spec_l3Reach.j1] at h⟩
 | k + 1 => by
  obtain ⟨ih0, ih1⟩ := spec_l3Reach.mono_l k
  refine ⟨?_, ?_⟩
  ·intro y0 y1 y2 y3 y4 y5
   unfold spec_l3Reach.l0
   repeat' first
   | (with_reducible exact ih0 _ _ _ _ _ _)
   | (with_reducible exact ih1 _ _ _ _ _ _ _ _)
   | (with_reducible exact spec_l1Has.mono _ _ _)
   | (with_reducible exact spec_l1Put.mono _ _ _)
   | (with_reducible exact LeO.refl _)
   | (with_reducible exact LeO.none _)
   | (with_reducible refine LeO.ite ?_ ?_)
   | (with_reducible refine LeO.bind ?_ (fun _ => ?_))
   | exact ih0 _ _ _ _ _ _
   | exact ih1 _ _ _ _ _ _ _ _
   | exact spec_l1Has.mono _ _ _
   | exact spec_l1Put.mono _ _ _
   | exact LeO.none _
   | refine LeO.ite ?_ ?_
   | refine LeO.bind ?_ (fun _ => ?_)
  ·intro y0 y1 y2 y3 y4 y5 y6 y7
   unfold spec_l3Reach.j1
   repeat' first
   | (with_reducible exact ih0 _ _ _ _ _ _)
   | (with_reducible exact ih1 _ _ _ _ _ _ _ _)
   | (with_reducible exact spec_l1Has.mono _ _ _)
   | (with_reducible exact spec_l1Put.mono _ _ _)
   | (with_reducible exact LeO.refl _)
   | (with_reducible exact LeO.none _)
   | (with_reducible refine LeO.ite ?_ ?_)
   | (with_reducible refine LeO.bind ?_ (fun _ => ?_))
   | exact ih0 _ _ _ _ _ _
   | exact ih1 _ _ _ _ _ _ _ _
   | exact spec_l1Has.mono _ _ _
   | exact spec_l1Put.mono _ _ _
   | exact LeO.none _
   | refine LeO.ite ?_ ?_
   | refine LeO.bind ?_ (fun _ => ?_)
theorem spec_l3Reach.mono : ∀ a0 a1 a2 a3 k, LeO (spec_l3Reach.f k a0 a1 a2 a3) (spec_l3Reach.f (k + 1) a0 a1 a2 a3) := by
 intro a0 a1 a2 a3 k
 obtain ⟨ih0, ih1⟩ := spec_l3Reach.mono_l k
 unfold spec_l3Reach.f
 repeat' first
   | (with_reducible exact ih0 _ _ _ _ _ _)
   | (with_reducible exact ih1 _ _ _ _ _ _ _ _)
   | (with_reducible exact spec_l1Has.mono _ _ _)
   | (with_reducible exact spec_l1Put.mono _ _ _)
   | (with_reducible exact LeO.refl _)
   | (with_reducible exact LeO.none _)
   | (with_reducible refine LeO.ite ?_ ?_)
   | (with_reducible refine LeO.bind ?_ (fun _ => ?_))
   | exact ih0 _ _ _ _ _ _
   | exact ih1 _ _ _ _ _ _ _ _
   | exact spec_l1Has.mono _ _ _
   | exact spec_l1Put.mono _ _ _
   | exact LeO.none _
   | refine LeO.ite ?_ ?_
   | refine LeO.bind ?_ (fun _ => ?_)
set_option maxHeartbeats 8000000 in
set_option maxRecDepth 100000 in
theorem spec_l3Reach.calls (k : Nat) (A0_0 : Option Addr) (c0_0 : Nat) (l0_0 : List Int) (a0_1 : Int) (A0_2 : Option Addr) (c0_2 : Nat) (l0_2 : List (S88)) (a1 : Int) (r : List Int) (w : World) (hr0_0 : Kd.C (Kd.int .i64) w A0_0 l0_0.length l0_0) (hc0_0 : l0_0.length ≤ c0_0) (hr0_2 : Kd.C k88 w A0_2 l0_2.length l0_2) (hc0_2 : l0_2.length ≤ c0_2) (h : spec_l3Reach.f k l0_0 a0_1 l0_2 a1 = some r) :
  Calls Try.prog 106 #[.agg #[.slice A0_0 l0_0.length c0_0, .int .i64 a0_1, .slice A0_2 l0_2.length c0_2], .int .i64 a1] w fun e w' => ∃ v0_ : Value, e = .returned (v0_) ∧ Kd.R (Kd.int .i64) 2 w' w.heap.size (fun _ => True) v0_ r ∧ Below w.heap.size w w' := by
 have hu41 := Try.underlying41
 have HR0_0 := Aside0.mk hr0_0
 have HC0_0 := Aside0.mk hc0_0
 clear hr0_0 hc0_0
 have HR0_2 := Aside0.mk hr0_2
 have HC0_2 := Aside0.mk hc0_2
 clear hr0_2 hc0_2
 have HB := Aside0.mk (Below.refl w.heap.size w)
 have H : ((some (([] : List Int) : List Int)).bind fun y457 => (if a1 = 0 then (some y457) else (spec_l3Reach.l0 k a1 y457 (([0] : List Int)) l0_0 a0_1 l0_2))) = some r := h
 clear h
 obtain ⟨y457, hy457⟩ : ∃ y_ : List Int, y_ = (([] : List Int)) := ⟨_, rfl⟩
 replace H : (if a1 = 0 then (some y457) else (spec_l3Reach.l0 k a1 y457 (([0] : List Int)) l0_0 a0_1 l0_2)) = some r := by first | (rw [hy457]; with_reducible exact H) | (have H2_ := (Option.bind_some _ _).symm.trans H; rw [hy457]; with_reducible exact H2_) | (have H2_ := (Option.bind_some _ _).symm.trans H; with_reducible exact H2_) | with_reducible exact H | (rw [hy457]; exact H) | exact H
 have Ny457 := Aside0.mk hy457
 clear hy457
 by_cases c3 : a1 = 0
 ·rw [if_pos c3] at H
  have c3b0 : (a1 == 0) = true := beq_iff_eq.mpr c3
  have c3b1 : (a1 != 0) = false := bne_eq_false_iff_eq.mpr c3
  clear c3
  obtain rfl := Option.some.inj H
  go_enter Try.func106, Try.ntmps106
  go_wp2_with (first | ((with_reducible refine gate_dst (N := 2) rfl ?_); refine box_event ?hg (N := 2) ?hd (cs := #[.slice A0_0 l0_0.length c0_0, .int .i64 a0_1, .slice A0_2 l0_2.length c0_2]) (t := 41) ?hr ?_; (case hd => rfl); (case hg => rfl); (case hr => first | (go_simp; done) | (go_simp; rfl)); intro gb456 hg w4 hbox hb; have n0_ := Aside0.mk (below_step hB_ hb); have n1_ := Aside0.mk (hbox); have n2_ := Aside0.mk ((sz_ hg (below_size hB_) : w.heap.size ≤ gb456)); have n3_ := Aside0.mk ((sz_ hg (below_size hB_) : w.heap.size ≤ gb456)); clear HB; have HB := n0_; have BK456 := n1_; have GW456 := n2_; have GE456 := n3_; clear n0_ n1_ n2_ n3_; clear hb hbox hg) | ((with_reducible refine gate_dst (N := 8) rfl ?_); refine Kd.R_lit (Kd.int .i64) _ 2 ?hg (N := 8) ?hd (xs := ([] : List Int)) (inner := []) (ok := fun _ => True) (okp := fun _ => True) ?hr ?hp (fun _ hk => hk) trivial (Below.refl _ _) (Nat.le_refl _) (by simp) ?_; (case hd => rfl); (case hg => rfl); (case hr => first | (go_simp; done) | (go_simp; rfl)); (case hp => exact (Reps.none _ _)); intro v458 w5 ho6 hb hg_ hnew_; clear hg_ hnew_; (first | rw [← Ny457.out] at ho6 | (simp only [Int.reduceToNat] at ho6; rw [← Ny457.out] at ho6)); have n0_ := Aside0.mk (Kd.R_lower ho6 (below_size hS_)); have n1_ := Aside0.mk (blk_below (g := gb456) (o := .cells #[.slice A0_0 l0_0.length c0_0, .int .i64 a0_1, .slice A0_2 l0_2.length c0_2] 41 (0, 0)) bK456_ hb); have n2_ := Aside0.mk (below_step hS_ hb); clear BK456; clear HB; have HO459 := n0_; have BK456 := n1_; have HB := n2_; clear n0_ n1_ n2_; clear hb ho6))
  go_ret
  exact ⟨_, rG_, rHO459_, hS_⟩
 ·rw [if_neg c3] at H
  have c3b0 : (a1 == 0) = false := beq_eq_false_iff_ne.mpr c3
  have c3b1 : (a1 != 0) = true := bne_iff_ne.mpr c3
  obtain ⟨y460, hy460⟩ : ∃ y_ : List Int, y_ = (([0] : List Int)) := ⟨_, rfl⟩
  replace H : (spec_l3Reach.l0 k a1 y457 y460 l0_0 a0_1 l0_2) = some r := by first | (rw [hy460]; with_reducible exact H) | (have H2_ := (Option.bind_some _ _).symm.trans H; rw [hy460]; with_reducible exact H2_) | (have H2_ := (Option.bind_some _ _).symm.trans H; with_reducible exact H2_) | with_reducible exact H | (rw [hy460]; exact H) | exact H
  have Ny460 := Aside0.mk hy460
  clear hy460
  have H' := Aside0.mk H
  clear H
  go_enter Try.func106, Try.ntmps106
  go_wp2_with (first | ((with_reducible refine gate_dst (N := 2) rfl ?_); refine box_event ?hg (N := 2) ?hd (cs := #[.slice A0_0 l0_0.length c0_0, .int .i64 a0_1, .slice A0_2 l0_2.length c0_2]) (t := 41) ?hr ?_; (case hd => rfl); (case hg => rfl); (case hr => first | (go_simp; done) | (go_simp; rfl)); intro gb456 hg w7 hbox hb; have n0_ := Aside0.mk (below_step hB_ hb); have n1_ := Aside0.mk (hbox); have n2_ := Aside0.mk ((sz_ hg (below_size hB_) : w.heap.size ≤ gb456)); have n3_ := Aside0.mk ((sz_ hg (below_size hB_) : w.heap.size ≤ gb456)); clear HB; have HB := n0_; have BK456 := n1_; have GW456 := n2_; have GE456 := n3_; clear n0_ n1_ n2_ n3_; clear hb hbox hg) | ((with_reducible refine gate_dst (N := 8) rfl ?_); refine Kd.R_lit (Kd.int .i64) _ 2 ?hg (N := 8) ?hd (xs := ([] : List Int)) (inner := []) (ok := fun _ => True) (okp := fun _ => True) ?hr ?hp (fun _ hk => hk) trivial (Below.refl _ _) (Nat.le_refl _) (by simp) ?_; (case hd => rfl); (case hg => rfl); (case hr => first | (go_simp; done) | (go_simp; rfl)); (case hp => exact (Reps.none _ _)); intro v458 w8 ho9 hb hg_ hnew_; clear hg_ hnew_; (first | rw [← Ny457.out] at ho9 | (simp only [Int.reduceToNat] at ho9; rw [← Ny457.out] at ho9)); have n0_ := Aside0.mk (Kd.R_lower ho9 (below_size hS_)); have n1_ := Aside0.mk (blk_below (g := gb456) (o := .cells #[.slice A0_0 l0_0.length c0_0, .int .i64 a0_1, .slice A0_2 l0_2.length c0_2] 41 (0, 0)) bK456_ hb); have n2_ := Aside0.mk (below_step hS_ hb); clear BK456; clear HB; have HO459 := n0_; have BK456 := n1_; have HB := n2_; clear n0_ n1_ n2_; clear hb ho9) | ((with_reducible refine gate_dst (N := 12) rfl ?_); refine Kd.R_lit (Kd.int .i64) _ 2 ?hg (N := 12) ?hd (xs := ([0] : List Int)) (inner := [.int .i64 0]) (ok := fun _ => True) (okp := fun _ => True) ?hr ?hp (fun _ hk => hk) trivial (Below.refl _ _) (Nat.le_refl _) (by simp) ?_; (case hd => rfl); (case hg => rfl); (case hr => first | (go_simp; done) | (go_simp; rfl)); (case hp => exact (Reps.one (show Kd.M (Kd.int .i64) _ _ _ 0 [.int .i64 0] from rfl) (Reps.none _ _))); intro v461 w10 ho11 hb hg_ hnew_; clear hg_ hnew_; (first | rw [← Ny460.out] at ho11 | (simp only [Int.reduceToNat] at ho11; rw [← Ny460.out] at ho11)); have n0_ := Aside0.mk (Kd.R_elder' rHO459_ (Kd.R_base ho11) hb); have n1_ := Aside0.mk (Kd.R_lower (Kd.R_new' ho11 (Kd.R_lt rHO459_)) (below_size hS_)); have n2_ := Aside0.mk (blk_below (g := gb456) (o := .cells #[.slice A0_0 l0_0.length c0_0, .int .i64 a0_1, .slice A0_2 l0_2.length c0_2] 41 (0, 0)) bK456_ hb); have n3_ := Aside0.mk (below_step hS_ hb); clear HO459; clear BK456; clear HB; have HO459 := n0_; have HO462 := n1_; have BK456 := n2_; have HB := n3_; clear n0_ n1_ n2_ n3_; clear hb ho11))
  go_loopg [5, 6] k (fun kq v5 v6 w' => ∃ (x5_1 : List Int) (x6_1 : List Int), Aside0 (spec_l3Reach.l0 kq a1 x5_1 x6_1 l0_0 a0_1 l0_2 = some r) ∧ Aside0 (kq ≤ k) ∧ Aside0 (Kd.R (Kd.int .i64) 2 w' w.heap.size (fun k_ => some k_ ≠ (v6 : Value).ownBlock) v5 x5_1) ∧ Aside0 (Kd.R (Kd.int .i64) 2 w' w.heap.size (fun k_ => some k_ ≠ (v5 : Value).ownBlock) v6 x6_1) ∧ Aside0 (w'.heap[gb456]? = some (.cells #[(.slice A0_0 l0_0.length c0_0), .int .i64 a0_1, (.slice A0_2 l0_2.length c0_2)] 41 (0, 0))) ∧ Aside0 (Below w.heap.size w w'))
  case atStart => exact ⟨(y457), (y460), H', ⟨Nat.le_refl _⟩, ⟨by (with_reducible repeat (first | apply Kd.R_alloc | apply Kd.R_drewN | apply Kd.R_drew)); exact Kd.R_mono HO459.out (fun _ hk => hk.2)⟩, ⟨by (with_reducible repeat (first | apply Kd.R_alloc | apply Kd.R_drewN | apply Kd.R_drew)); exact Kd.R_mono HO462.out (fun _ hk => hk.2)⟩, ⟨bK456_⟩, ⟨hS_⟩⟩
  case round =>
   clear H'
   try clear c1
   try clear p2
   try clear c3
   try clear c3b0
   try clear c3b1
   try clear c10
   obtain ⟨x5_1, x6_1, HA, HK1, HO_5, HO_6, BK456, HB⟩ := hrel
   cases gk with
   | zero => exact absurd HA.out (by simp [spec_l3Reach.l0])
   | succ k1 =>
    have H := HA.out
    clear HA
    simp only [spec_l3Reach.l0] at H
    by_cases c12 : (x6_1.length : Int) > 0
    ·rw [if_pos c12] at H
     have c12b0 : decide (0 < (x6_1.length : Int)) = true := decide_eq_true c12
     have c12b1 : decide (0 < x6_1.length) = true := decide_eq_true (by omega)
     clear c12
     by_cases c13 : 0 < (x6_1.length : Int)
     ·rw [if_pos c13] at H
      have c13b0 : decide (0 < (x6_1.length : Int)) = true := decide_eq_true c13
      have c13b1 : decide (0 < x6_1.length) = true := decide_eq_true (by omega)
      clear c13
      by_cases c14 : 1 ≤ (x6_1.length : Int)
      ·rw [if_pos c14] at H
       have c14b0 := eq_true c14
       have c14b1 : decide (1 ≤ (x6_1.length : Int)) = true := decide_eq_true c14
       clear c14
       obtain ⟨y464, hy464⟩ : ∃ y_ : List Int, y_ = (x6_1.drop 1) := ⟨_, rfl⟩
       replace H : ((spec_l1Copy.f y464).bind fun t468 => (if (rd x6_1 0) = a1 then (spec_l3Reach.j1 k1 a1 x5_1 t468 (rd x6_1 0) true l0_0 a0_1 l0_2) else ((spec_l1Has.f k1 x5_1 (rd x6_1 0)).bind fun t471 => (spec_l3Reach.j1 k1 a1 x5_1 t468 (rd x6_1 0) t471 l0_0 a0_1 l0_2)))) = some r := by first | (rw [hy464]; with_reducible exact H) | (have H2_ := (Option.bind_some _ _).symm.trans H; rw [hy464]; with_reducible exact H2_) | (have H2_ := (Option.bind_some _ _).symm.trans H; with_reducible exact H2_) | with_reducible exact H | (rw [hy464]; exact H) | exact H
       have Ny464 := Aside0.mk hy464
       clear hy464
       replace H := Option.bind_eq_some_iff.mp H
       obtain ⟨t468, A150, H⟩ := H
       replace H : (if (rd x6_1 0) = a1 then (spec_l3Reach.j1 k1 a1 x5_1 t468 (rd x6_1 0) true l0_0 a0_1 l0_2) else ((spec_l1Has.f k1 x5_1 (rd x6_1 0)).bind fun t471 => (spec_l3Reach.j1 k1 a1 x5_1 t468 (rd x6_1 0) t471 l0_0 a0_1 l0_2))) = some r := H
       have A15 := Aside0.mk A150
       clear A150
       have HC16 := Aside0.mk H
       clear H
       obtain ⟨Ao17, co17, eo17⟩ := Kd.R_slice HO_6.out
       subst eo17
       have p463 : 0 ≤ (0 : Int) := (by omega)
       have q463 : 0 < (x6_1.length : Int) := oD_
       obtain ⟨ad463, e463, hx463_0⟩ := Kd.at_int (Kd.R_reads' HO_6.out).2.2 0 p463 q463
       cases e463
       have qi463 : (0 < x6_1.length) = True := eq_true (by omega)
       (try rw [show ((0 : Int)).toNat = 0 from rfl] at hx463_0)
       (try rw [Addr.add_zero'] at hx463_0)
       replace p463 := eq_true p463
       replace q463 := eq_true q463
       have q18 : (1 : Int) ≤ ((x6_1.length : Int) : Int) := oD_
       obtain ⟨i018, hi018, _, hsz18, _⟩ := info_parts info2
       have hroom18 : x6_1.length ≤ co17 := (Kd.R_reads' HO_6.out).2.1
       have hC18 : Kd.C (Kd.int .i64) _ (some ad463) x6_1.length x6_1 := (Kd.R_reads' HO_6.out).2.2
       have hcut18 := cut_from (P := Try.prog) 22 2 .i64 Try.underlying22 hi018 1 hsz18 (some ad463) x6_1.length co17 1 (by omega) q18
       have hr18 := Kd.C_drop (m := (1 : Int).toNat) (c := co17) hC18 (by omega) hroom18
       obtain ⟨A18, hA18⟩ : ∃ A1, A1 = (if co17 = (1 : Int).toNat then (some ad463) else ((some ad463) : Option Addr).map (·.add ((1 : Int).toNat * 1))) := ⟨_, rfl⟩
       obtain ⟨c18, hc18⟩ : ∃ c1, c1 = co17 - (1 : Int).toNat := ⟨_, rfl⟩
       have hy18 : y464.length = x6_1.length - (1 : Int).toNat := (by rw [Ny464.out, List.length_drop] <;> omega)
       rw [show (x6_1).drop (1 : Int).toNat = y464 from Ny464.out.symm] at hr18
       replace hr18 : Kd.C (Kd.int .i64) _ A18 y464.length y464 := (by rw [hA18]; exact hr18)
       rw [← hy18, ← hA18, ← hc18] at hcut18
       have HR467 := Aside0.mk hr18
       have HC467 := Aside0.mk (show y464.length ≤ c18 from by rw [hy18, hc18]; exact Nat.sub_le_sub_right hroom18 _)
       clear hr18 hC18 hroom18 hi018 hsz18 hc18
       have KY18 := Aside0.mk hy18
       have KA18 := Aside0.mk hA18
       clear hy18 hA18
       have KL18 := Aside0.mk (show 1 ≤ x6_1.length from by omega)
       replace q18 := eq_true q18
       go_upto_region 8 with (first | ((with_reducible refine gate_callee (f := 90) rfl ?_); refine gL_ (some 21) Try.func90 #[.slice A18 y464.length c18] ?_; (with_reducible refine (spec_l1Copy.calls _ _ y464 t468 _ ?side1 ?side2 A15.out).mono ?_); (case side1 => repeat (first | exact (by repeat (first | (with_reducible exact HR467.out) | (with_reducible refine Kd.C_alloc ?_ _) | (with_reducible refine Kd.C_drewN ?_ _) | (with_reducible refine Kd.C_drew ?_) | exact HR467.out)) | (with_reducible refine Kd.C_alloc ?_ _) | (with_reducible refine Kd.C_drewN ?_ _) | (with_reducible refine Kd.C_drew ?_))); (case side2 => exact HC467.out); rintro e w19 ⟨v469, rfl, ho0, hb⟩; refine ⟨_, rfl, ?_⟩; have n0_ := Aside0.mk (Kd.R_elder' rHO_5_ (Kd.R_base ho0) hb); have n1_ := Aside0.mk (Kd.R_elder' rHO_6_ (Kd.R_base ho0) hb); have n2_ := Aside0.mk (Kd.R_lower (Kd.R_new' (Kd.R_new' ho0 (Kd.R_lt rHO_5_)) (Kd.R_lt rHO_6_)) (below_size hS_)); have n3_ := Aside0.mk (blk_below (g := gb456) (o := .cells #[.slice A0_0 l0_0.length c0_0, .int .i64 a0_1, .slice A0_2 l0_2.length c0_2] 41 (0, 0)) bK456_ hb); have n4_ := Aside0.mk (Kd.C_below (by repeat (first | (with_reducible exact HR467.out) | (with_reducible refine Kd.C_alloc ?_ _) | (with_reducible refine Kd.C_drewN ?_ _) | (with_reducible refine Kd.C_drew ?_) | exact HR467.out)) hb); have n5_ := Aside0.mk (below_step hS_ hb); clear HO_5; clear HO_6; clear BK456; clear HR467; clear HB; have HO_5 := n0_; have HO_6 := n1_; have HO470 := n2_; have BK456 := n3_; have HR467 := n4_; have HB := n5_; clear n0_ n1_ n2_ n3_ n4_ n5_; (try clear hb); (try clear hb2); (try clear hk); (try clear hi); (try clear ho0)))
       (try simp only [Act.put, List.setIfInBounds_toArray, List.set_cons_zero, List.set_cons_succ])
       go_cut [29] (fun v29 wc => ∃ (kq : Nat) (x29_15 : Bool), v29 = .bool x29_15 ∧ Aside0 (spec_l3Reach.j1 kq a1 x5_1 t468 (rd x6_1 0) x29_15 l0_0 a0_1 l0_2 = some r) ∧ Aside0 (kq ≤ k1) ∧ Aside0 (Kd.R (Kd.int .i64) 2 wc w.heap.size (fun k_ => some k_ ≠ (v469 : Value).ownBlock) u5 x5_1) ∧ Aside0 (Kd.R (Kd.int .i64) 2 wc w.heap.size (fun k_ => some k_ ≠ (u5 : Value).ownBlock) v469 t468) ∧ Aside0 (wc.heap[gb456]? = some (.cells #[(.slice A0_0 l0_0.length c0_0), .int .i64 a0_1, (.slice A0_2 l0_2.length c0_2)] 41 (0, 0))) ∧ Aside0 (Kd.C (Kd.int .i64) wc A18 y464.length y464) ∧ Aside0 (Below w.heap.size w wc))
       case first =>
        have H := HC16.out
        clear HC16
        by_cases c20 : (rd x6_1 0) = a1
        ·rw [if_pos c20] at H
         have c20b0 : ((rd x6_1 0) == a1) = true := beq_iff_eq.mpr c20
         have c20b1 : ((rd x6_1 0) != a1) = false := bne_eq_false_iff_eq.mpr c20
         clear c20
         (first | rw [c20b0] | (simp only [i64_w, i32_w]; rw [c20b0]) | skip)
         have H' := Aside0.mk H
         clear H
         go_wp2
         go_meet
         case rel => exact ⟨_, (true), rF_, H', ⟨by have := HK1.out; first | omega | exact Nat.le_refl _⟩, ⟨by (with_reducible repeat (first | apply Kd.R_alloc | apply Kd.R_drewN | apply Kd.R_drew)); exact Kd.R_mono HO_5.out (fun _ hk => hk.2)⟩, ⟨by (with_reducible repeat (first | apply Kd.R_alloc | apply Kd.R_drewN | apply Kd.R_drew)); exact Kd.R_mono HO470.out (fun _ hk => hk.1.2)⟩, ⟨bK456_⟩, ⟨by repeat (first | (with_reducible exact HR467.out) | (with_reducible refine Kd.C_alloc ?_ _) | (with_reducible refine Kd.C_drewN ?_ _) | (with_reducible refine Kd.C_drew ?_) | exact HR467.out)⟩, ⟨hS_⟩⟩
        ·rw [if_neg c20] at H
         have c20b0 : ((rd x6_1 0) == a1) = false := beq_eq_false_iff_ne.mpr c20
         have c20b1 : ((rd x6_1 0) != a1) = true := bne_iff_ne.mpr c20
         (first | rw [c20b0] | (simp only [i64_w, i32_w]; rw [c20b0]) | skip)
         replace H := Option.bind_eq_some_iff.mp H
         obtain ⟨t471, A210, H⟩ := H
         replace H : (spec_l3Reach.j1 k1 a1 x5_1 t468 (rd x6_1 0) t471 l0_0 a0_1 l0_2) = some r := H
         have A21 := Aside0.mk A210
         clear A210
         have H' := Aside0.mk H
         clear H
         obtain ⟨Ao22, co22, eo22⟩ := Kd.R_slice HO_5.out
         subst eo22
         go_wp2_with (first | (go_at_call 105; (with_reducible refine (spec_l1Has.calls k1 _ _ x5_1 (rd x6_1 0) t471 _ ?side1 ?side2 A21.out).mono ?_); (case side1 => repeat (first | exact (Kd.R_reads' HO_5.out).2.2 | (with_reducible refine Kd.C_alloc ?_ _) | (with_reducible refine Kd.C_drewN ?_ _) | (with_reducible refine Kd.C_drew ?_))); (case side2 => exact (Kd.R_reads' HO_5.out).2.1); rintro e w' ⟨rfl, ⟨nd, rfl⟩⟩))
         go_meet
         case rel => exact ⟨_, (t471), rF_, H', ⟨by have := HK1.out; first | omega | exact Nat.le_refl _⟩, ⟨by (with_reducible repeat (first | apply Kd.R_alloc | apply Kd.R_drewN | apply Kd.R_drew)); exact Kd.R_mono HO_5.out (fun _ hk => hk.2)⟩, ⟨by (with_reducible repeat (first | apply Kd.R_alloc | apply Kd.R_drewN | apply Kd.R_drew)); exact Kd.R_mono HO470.out (fun _ hk => hk.1.2)⟩, ⟨bK456_⟩, ⟨by repeat (first | (with_reducible exact HR467.out) | (with_reducible refine Kd.C_alloc ?_ _) | (with_reducible refine Kd.C_drewN ?_ _) | (with_reducible refine Kd.C_drew ?_) | exact HR467.out)⟩, ⟨hS_⟩⟩
       case rest =>
        clear HC16
        try clear c1
        try clear q1
        try clear c2
        try clear p2
        try clear c3
        try clear c3b0
        try clear c3b1
        try clear p4
        try clear q4
        try clear hx4
        try clear qi4
        try clear c9
        try clear c10
        try clear c12
        try clear c12b0
        try clear c12b1
        try clear c13
        try clear c13b0
        try clear c13b1
        try clear c14
        try clear c14b0
        try clear c14b1
        try clear c18
        try clear q18
        try clear c20
        try clear c20b0
        try clear c20b1
        try clear hx463_0
        try clear p2
        try clear p463
        try clear q18
        try clear q463
        obtain ⟨kq, x29_15, rfl, HA, HJ15, HO_5, HO_6, BK456, HR467, HB⟩ := hcut
        cases kq with
        | zero => exact absurd HA.out (by simp [spec_l3Reach.j1])
        | succ kj15 =>
         have H := HA.out
         clear HA
         simp only [spec_l3Reach.j1] at H
         by_cases c23 : x29_15 = true
         ·subst c23
          have H1 := (if_pos rfl).symm.trans H
          clear H
          have H := H1
          clear H1
          have H' := Aside0.mk H
          clear H
          go_wp2
          go_roundg kj15
          case measure => have := HK1.out; have := HJ15.out; omega
          case rel => exact ⟨(x5_1), (t468), H', ⟨by have := HK1.out; have := HJ15.out; omega⟩, ⟨rHO_5_⟩, ⟨rHO_6_⟩, ⟨bK456_⟩, ⟨hS_⟩⟩
         ·replace c23 := Bool.eq_false_iff.mpr c23
          subst c23
          have H1 := (if_neg (show ¬ (false = true) by decide)).symm.trans H
          clear H
          have H := H1
          clear H1
          replace H := Option.bind_eq_some_iff.mp H
          obtain ⟨t472, A240, H⟩ := H
          replace H : ((spec_l3Succs.f l0_0 a0_1 l0_2 (rd x6_1 0)).bind fun t475 => (if t468.length + t475.length < 17592186044416 then (spec_l3Reach.l0 kj15 a1 t472 (t468 ++ t475) l0_0 a0_1 l0_2) else (none))) = some r := H
          have A24 := Aside0.mk A240
          clear A240
          replace H := Option.bind_eq_some_iff.mp H
          obtain ⟨t475, A250, H⟩ := H
          replace H : (if t468.length + t475.length < 17592186044416 then (spec_l3Reach.l0 kj15 a1 t472 (t468 ++ t475) l0_0 a0_1 l0_2) else (none)) = some r := H
          have A25 := Aside0.mk A250
          clear A250
          by_cases c26 : t468.length + t475.length < 17592186044416
          ·rw [if_pos c26] at H
           have LMc26 := Aside0.mk c26
           clear c26
           obtain ⟨y478, hy478⟩ : ∃ y_ : List Int, y_ = (t468 ++ t475) := ⟨_, rfl⟩
           replace H : (spec_l3Reach.l0 kj15 a1 t472 y478 l0_0 a0_1 l0_2) = some r := by first | (rw [hy478]; with_reducible exact H) | (have H2_ := (Option.bind_some _ _).symm.trans H; rw [hy478]; with_reducible exact H2_) | (have H2_ := (Option.bind_some _ _).symm.trans H; with_reducible exact H2_) | with_reducible exact H | (rw [hy478]; exact H) | exact H
           have Ny478 := Aside0.mk hy478
           clear hy478
           have H' := Aside0.mk H
           clear H
           obtain ⟨Ao27, co27, eo27⟩ := Kd.R_slice HO_5.out
           subst eo27
           go_wp2_with (first | ((with_reducible refine gate_callee (f := 112) rfl ?_); refine gL_ (some 32) Try.func112 #[.slice Ao27 x5_1.length co27, .int .i64 (rd x6_1 0)] ?_; (with_reducible refine (spec_l1Put.calls kj15 (fun k_ => some k_ = (.slice Ao27 x5_1.length co27 : Value).ownBlock) (.slice Ao27 x5_1.length co27) x5_1 (rd x6_1 0) t472 w _ ?side1 ?side2 A24.out).mono ?_); (case side1 => repeat (first | (with_reducible first | exact HB.out | apply below_alloc | apply pw_below_drewN | apply below_drew1 | refine below_set ?_ GE456.out) | exact HB.out)); (case side2 => exact Kd.R_tight rfl HO_5.out); rintro e w28 ⟨v473, rfl, ho0, hb, hkp⟩; refine ⟨_, rfl, ?_⟩; have n0_ := Aside0.mk (Kd.R_mono (ok' := fun k_ => some k_ ≠ (v473 : Value).ownBlock) (Kd.R_keptB (HO_6.out) hkp (fun k_ hk_ hs_ => (hk_) hs_)) (fun k_ hk_ => fun e_ => Or.elim (ho0.1 k_ e_.symm) (fun hs_ => hk_.2.1 hs_) (fun hn_ => Nat.not_le.2 hk_.2.2 hn_))); have n1_ := Aside0.mk (blk_kept bK456_ hkp (fun hs_ => (fun e_ => (Kd.R_ne HO_5.out BK456.out (by decide)) e_) hs_)); have n2_ := Aside0.mk (Kd.R_mono (ok' := fun k_ => some k_ ≠ (v469 : Value).ownBlock) ho0 (fun k_ hk_ => Or.elim hk_ (fun hs_ => fun e_ => (((HO_6.out).1 k_ e_.symm)) hs_) (fun hn_ => (Kd.fresh' (Kd.R_lt rHO_6_) k_ hn_)))); have n3_ := Aside0.mk (hb); clear HO_6; clear BK456; clear HB; clear HO_5; have HO_6 := n0_; have BK456 := n1_; have HO474 := n2_; have HB := n3_; clear n0_ n1_ n2_ n3_; (try clear hb); (try clear hkp); (try clear ho0); obtain ⟨hcz29_0, hcz29_1, hcz29_2, hfz29_0, hfz29_1, hfz29_2⟩ := blkc3_ BK456.out) | ((with_reducible refine gate_callee (f := 104) rfl ?_); refine gL_ (some 36) Try.func104 #[.agg #[.slice A0_0 l0_0.length c0_0, .int .i64 a0_1, .slice A0_2 l0_2.length c0_2], .int .i64 (rd x6_1 0)] ?_; (with_reducible refine (spec_l3Succs.calls _ _ l0_0 a0_1 _ _ l0_2 (rd x6_1 0) t475 _ ?side1 ?side2 ?side3 ?side4 A25.out).mono ?_); (case side1 => exact cHR0_0_); (case side2 => exact HC0_0.out); (case side3 => exact cHR0_2_); (case side4 => exact HC0_2.out); rintro e w30 ⟨v476, rfl, ho0, hb⟩; refine ⟨_, rfl, ?_⟩; have n0_ := Aside0.mk (Kd.R_elder' rHO_6_ (Kd.R_base ho0) hb); have n1_ := Aside0.mk (Kd.R_elder' rHO474_ (Kd.R_base ho0) hb); have n2_ := Aside0.mk (Kd.R_lower (Kd.R_new' (Kd.R_new' ho0 (Kd.R_lt rHO_6_)) (Kd.R_lt rHO474_)) (below_size hS_)); have n3_ := Aside0.mk (blk_below (g := gb456) (o := .cells #[.slice A0_0 l0_0.length c0_0, .int .i64 a0_1, .slice A0_2 l0_2.length c0_2] 41 (0, 0)) bK456_ hb); have n4_ := Aside0.mk (below_step hS_ hb); clear HO_6; clear HO474; clear BK456; clear HB; have HO_6 := n0_; have HO474 := n1_; have HO477 := n2_; have BK456 := n3_; have HB := n4_; clear n0_ n1_ n2_ n3_ n4_; (try clear hb); (try clear hb2); (try clear hk); (try clear hi); (try clear ho0); obtain ⟨Ao32, co32, eo32⟩ := Kd.R_slice HO477.out; subst eo32) | ((with_reducible refine gate_builtin (b := .append) (xs := #[.tmp 33, .tmp 36]) rfl ?_); at_builtin; refine Kd.R_append_rows (Kd.int .i64) (w0 := w) w.heap.size rfl (.tmp 33) (.tmp 36) 22 2 (.int .i64 0) 8 rfl Try.underlying22 info2 rfl (by decide) (by omega) v469 t468 t475 _ _ _ (fun k_ => some k_ ≠ (v473 : Value).ownBlock ∧ some k_ ≠ (.slice Ao32 t475.length co32 : Value).ownBlock) (fun _ => False) rfl rfl ?aO ?aR (fun _ _ h => h) (fun _ h => h.elim) ?aF ?aB ?aS ?aL ?_; (case aR => repeat (first | exact (Kd.R_reads' HO477.out).2.2 | (with_reducible refine Kd.C_alloc ?_ _) | (with_reducible refine Kd.C_drewN ?_ _) | (with_reducible refine Kd.C_drew ?_))); (case aB => exact hS_); (case aF => exact (fun k_ hk => ⟨Kd.fresh' (Kd.R_lt rHO474_) k_ hk, Kd.fresh' (Kd.R_lt rHO477_) k_ hk⟩)); (case aO => exact rHO_6_); (case aS => exact (below_size hS_)); (case aL => have := LMc26.out; omega); intro v479 w31 ho hb hg hat; rw [← Ny478.out] at ho; have n0_ := Aside0.mk (blk_grown (g := gb456) (o := .cells #[.slice A0_0 l0_0.length c0_0, .int .i64 a0_1, .slice A0_2 l0_2.length c0_2] 41 (0, 0)) bK456_ hg (Kd.R_ne HO_6.out BK456.out (by decide))); have n1_ := Aside0.mk (Kd.R_after (ok := (fun k_ => some k_ ≠ (.slice Ao32 t475.length co32 : Value).ownBlock)) (by (with_reducible repeat (first | apply Kd.R_alloc | apply Kd.R_drewN | apply Kd.R_drew)); exact Kd.R_mono HO474.out (fun _ hk => ⟨hk.2, hk.1⟩)) hg hat); have n2_ := Aside0.mk (Kd.R_after (ok := (fun k_ => some k_ ≠ (v473 : Value).ownBlock)) (by (with_reducible repeat (first | apply Kd.R_alloc | apply Kd.R_drewN | apply Kd.R_drew)); exact Kd.R_mono HO477.out (fun _ hk => ⟨hk.2, hk.1.2⟩)) hg hat); have n3_ := Aside0.mk (hb); have n4_ := Aside0.mk (ho); clear BK456; clear HO474; clear HO477; clear HB; clear HO_6; have BK456 := n0_; have HO474 := n1_; have HO477 := n2_; have HB := n3_; have HO480 := n4_; clear n0_ n1_ n2_ n3_ n4_; clear ho hb hg hat))
           go_roundg kj15
           case measure => have := HK1.out; have := HJ15.out; omega
           case rel => exact ⟨(t472), (y478), H', ⟨by have := HK1.out; have := HJ15.out; omega⟩, ⟨by (with_reducible repeat (first | apply Kd.R_alloc | apply Kd.R_drewN | apply Kd.R_drew)); exact Kd.R_mono HO474.out (fun _ hk => hk.2)⟩, ⟨by (with_reducible repeat (first | apply Kd.R_alloc | apply Kd.R_drewN | apply Kd.R_drew)); exact Kd.R_mono HO480.out (fun _ hk => hk.1)⟩, ⟨bK456_⟩, ⟨hS_⟩⟩
          ·rw [if_neg c26] at H
           exact absurd H (by simp)
      ·rw [if_neg c14] at H
       exact absurd H (by simp)
     ·rw [if_neg c13] at H
      exact absurd H (by simp)
    ·rw [if_neg c12] at H
     have c12b0 : decide (0 < (x6_1.length : Int)) = false := decide_eq_false c12
     have c12b1 : decide (0 < x6_1.length) = false := decide_eq_false (by omega)
     clear c12
     obtain rfl := Option.some.inj H
     obtain ⟨Ao33, co33, eo33⟩ := Kd.R_slice HO_6.out
     subst eo33
     go_wp2
     go_ret
     exact ⟨_, rG_, by (with_reducible repeat (first | apply Kd.R_alloc | apply Kd.R_drewN | apply Kd.R_drew)); exact Kd.R_mono HO_5.out (fun _ hk => trivial), hS_⟩
/-! ### spec_l3Dom: function 72 -/
def spec_l3Dom.f (k : Nat) (l0_0 : List Int) (a0_1 : Int) (l0_2 : List (S88)) (a1 : Int) (a2 : Int) : Option (Bool) := (spec_l3Reach.f k l0_0 a0_1 l0_2 (-1)).bind fun t482 => ((spec_l1Has.f k t482 a2).bind fun t485 => (if t485 = true then ((spec_l3Reach.f k l0_0 a0_1 l0_2 a1).bind fun t486 => ((spec_l1Has.f k t486 a2).bind fun t489 => (some (!t489)))) else (some false)))
theorem spec_l3Dom.mono : ∀ a0 a1 a2 a3 a4 k, LeO (spec_l3Dom.f k a0 a1 a2 a3 a4) (spec_l3Dom.f (k + 1) a0 a1 a2 a3 a4) := by
 intro a0 a1 a2 a3 a4 k
 unfold spec_l3Dom.f
 repeat' first
   | (with_reducible exact spec_l1Has.mono _ _ _)
   | (with_reducible exact spec_l3Reach.mono _ _ _ _ _)
   | (with_reducible exact LeO.refl _)
   | (with_reducible exact LeO.none _)
   | (with_reducible refine LeO.ite ?_ ?_)
   | (with_reducible refine LeO.bind ?_ (fun _ => ?_))
   | exact spec_l1Has.mono _ _ _
   | exact spec_l3Reach.mono _ _ _ _ _
   | exact LeO.none _
   | refine LeO.ite ?_ ?_
   | refine LeO.bind ?_ (fun _ => ?_)
set_option maxHeartbeats 8000000 in
set_option maxRecDepth 100000 in
theorem spec_l3Dom.calls (k : Nat) (A0_0 : Option Addr) (c0_0 : Nat) (l0_0 : List Int) (a0_1 : Int) (A0_2 : Option Addr) (c0_2 : Nat) (l0_2 : List (S88)) (a1 : Int) (a2 : Int) (r : Bool) (w : World) (hr0_0 : Kd.C (Kd.int .i64) w A0_0 l0_0.length l0_0) (hc0_0 : l0_0.length ≤ c0_0) (hr0_2 : Kd.C k88 w A0_2 l0_2.length l0_2) (hc0_2 : l0_2.length ≤ c0_2) (h : spec_l3Dom.f k l0_0 a0_1 l0_2 a1 a2 = some r) :
  Calls Try.prog 72 #[.agg #[.slice A0_0 l0_0.length c0_0, .int .i64 a0_1, .slice A0_2 l0_2.length c0_2], .int .i64 a1, .int .i64 a2] w fun e w' => e = .returned (.bool r) ∧ Below w.heap.size w w' := by
 have hu41 := Try.underlying41
 have HR0_0 := Aside0.mk hr0_0
 have HC0_0 := Aside0.mk hc0_0
 clear hr0_0 hc0_0
 have HR0_2 := Aside0.mk hr0_2
 have HC0_2 := Aside0.mk hc0_2
 clear hr0_2 hc0_2
 have HB := Aside0.mk (Below.refl w.heap.size w)
 have H : ((spec_l3Reach.f k l0_0 a0_1 l0_2 (-1)).bind fun t482 => ((spec_l1Has.f k t482 a2).bind fun t485 => (if t485 = true then ((spec_l3Reach.f k l0_0 a0_1 l0_2 a1).bind fun t486 => ((spec_l1Has.f k t486 a2).bind fun t489 => (some (!t489)))) else (some false)))) = some r := h
 clear h
 replace H := Option.bind_eq_some_iff.mp H
 obtain ⟨t482, A40, H⟩ := H
 replace H : ((spec_l1Has.f k t482 a2).bind fun t485 => (if t485 = true then ((spec_l3Reach.f k l0_0 a0_1 l0_2 a1).bind fun t486 => ((spec_l1Has.f k t486 a2).bind fun t489 => (some (!t489)))) else (some false))) = some r := H
 have A4 := Aside0.mk A40
 clear A40
 replace H := Option.bind_eq_some_iff.mp H
 obtain ⟨t485, A50, H⟩ := H
 replace H : (if t485 = true then ((spec_l3Reach.f k l0_0 a0_1 l0_2 a1).bind fun t486 => ((spec_l1Has.f k t486 a2).bind fun t489 => (some (!t489)))) else (some false)) = some r := H
 have A5 := Aside0.mk A50
 clear A50
 by_cases c6 : t485 = true
 ·subst c6
  have H1 := (if_pos rfl).symm.trans H
  clear H
  have H := H1
  clear H1
  replace H := Option.bind_eq_some_iff.mp H
  obtain ⟨t486, A70, H⟩ := H
  replace H : ((spec_l1Has.f k t486 a2).bind fun t489 => (some (!t489))) = some r := H
  have A7 := Aside0.mk A70
  clear A70
  replace H := Option.bind_eq_some_iff.mp H
  obtain ⟨t489, A80, H⟩ := H
  replace H : (some (!t489)) = some r := H
  have A8 := Aside0.mk A80
  clear A80
  obtain rfl := Option.some.inj H
  go_enter Try.func72, Try.ntmps72
  go_wp2_with (first | ((with_reducible refine gate_dst (N := 3) rfl ?_); refine box_event ?hg (N := 3) ?hd (cs := #[.slice A0_0 l0_0.length c0_0, .int .i64 a0_1, .slice A0_2 l0_2.length c0_2]) (t := 41) ?hr ?_; (case hd => rfl); (case hg => rfl); (case hr => first | (go_simp; done) | (go_simp; rfl)); intro gb481 hg w9 hbox hb; have n0_ := Aside0.mk (below_step hB_ hb); have n1_ := Aside0.mk (hbox); have n2_ := Aside0.mk ((sz_ hg (below_size hB_) : w.heap.size ≤ gb481)); have n3_ := Aside0.mk ((sz_ hg (below_size hB_) : w.heap.size ≤ gb481)); clear HB; have HB := n0_; have BK481 := n1_; have GW481 := n2_; have GE481 := n3_; clear n0_ n1_ n2_ n3_; clear hb hbox hg; obtain ⟨hcz10_0, hcz10_1, hcz10_2, hfz10_0, hfz10_1, hfz10_2⟩ := blkc3_ BK481.out) | ((with_reducible refine gate_callee (f := 106) rfl ?_); refine gL_ (some 8) Try.func106 #[.agg #[.slice A0_0 l0_0.length c0_0, .int .i64 a0_1, .slice A0_2 l0_2.length c0_2], .int .i64 (-1)] ?_; (with_reducible refine (spec_l3Reach.calls k _ _ l0_0 a0_1 _ _ l0_2 (-1) t482 _ ?side1 ?side2 ?side3 ?side4 A4.out).mono ?_); (case side1 => exact cHR0_0_); (case side2 => exact HC0_0.out); (case side3 => exact cHR0_2_); (case side4 => exact HC0_2.out); rintro e w11 ⟨v483, rfl, ho0, hb⟩; refine ⟨_, rfl, ?_⟩; have n0_ := Aside0.mk (Kd.R_lower ho0 (below_size hS_)); have n1_ := Aside0.mk (blk_below (g := gb481) (o := .cells #[.slice A0_0 l0_0.length c0_0, .int .i64 a0_1, .slice A0_2 l0_2.length c0_2] 41 (0, 0)) bK481_ hb); have n2_ := Aside0.mk (below_step hS_ hb); clear BK481; clear HB; have HO484 := n0_; have BK481 := n1_; have HB := n2_; clear n0_ n1_ n2_; (try clear hb); (try clear hb2); (try clear hk); (try clear hi); (try clear ho0); obtain ⟨Ao12, co12, eo12⟩ := Kd.R_slice HO484.out; subst eo12) | ((with_reducible refine gate_callee (f := 105) rfl ?_); refine gL_ (some 10) Try.func105 #[.slice Ao12 t482.length co12, .int .i64 a2] ?_; (with_reducible refine (spec_l1Has.calls k _ _ t482 a2 true _ ?side1 ?side2 A5.out).mono ?_); (case side1 => repeat (first | exact (Kd.R_reads' HO484.out).2.2 | (with_reducible refine Kd.C_alloc ?_ _) | (with_reducible refine Kd.C_drewN ?_ _) | (with_reducible refine Kd.C_drew ?_))); (case side2 => exact (Kd.R_reads' HO484.out).2.1); rintro e w' ⟨rfl, ⟨nd, rfl⟩⟩; refine ⟨_, rfl, ?_⟩; obtain ⟨hcz13_0, hcz13_1, hcz13_2, hfz13_0, hfz13_1, hfz13_2⟩ := blkc3_ BK481.out) | (go_at_call 106; (with_reducible refine (spec_l3Reach.calls k _ _ l0_0 a0_1 _ _ l0_2 a1 t486 _ ?side1 ?side2 ?side3 ?side4 A7.out).mono ?_); (case side1 => repeat (first | exact (Kd.C_below HR0_0.out hS_) | (with_reducible refine Kd.C_alloc ?_ _) | (with_reducible refine Kd.C_drewN ?_ _) | (with_reducible refine Kd.C_drew ?_))); (case side2 => exact HC0_0.out); (case side3 => repeat (first | exact (Kd.C_below HR0_2.out hS_) | (with_reducible refine Kd.C_alloc ?_ _) | (with_reducible refine Kd.C_drewN ?_ _) | (with_reducible refine Kd.C_drew ?_))); (case side4 => exact HC0_2.out); rintro e w14 ⟨v487, rfl, ho0, hb⟩; have n0_ := Aside0.mk (Kd.R_elder' rHO484_ (Kd.R_base ho0) hb); have n1_ := Aside0.mk (Kd.R_lower (Kd.R_new' ho0 (Kd.R_lt rHO484_)) (below_size hS_)); have n2_ := Aside0.mk (blk_below (g := gb481) (o := .cells #[.slice A0_0 l0_0.length c0_0, .int .i64 a0_1, .slice A0_2 l0_2.length c0_2] 41 (0, 0)) bK481_ hb); have n3_ := Aside0.mk (below_step hS_ hb); clear HO484; clear BK481; clear HB; have HO484 := n0_; have HO488 := n1_; have BK481 := n2_; have HB := n3_; clear n0_ n1_ n2_ n3_; (try clear hb); (try clear hb2); (try clear hk); (try clear hi); (try clear ho0); obtain ⟨Ao15, co15, eo15⟩ := Kd.R_slice HO488.out; subst eo15) | (go_at_call 105; (with_reducible refine (spec_l1Has.calls k _ _ t486 a2 t489 _ ?side1 ?side2 A8.out).mono ?_); (case side1 => repeat (first | exact (Kd.R_reads' HO488.out).2.2 | (with_reducible refine Kd.C_alloc ?_ _) | (with_reducible refine Kd.C_drewN ?_ _) | (with_reducible refine Kd.C_drew ?_))); (case side2 => exact (Kd.R_reads' HO488.out).2.1); rintro e w' ⟨rfl, ⟨nd, rfl⟩⟩))
  go_ret
  exact ⟨rG_, hS_⟩
 ·replace c6 := Bool.eq_false_iff.mpr c6
  subst c6
  have H1 := (if_neg (show ¬ (false = true) by decide)).symm.trans H
  clear H
  have H := H1
  clear H1
  obtain rfl := Option.some.inj H
  go_enter Try.func72, Try.ntmps72
  go_wp2_with (first | ((with_reducible refine gate_dst (N := 3) rfl ?_); refine box_event ?hg (N := 3) ?hd (cs := #[.slice A0_0 l0_0.length c0_0, .int .i64 a0_1, .slice A0_2 l0_2.length c0_2]) (t := 41) ?hr ?_; (case hd => rfl); (case hg => rfl); (case hr => first | (go_simp; done) | (go_simp; rfl)); intro gb481 hg w16 hbox hb; have n0_ := Aside0.mk (below_step hB_ hb); have n1_ := Aside0.mk (hbox); have n2_ := Aside0.mk ((sz_ hg (below_size hB_) : w.heap.size ≤ gb481)); have n3_ := Aside0.mk ((sz_ hg (below_size hB_) : w.heap.size ≤ gb481)); clear HB; have HB := n0_; have BK481 := n1_; have GW481 := n2_; have GE481 := n3_; clear n0_ n1_ n2_ n3_; clear hb hbox hg; obtain ⟨hcz17_0, hcz17_1, hcz17_2, hfz17_0, hfz17_1, hfz17_2⟩ := blkc3_ BK481.out) | ((with_reducible refine gate_callee (f := 106) rfl ?_); refine gL_ (some 8) Try.func106 #[.agg #[.slice A0_0 l0_0.length c0_0, .int .i64 a0_1, .slice A0_2 l0_2.length c0_2], .int .i64 (-1)] ?_; (with_reducible refine (spec_l3Reach.calls k _ _ l0_0 a0_1 _ _ l0_2 (-1) t482 _ ?side1 ?side2 ?side3 ?side4 A4.out).mono ?_); (case side1 => exact cHR0_0_); (case side2 => exact HC0_0.out); (case side3 => exact cHR0_2_); (case side4 => exact HC0_2.out); rintro e w18 ⟨v483, rfl, ho0, hb⟩; refine ⟨_, rfl, ?_⟩; have n0_ := Aside0.mk (Kd.R_lower ho0 (below_size hS_)); have n1_ := Aside0.mk (blk_below (g := gb481) (o := .cells #[.slice A0_0 l0_0.length c0_0, .int .i64 a0_1, .slice A0_2 l0_2.length c0_2] 41 (0, 0)) bK481_ hb); have n2_ := Aside0.mk (below_step hS_ hb); clear BK481; clear HB; have HO484 := n0_; have BK481 := n1_; have HB := n2_; clear n0_ n1_ n2_; (try clear hb); (try clear hb2); (try clear hk); (try clear hi); (try clear ho0); obtain ⟨Ao19, co19, eo19⟩ := Kd.R_slice HO484.out; subst eo19) | ((with_reducible refine gate_callee (f := 105) rfl ?_); refine gL_ (some 10) Try.func105 #[.slice Ao19 t482.length co19, .int .i64 a2] ?_; (with_reducible refine (spec_l1Has.calls k _ _ t482 a2 false _ ?side1 ?side2 A5.out).mono ?_); (case side1 => repeat (first | exact (Kd.R_reads' HO484.out).2.2 | (with_reducible refine Kd.C_alloc ?_ _) | (with_reducible refine Kd.C_drewN ?_ _) | (with_reducible refine Kd.C_drew ?_))); (case side2 => exact (Kd.R_reads' HO484.out).2.1); rintro e w' ⟨rfl, ⟨nd, rfl⟩⟩; refine ⟨_, rfl, ?_⟩))
  go_ret
  exact ⟨rG_, hS_⟩
/-! ### spec_IdomOf: function 32 -/
def spec_IdomOf.l0 : Nat → Int → Int → Int → List Int → Int → List (S88) → Option (Int)
 | 0, _, _, _, _, _, _ => none
 | k + 1, x1, x5, x6, x559000, x559001, x559002 => if x6 < (x559002.length : Int) then (if x6 = x1 then (spec_IdomOf.l0 k x1 x5 (wrap64 (x6 + 1)) x559000 x559001 x559002) else ((spec_l3Dom.f k x559000 x559001 x559002 x6 x1).bind fun t560 => (if t560 = true then (if x5 < 0 then (spec_IdomOf.l0 k x1 x6 (wrap64 (x6 + 1)) x559000 x559001 x559002) else ((spec_l3Dom.f k x559000 x559001 x559002 x5 x6).bind fun t561 => (if t561 = true then (spec_IdomOf.l0 k x1 x6 (wrap64 (x6 + 1)) x559000 x559001 x559002) else (spec_IdomOf.l0 k x1 x5 (wrap64 (x6 + 1)) x559000 x559001 x559002)))) else (spec_IdomOf.l0 k x1 x5 (wrap64 (x6 + 1)) x559000 x559001 x559002)))) else (some x5)
def spec_IdomOf.f (k : Nat) (l0_0 : List Int) (a0_1 : Int) (l0_2 : List (S88)) (a1 : Int) : Option (Int) := (spec_l3There.f k l0_0 a0_1 l0_2 a1).bind fun t559 => (if t559 = true then (spec_IdomOf.l0 k a1 (-1) 0 l0_0 a0_1 l0_2) else (some (-1)))
theorem spec_IdomOf.mono_l : ∀ k, (∀ y0 y1 y2 y3 y4 y5, LeO (spec_IdomOf.l0 k y0 y1 y2 y3 y4 y5) (spec_IdomOf.l0 (k + 1) y0 y1 y2 y3 y4 y5))
 | 0 => fun _ _ _ _ _ _ r h => by simp [spec_IdomOf.l0] at h
 | k + 1 => by
  have ih0 := spec_IdomOf.mono_l k
  ·intro y0 y1 y2 y3 y4 y5
   unfold spec_IdomOf.l0
   repeat' first
   | (with_reducible exact ih0 _ _ _ _ _ _)
   | (with_reducible exact spec_l3Dom.mono _ _ _ _ _ _)
   | (with_reducible exact spec_l3There.mono _ _ _ _ _)
   | (with_reducible exact LeO.refl _)
   | (with_reducible exact LeO.none _)
   | (with_reducible refine LeO.ite ?_ ?_)
   | (with_reducible refine LeO.bind ?_ (fun _ => ?_))
   | exact ih0 _ _ _ _ _ _
   | exact spec_l3Dom.mono _ _ _ _ _ _
   | exact spec_l3There.mono _ _ _ _ _
   | exact LeO.none _
   | refine LeO.ite ?_ ?_
   | refine LeO.bind ?_ (fun _ => ?_)
theorem spec_IdomOf.mono : ∀ a0 a1 a2 a3 k, LeO (spec_IdomOf.f k a0 a1 a2 a3) (spec_IdomOf.f (k + 1) a0 a1 a2 a3) := by
 intro a0 a1 a2 a3 k
 have ih0 := spec_IdomOf.mono_l k
 unfold spec_IdomOf.f
 repeat' first
   | (with_reducible exact ih0 _ _ _ _ _ _)
   | (with_reducible exact spec_l3Dom.mono _ _ _ _ _ _)
   | (with_reducible exact spec_l3There.mono _ _ _ _ _)
   | (with_reducible exact LeO.refl _)
   | (with_reducible exact LeO.none _)
   | (with_reducible refine LeO.ite ?_ ?_)
   | (with_reducible refine LeO.bind ?_ (fun _ => ?_))
   | exact ih0 _ _ _ _ _ _
   | exact spec_l3Dom.mono _ _ _ _ _ _
   | exact spec_l3There.mono _ _ _ _ _
   | exact LeO.none _
   | refine LeO.ite ?_ ?_
   | refine LeO.bind ?_ (fun _ => ?_)
set_option maxHeartbeats 8000000 in
set_option maxRecDepth 100000 in
theorem spec_IdomOf.calls (k : Nat) (A0_0 : Option Addr) (c0_0 : Nat) (l0_0 : List Int) (a0_1 : Int) (A0_2 : Option Addr) (c0_2 : Nat) (l0_2 : List (S88)) (a1 : Int) (r : Int) (w : World) (hr0_0 : Kd.C (Kd.int .i64) w A0_0 l0_0.length l0_0) (hc0_0 : l0_0.length ≤ c0_0) (hr0_2 : Kd.C k88 w A0_2 l0_2.length l0_2) (hc0_2 : l0_2.length ≤ c0_2) (h : spec_IdomOf.f k l0_0 a0_1 l0_2 a1 = some r) :
  Calls Try.prog 32 #[.agg #[.slice A0_0 l0_0.length c0_0, .int .i64 a0_1, .slice A0_2 l0_2.length c0_2], .int .i64 a1] w fun e w' => e = .returned (.int .i64 r) ∧ Below w.heap.size w w' := by
 have hu41 := Try.underlying41
 have HR0_0 := Aside0.mk hr0_0
 have HC0_0 := Aside0.mk hc0_0
 clear hr0_0 hc0_0
 have HR0_2 := Aside0.mk hr0_2
 have HC0_2 := Aside0.mk hc0_2
 clear hr0_2 hc0_2
 have HB := Aside0.mk (Below.refl w.heap.size w)
 have H : ((spec_l3There.f k l0_0 a0_1 l0_2 a1).bind fun t559 => (if t559 = true then (spec_IdomOf.l0 k a1 (-1) 0 l0_0 a0_1 l0_2) else (some (-1)))) = some r := h
 clear h
 replace H := Option.bind_eq_some_iff.mp H
 obtain ⟨t559, A30, H⟩ := H
 replace H : (if t559 = true then (spec_IdomOf.l0 k a1 (-1) 0 l0_0 a0_1 l0_2) else (some (-1))) = some r := H
 have A3 := Aside0.mk A30
 clear A30
 by_cases c4 : t559 = true
 ·subst c4
  have H1 := (if_pos rfl).symm.trans H
  clear H
  have H := H1
  clear H1
  have H' := Aside0.mk H
  clear H
  go_enter Try.func32, Try.ntmps32
  go_wp2_with (first | ((with_reducible refine gate_dst (N := 2) rfl ?_); refine box_event ?hg (N := 2) ?hd (cs := #[.slice A0_0 l0_0.length c0_0, .int .i64 a0_1, .slice A0_2 l0_2.length c0_2]) (t := 41) ?hr ?_; (case hd => rfl); (case hg => rfl); (case hr => first | (go_simp; done) | (go_simp; rfl)); intro gb558 hg w5 hbox hb; have n0_ := Aside0.mk (below_step hB_ hb); have n1_ := Aside0.mk (hbox); have n2_ := Aside0.mk ((sz_ hg (below_size hB_) : w.heap.size ≤ gb558)); have n3_ := Aside0.mk ((sz_ hg (below_size hB_) : w.heap.size ≤ gb558)); clear HB; have HB := n0_; have BK558 := n1_; have GW558 := n2_; have GE558 := n3_; clear n0_ n1_ n2_ n3_; clear hb hbox hg; obtain ⟨hcz6_0, hcz6_1, hcz6_2, hfz6_0, hfz6_1, hfz6_2⟩ := blkc3_ BK558.out) | ((with_reducible refine gate_callee (f := 71) rfl ?_); refine gL_ (some 9) Try.func71 #[.agg #[.slice A0_0 l0_0.length c0_0, .int .i64 a0_1, .slice A0_2 l0_2.length c0_2], .int .i64 a1] ?_; (with_reducible refine (spec_l3There.calls k _ _ l0_0 a0_1 _ _ l0_2 a1 true _ ?side1 ?side2 ?side3 ?side4 A3.out).mono ?_); (case side1 => exact cHR0_0_); (case side2 => exact HC0_0.out); (case side3 => exact cHR0_2_); (case side4 => exact HC0_2.out); rintro e w7 ⟨rfl, hb⟩; refine ⟨_, rfl, ?_⟩; have n0_ := Aside0.mk (blk_below (g := gb558) (o := .cells #[.slice A0_0 l0_0.length c0_0, .int .i64 a0_1, .slice A0_2 l0_2.length c0_2] 41 (0, 0)) bK558_ hb); have n1_ := Aside0.mk (below_step hS_ hb); clear BK558; clear HB; have BK558 := n0_; have HB := n1_; clear n0_ n1_; (try clear hb); (try clear hb2); (try clear hk); (try clear hi)))
  go_loopg [5, 6] k (fun kq v5 v6 w' => ∃ (x5_1 : Int) (x6_1 : Int), v5 = .int .i64 x5_1 ∧ v6 = .int .i64 x6_1 ∧ Aside0 (spec_IdomOf.l0 kq a1 x5_1 x6_1 l0_0 a0_1 l0_2 = some r) ∧ Aside0 (kq ≤ k) ∧ Aside0 (w'.heap[gb558]? = some (.cells #[(.slice A0_0 l0_0.length c0_0), .int .i64 a0_1, (.slice A0_2 l0_2.length c0_2)] 41 (0, 0))) ∧ Aside0 (Below w.heap.size w w'))
  case atStart => exact ⟨((-1)), (0), rF_, rF_, H', ⟨Nat.le_refl _⟩, ⟨bK558_⟩, ⟨hS_⟩⟩
  case round =>
   clear H'
   try clear p2
   try clear c3
   try clear c4
   try clear c7
   try clear hcz6_0 hcz6_1 hcz6_2 hfz6_0 hfz6_1 hfz6_2
   obtain ⟨x5_1, x6_1, rfl, rfl, HA, HK1, BK558, HB⟩ := hrel
   cases gk with
   | zero => exact absurd HA.out (by simp [spec_IdomOf.l0])
   | succ k1 =>
    have H := HA.out
    clear HA
    simp only [spec_IdomOf.l0] at H
    by_cases c8 : x6_1 < (l0_2.length : Int)
    ·rw [if_pos c8] at H
     have c8b0 : decide (x6_1 < (l0_2.length : Int)) = true := decide_eq_true c8
     clear c8
     by_cases c9 : x6_1 = a1
     ·rw [if_pos c9] at H
      have c9b0 : (x6_1 == a1) = true := beq_iff_eq.mpr c9
      have c9b1 : (x6_1 != a1) = false := bne_eq_false_iff_eq.mpr c9
      clear c9
      have H' := Aside0.mk H
      clear H
      obtain ⟨hcz10_0, hcz10_1, hcz10_2, hfz10_0, hfz10_1, hfz10_2⟩ := blkc3_ BK558.out
      go_wp2
      go_roundg k1
      case measure => have := HK1.out; omega
      case rel => exact ⟨(x5_1), (wrap64 (x6_1 + 1)), rF_, rF_, H', ⟨by have := HK1.out; omega⟩, ⟨bK558_⟩, ⟨hS_⟩⟩
     ·rw [if_neg c9] at H
      have c9b0 : (x6_1 == a1) = false := beq_eq_false_iff_ne.mpr c9
      have c9b1 : (x6_1 != a1) = true := bne_iff_ne.mpr c9
      replace H := Option.bind_eq_some_iff.mp H
      obtain ⟨t560, A110, H⟩ := H
      replace H : (if t560 = true then (if x5_1 < 0 then (spec_IdomOf.l0 k1 a1 x6_1 (wrap64 (x6_1 + 1)) l0_0 a0_1 l0_2) else ((spec_l3Dom.f k1 l0_0 a0_1 l0_2 x5_1 x6_1).bind fun t561 => (if t561 = true then (spec_IdomOf.l0 k1 a1 x6_1 (wrap64 (x6_1 + 1)) l0_0 a0_1 l0_2) else (spec_IdomOf.l0 k1 a1 x5_1 (wrap64 (x6_1 + 1)) l0_0 a0_1 l0_2)))) else (spec_IdomOf.l0 k1 a1 x5_1 (wrap64 (x6_1 + 1)) l0_0 a0_1 l0_2)) = some r := H
      have A11 := Aside0.mk A110
      clear A110
      by_cases c12 : t560 = true
      ·subst c12
       have H1 := (if_pos rfl).symm.trans H
       clear H
       have H := H1
       clear H1
       by_cases c13 : x5_1 < 0
       ·rw [if_pos c13] at H
        have c13b0 : decide (x5_1 < 0) = true := decide_eq_true c13
        clear c13
        have H' := Aside0.mk H
        clear H
        obtain ⟨hcz14_0, hcz14_1, hcz14_2, hfz14_0, hfz14_1, hfz14_2⟩ := blkc3_ BK558.out
        go_wp2_with (first | (go_at_call 72; (with_reducible refine (spec_l3Dom.calls k1 _ _ l0_0 a0_1 _ _ l0_2 x6_1 a1 true _ ?side1 ?side2 ?side3 ?side4 A11.out).mono ?_); (case side1 => exact cHR0_0_); (case side2 => exact HC0_0.out); (case side3 => exact cHR0_2_); (case side4 => exact HC0_2.out); rintro e w15 ⟨rfl, hb⟩; have n0_ := Aside0.mk (blk_below (g := gb558) (o := .cells #[.slice A0_0 l0_0.length c0_0, .int .i64 a0_1, .slice A0_2 l0_2.length c0_2] 41 (0, 0)) bK558_ hb); have n1_ := Aside0.mk (below_step hS_ hb); clear BK558; clear HB; have BK558 := n0_; have HB := n1_; clear n0_ n1_; (try clear hb); (try clear hb2); (try clear hk); (try clear hi)))
        go_roundg k1
        case measure => have := HK1.out; omega
        case rel => exact ⟨(x6_1), (wrap64 (x6_1 + 1)), rF_, rF_, H', ⟨by have := HK1.out; omega⟩, ⟨bK558_⟩, ⟨hS_⟩⟩
       ·rw [if_neg c13] at H
        have c13b0 : decide (x5_1 < 0) = false := decide_eq_false c13
        clear c13
        replace H := Option.bind_eq_some_iff.mp H
        obtain ⟨t561, A160, H⟩ := H
        replace H : (if t561 = true then (spec_IdomOf.l0 k1 a1 x6_1 (wrap64 (x6_1 + 1)) l0_0 a0_1 l0_2) else (spec_IdomOf.l0 k1 a1 x5_1 (wrap64 (x6_1 + 1)) l0_0 a0_1 l0_2)) = some r := H
        have A16 := Aside0.mk A160
        clear A160
        by_cases c17 : t561 = true
        ·subst c17
         have H1 := (if_pos rfl).symm.trans H
         clear H
         have H := H1
         clear H1
         have H' := Aside0.mk H
         clear H
         obtain ⟨hcz18_0, hcz18_1, hcz18_2, hfz18_0, hfz18_1, hfz18_2⟩ := blkc3_ BK558.out
         go_wp2_with (first | (go_at_call 72; (with_reducible refine (spec_l3Dom.calls k1 _ _ l0_0 a0_1 _ _ l0_2 x6_1 a1 true _ ?side1 ?side2 ?side3 ?side4 A11.out).mono ?_); (case side1 => exact cHR0_0_); (case side2 => exact HC0_0.out); (case side3 => exact cHR0_2_); (case side4 => exact HC0_2.out); rintro e w19 ⟨rfl, hb⟩; have n0_ := Aside0.mk (blk_below (g := gb558) (o := .cells #[.slice A0_0 l0_0.length c0_0, .int .i64 a0_1, .slice A0_2 l0_2.length c0_2] 41 (0, 0)) bK558_ hb); have n1_ := Aside0.mk (below_step hS_ hb); clear BK558; clear HB; have BK558 := n0_; have HB := n1_; clear n0_ n1_; (try clear hb); (try clear hb2); (try clear hk); (try clear hi); obtain ⟨hcz20_0, hcz20_1, hcz20_2, hfz20_0, hfz20_1, hfz20_2⟩ := blkc3_ BK558.out) | (go_at_call 72; (with_reducible refine (spec_l3Dom.calls k1 _ _ l0_0 a0_1 _ _ l0_2 x5_1 x6_1 true _ ?side1 ?side2 ?side3 ?side4 A16.out).mono ?_); (case side1 => exact cHR0_0_); (case side2 => exact HC0_0.out); (case side3 => exact cHR0_2_); (case side4 => exact HC0_2.out); rintro e w21 ⟨rfl, hb⟩; have n0_ := Aside0.mk (blk_below (g := gb558) (o := .cells #[.slice A0_0 l0_0.length c0_0, .int .i64 a0_1, .slice A0_2 l0_2.length c0_2] 41 (0, 0)) bK558_ hb); have n1_ := Aside0.mk (below_step hS_ hb); clear BK558; clear HB; have BK558 := n0_; have HB := n1_; clear n0_ n1_; (try clear hb); (try clear hb2); (try clear hk); (try clear hi)))
         go_roundg k1
         case measure => have := HK1.out; omega
         case rel => exact ⟨(x6_1), (wrap64 (x6_1 + 1)), rF_, rF_, H', ⟨by have := HK1.out; omega⟩, ⟨bK558_⟩, ⟨hS_⟩⟩
        ·replace c17 := Bool.eq_false_iff.mpr c17
         subst c17
         have H1 := (if_neg (show ¬ (false = true) by decide)).symm.trans H
         clear H
         have H := H1
         clear H1
         have H' := Aside0.mk H
         clear H
         obtain ⟨hcz22_0, hcz22_1, hcz22_2, hfz22_0, hfz22_1, hfz22_2⟩ := blkc3_ BK558.out
         go_wp2_with (first | (go_at_call 72; (with_reducible refine (spec_l3Dom.calls k1 _ _ l0_0 a0_1 _ _ l0_2 x6_1 a1 true _ ?side1 ?side2 ?side3 ?side4 A11.out).mono ?_); (case side1 => exact cHR0_0_); (case side2 => exact HC0_0.out); (case side3 => exact cHR0_2_); (case side4 => exact HC0_2.out); rintro e w23 ⟨rfl, hb⟩; have n0_ := Aside0.mk (blk_below (g := gb558) (o := .cells #[.slice A0_0 l0_0.length c0_0, .int .i64 a0_1, .slice A0_2 l0_2.length c0_2] 41 (0, 0)) bK558_ hb); have n1_ := Aside0.mk (below_step hS_ hb); clear BK558; clear HB; have BK558 := n0_; have HB := n1_; clear n0_ n1_; (try clear hb); (try clear hb2); (try clear hk); (try clear hi); obtain ⟨hcz24_0, hcz24_1, hcz24_2, hfz24_0, hfz24_1, hfz24_2⟩ := blkc3_ BK558.out) | (go_at_call 72; (with_reducible refine (spec_l3Dom.calls k1 _ _ l0_0 a0_1 _ _ l0_2 x5_1 x6_1 false _ ?side1 ?side2 ?side3 ?side4 A16.out).mono ?_); (case side1 => exact cHR0_0_); (case side2 => exact HC0_0.out); (case side3 => exact cHR0_2_); (case side4 => exact HC0_2.out); rintro e w25 ⟨rfl, hb⟩; have n0_ := Aside0.mk (blk_below (g := gb558) (o := .cells #[.slice A0_0 l0_0.length c0_0, .int .i64 a0_1, .slice A0_2 l0_2.length c0_2] 41 (0, 0)) bK558_ hb); have n1_ := Aside0.mk (below_step hS_ hb); clear BK558; clear HB; have BK558 := n0_; have HB := n1_; clear n0_ n1_; (try clear hb); (try clear hb2); (try clear hk); (try clear hi)))
         go_roundg k1
         case measure => have := HK1.out; omega
         case rel => exact ⟨(x5_1), (wrap64 (x6_1 + 1)), rF_, rF_, H', ⟨by have := HK1.out; omega⟩, ⟨bK558_⟩, ⟨hS_⟩⟩
      ·replace c12 := Bool.eq_false_iff.mpr c12
       subst c12
       have H1 := (if_neg (show ¬ (false = true) by decide)).symm.trans H
       clear H
       have H := H1
       clear H1
       have H' := Aside0.mk H
       clear H
       obtain ⟨hcz26_0, hcz26_1, hcz26_2, hfz26_0, hfz26_1, hfz26_2⟩ := blkc3_ BK558.out
       go_wp2_with (first | (go_at_call 72; (with_reducible refine (spec_l3Dom.calls k1 _ _ l0_0 a0_1 _ _ l0_2 x6_1 a1 false _ ?side1 ?side2 ?side3 ?side4 A11.out).mono ?_); (case side1 => exact cHR0_0_); (case side2 => exact HC0_0.out); (case side3 => exact cHR0_2_); (case side4 => exact HC0_2.out); rintro e w27 ⟨rfl, hb⟩; have n0_ := Aside0.mk (blk_below (g := gb558) (o := .cells #[.slice A0_0 l0_0.length c0_0, .int .i64 a0_1, .slice A0_2 l0_2.length c0_2] 41 (0, 0)) bK558_ hb); have n1_ := Aside0.mk (below_step hS_ hb); clear BK558; clear HB; have BK558 := n0_; have HB := n1_; clear n0_ n1_; (try clear hb); (try clear hb2); (try clear hk); (try clear hi)))
       go_roundg k1
       case measure => have := HK1.out; omega
       case rel => exact ⟨(x5_1), (wrap64 (x6_1 + 1)), rF_, rF_, H', ⟨by have := HK1.out; omega⟩, ⟨bK558_⟩, ⟨hS_⟩⟩
    ·rw [if_neg c8] at H
     have c8b0 : decide (x6_1 < (l0_2.length : Int)) = false := decide_eq_false c8
     clear c8
     obtain rfl := Option.some.inj H
     obtain ⟨hcz28_0, hcz28_1, hcz28_2, hfz28_0, hfz28_1, hfz28_2⟩ := blkc3_ BK558.out
     go_wp2
     go_ret
     exact ⟨rG_, hS_⟩
 ·replace c4 := Bool.eq_false_iff.mpr c4
  subst c4
  have H1 := (if_neg (show ¬ (false = true) by decide)).symm.trans H
  clear H
  have H := H1
  clear H1
  obtain rfl := Option.some.inj H
  go_enter Try.func32, Try.ntmps32
  go_wp2_with (first | ((with_reducible refine gate_dst (N := 2) rfl ?_); refine box_event ?hg (N := 2) ?hd (cs := #[.slice A0_0 l0_0.length c0_0, .int .i64 a0_1, .slice A0_2 l0_2.length c0_2]) (t := 41) ?hr ?_; (case hd => rfl); (case hg => rfl); (case hr => first | (go_simp; done) | (go_simp; rfl)); intro gb558 hg w29 hbox hb; have n0_ := Aside0.mk (below_step hB_ hb); have n1_ := Aside0.mk (hbox); have n2_ := Aside0.mk ((sz_ hg (below_size hB_) : w.heap.size ≤ gb558)); have n3_ := Aside0.mk ((sz_ hg (below_size hB_) : w.heap.size ≤ gb558)); clear HB; have HB := n0_; have BK558 := n1_; have GW558 := n2_; have GE558 := n3_; clear n0_ n1_ n2_ n3_; clear hb hbox hg; obtain ⟨hcz30_0, hcz30_1, hcz30_2, hfz30_0, hfz30_1, hfz30_2⟩ := blkc3_ BK558.out) | ((with_reducible refine gate_callee (f := 71) rfl ?_); refine gL_ (some 9) Try.func71 #[.agg #[.slice A0_0 l0_0.length c0_0, .int .i64 a0_1, .slice A0_2 l0_2.length c0_2], .int .i64 a1] ?_; (with_reducible refine (spec_l3There.calls k _ _ l0_0 a0_1 _ _ l0_2 a1 false _ ?side1 ?side2 ?side3 ?side4 A3.out).mono ?_); (case side1 => exact cHR0_0_); (case side2 => exact HC0_0.out); (case side3 => exact cHR0_2_); (case side4 => exact HC0_2.out); rintro e w31 ⟨rfl, hb⟩; refine ⟨_, rfl, ?_⟩; have n0_ := Aside0.mk (blk_below (g := gb558) (o := .cells #[.slice A0_0 l0_0.length c0_0, .int .i64 a0_1, .slice A0_2 l0_2.length c0_2] 41 (0, 0)) bK558_ hb); have n1_ := Aside0.mk (below_step hS_ hb); clear BK558; clear HB; have BK558 := n0_; have HB := n1_; clear n0_ n1_; (try clear hb); (try clear hb2); (try clear hk); (try clear hi)))
  go_ret
  exact ⟨rG_, hS_⟩
/-! ### laws_FnIdom: function 6 -/
def laws_FnIdom.l0 : Nat → Int → Int → Int → List Int → Int → List (S88) → Option (Bool)
 | 0, _, _, _, _, _, _ => none
 | k + 1, x4, x5, x6, x572000, x572001, x572002 => if x6 < (x572002.length : Int) then (if x6 = x4 then (laws_FnIdom.l0 k x4 x5 (wrap64 (x6 + 1)) x572000 x572001 x572002) else ((impl_Dominates.f k x572000 x572001 x572002 x6 x4).bind fun t575 => (if t575 = true then (if x5 < 0 then (some false) else ((impl_Dominates.f k x572000 x572001 x572002 x6 x5).bind fun t576 => (if t576 = true then (laws_FnIdom.l0 k x4 x5 (wrap64 (x6 + 1)) x572000 x572001 x572002) else (some false)))) else (laws_FnIdom.l0 k x4 x5 (wrap64 (x6 + 1)) x572000 x572001 x572002)))) else (if x5 < 0 then (some true) else (if x5 = x4 then (some false) else ((impl_Dominates.f k x572000 x572001 x572002 x5 x4).bind fun t574 => (some t574))))
def laws_FnIdom.f (k : Nat) (l0 : List Int) : Option (Bool) := (laws_big.f l0).bind fun t562 => (if t562 = true then (some true) else ((spec_DrawIdomOf.f k l0).bind fun bt563 => ((impl_IdomOf.f k bt563.1 bt563.2.1 bt563.2.2.1 bt563.2.2.2).bind fun t572 => ((spec_IdomOf.f k bt563.1 bt563.2.1 bt563.2.2.1 bt563.2.2.2).bind fun t573 => (if t572 = t573 then (laws_FnIdom.l0 k bt563.2.2.2 t572 0 bt563.1 bt563.2.1 bt563.2.2.1) else (some false))))))
theorem laws_FnIdom.mono_l : ∀ k, (∀ y0 y1 y2 y3 y4 y5, LeO (laws_FnIdom.l0 k y0 y1 y2 y3 y4 y5) (laws_FnIdom.l0 (k + 1) y0 y1 y2 y3 y4 y5))
 | 0 => fun _ _ _ _ _ _ r h => by simp [laws_FnIdom.l0] at h
 | k + 1 => by
  have ih0 := laws_FnIdom.mono_l k
  ·intro y0 y1 y2 y3 y4 y5
   unfold laws_FnIdom.l0
   repeat' first
   | (with_reducible exact ih0 _ _ _ _ _ _)
   | (with_reducible exact impl_Dominates.mono _ _ _ _ _ _)
   | (with_reducible exact impl_IdomOf.mono _ _ _ _ _)
   | (with_reducible exact spec_DrawIdomOf.mono _ _)
   | (with_reducible exact spec_IdomOf.mono _ _ _ _ _)
   | (with_reducible exact LeO.refl _)
   | (with_reducible exact LeO.none _)
   | (with_reducible refine LeO.ite ?_ ?_)
   | (with_reducible refine LeO.bind ?_ (fun _ => ?_))
   | exact ih0 _ _ _ _ _ _
   | exact impl_Dominates.mono _ _ _ _ _ _
   | exact impl_IdomOf.mono _ _ _ _ _
   | exact spec_DrawIdomOf.mono _ _
   | exact spec_IdomOf.mono _ _ _ _ _
   | exact LeO.none _
   | refine LeO.ite ?_ ?_
   | refine LeO.bind ?_ (fun _ => ?_)
theorem laws_FnIdom.mono : ∀ a0 k, LeO (laws_FnIdom.f k a0) (laws_FnIdom.f (k + 1) a0) := by
 intro a0 k
 have ih0 := laws_FnIdom.mono_l k
 unfold laws_FnIdom.f
 repeat' first
   | (with_reducible exact ih0 _ _ _ _ _ _)
   | (with_reducible exact impl_Dominates.mono _ _ _ _ _ _)
   | (with_reducible exact impl_IdomOf.mono _ _ _ _ _)
   | (with_reducible exact spec_DrawIdomOf.mono _ _)
   | (with_reducible exact spec_IdomOf.mono _ _ _ _ _)
   | (with_reducible exact LeO.refl _)
   | (with_reducible exact LeO.none _)
   | (with_reducible refine LeO.ite ?_ ?_)
   | (with_reducible refine LeO.bind ?_ (fun _ => ?_))
   | exact ih0 _ _ _ _ _ _
   | exact impl_Dominates.mono _ _ _ _ _ _
   | exact impl_IdomOf.mono _ _ _ _ _
   | exact spec_DrawIdomOf.mono _ _
   | exact spec_IdomOf.mono _ _ _ _ _
   | exact LeO.none _
   | refine LeO.ite ?_ ?_
   | refine LeO.bind ?_ (fun _ => ?_)
set_option maxHeartbeats 8000000 in
set_option maxRecDepth 100000 in
theorem laws_FnIdom.calls (k : Nat) (A0 : Option Addr) (c0 : Nat) (l0 : List Int) (r : Bool) (w : World) (hr0 : Kd.C (Kd.int .u8) w A0 l0.length l0) (hc0 : l0.length ≤ c0) (h : laws_FnIdom.f k l0 = some r) :
  Calls Try.prog 6 #[.slice A0 l0.length c0] w fun e w' => e = .returned (.bool r) ∧ Below w.heap.size w w' := by
 have hu41 := Try.underlying41
 have HR0 := Aside0.mk hr0
 have HC0 := Aside0.mk hc0
 clear hr0 hc0
 have HB := Aside0.mk (Below.refl w.heap.size w)
 have H : ((laws_big.f l0).bind fun t562 => (if t562 = true then (some true) else ((spec_DrawIdomOf.f k l0).bind fun bt563 => ((impl_IdomOf.f k bt563.1 bt563.2.1 bt563.2.2.1 bt563.2.2.2).bind fun t572 => ((spec_IdomOf.f k bt563.1 bt563.2.1 bt563.2.2.1 bt563.2.2.2).bind fun t573 => (if t572 = t573 then (laws_FnIdom.l0 k bt563.2.2.2 t572 0 bt563.1 bt563.2.1 bt563.2.2.1) else (some false))))))) = some r := h
 clear h
 replace H := Option.bind_eq_some_iff.mp H
 obtain ⟨t562, A20, H⟩ := H
 replace H : (if t562 = true then (some true) else ((spec_DrawIdomOf.f k l0).bind fun bt563 => ((impl_IdomOf.f k bt563.1 bt563.2.1 bt563.2.2.1 bt563.2.2.2).bind fun t572 => ((spec_IdomOf.f k bt563.1 bt563.2.1 bt563.2.2.1 bt563.2.2.2).bind fun t573 => (if t572 = t573 then (laws_FnIdom.l0 k bt563.2.2.2 t572 0 bt563.1 bt563.2.1 bt563.2.2.1) else (some false)))))) = some r := H
 have A2 := Aside0.mk A20
 clear A20
 by_cases c3 : t562 = true
 ·subst c3
  have H1 := (if_pos rfl).symm.trans H
  clear H
  have H := H1
  clear H1
  obtain rfl := Option.some.inj H
  go_enter Try.func6, Try.ntmps6
  go_wp2_with (first | ((with_reducible refine gate_callee (f := 25) rfl ?_); refine gL_ (some 8) Try.func25 #[.slice A0 l0.length c0] ?_; (with_reducible refine (laws_big.calls _ _ l0 true _ ?side1 ?side2 A2.out).mono ?_); (case side1 => repeat (first | exact HR0.out | (with_reducible refine Kd.C_alloc ?_ _) | (with_reducible refine Kd.C_drewN ?_ _) | (with_reducible refine Kd.C_drew ?_))); (case side2 => exact HC0.out); rintro e w' ⟨rfl, ⟨nd, rfl⟩⟩; refine ⟨_, rfl, ?_⟩))
  go_ret
  exact ⟨rG_, hB_⟩
 ·replace c3 := Bool.eq_false_iff.mpr c3
  subst c3
  have H1 := (if_neg (show ¬ (false = true) by decide)).symm.trans H
  clear H
  have H := H1
  clear H1
  replace H := Option.bind_eq_some_iff.mp H
  obtain ⟨⟨t563, t566, t567, t570⟩, A40, H⟩ := H
  replace H : ((impl_IdomOf.f k t563 t566 t567 t570).bind fun t572 => ((spec_IdomOf.f k t563 t566 t567 t570).bind fun t573 => (if t572 = t573 then (laws_FnIdom.l0 k t570 t572 0 t563 t566 t567) else (some false)))) = some r := H
  have A4 := Aside0.mk A40
  clear A40
  replace H := Option.bind_eq_some_iff.mp H
  obtain ⟨t572, A50, H⟩ := H
  replace H : ((spec_IdomOf.f k t563 t566 t567 t570).bind fun t573 => (if t572 = t573 then (laws_FnIdom.l0 k t570 t572 0 t563 t566 t567) else (some false))) = some r := H
  have A5 := Aside0.mk A50
  clear A50
  replace H := Option.bind_eq_some_iff.mp H
  obtain ⟨t573, A60, H⟩ := H
  replace H : (if t572 = t573 then (laws_FnIdom.l0 k t570 t572 0 t563 t566 t567) else (some false)) = some r := H
  have A6 := Aside0.mk A60
  clear A60
  by_cases c7 : t572 = t573
  ·rw [if_pos c7] at H
   have c7b0 : (t572 == t573) = true := beq_iff_eq.mpr c7
   have c7b1 : (t572 != t573) = false := bne_eq_false_iff_eq.mpr c7
   clear c7
   have H' := Aside0.mk H
   clear H
   go_enter Try.func6, Try.ntmps6
   go_wp2_with (first | ((with_reducible refine gate_callee (f := 25) rfl ?_); refine gL_ (some 8) Try.func25 #[.slice A0 l0.length c0] ?_; (with_reducible refine (laws_big.calls _ _ l0 false _ ?side1 ?side2 A2.out).mono ?_); (case side1 => repeat (first | exact HR0.out | (with_reducible refine Kd.C_alloc ?_ _) | (with_reducible refine Kd.C_drewN ?_ _) | (with_reducible refine Kd.C_drew ?_))); (case side2 => exact HC0.out); rintro e w' ⟨rfl, ⟨nd, rfl⟩⟩; refine ⟨_, rfl, ?_⟩) | ((with_reducible refine gate_callee (f := 30) rfl ?_); refine gL_ (some 11) Try.func30 #[.slice A0 l0.length c0] ?_; (with_reducible refine (spec_DrawIdomOf.calls k _ _ l0 t563 t566 t567 t570 _ ?side1 ?side2 A4.out).mono ?_); (case side1 => repeat (first | exact HR0.out | (with_reducible refine Kd.C_alloc ?_ _) | (with_reducible refine Kd.C_drewN ?_ _) | (with_reducible refine Kd.C_drew ?_))); (case side2 => exact HC0.out); rintro e w8 ⟨v564, v568, rfl, ho0, ho1, hb⟩; refine ⟨_, rfl, ?_⟩; have n0_ := Aside0.mk (Kd.R_lower ho0 (below_size hB_)); have n1_ := Aside0.mk (Kd.R_lower ho1 (below_size hB_)); have n2_ := Aside0.mk (below_step hB_ hb); clear HB; have HO565 := n0_; have HO569 := n1_; have HB := n2_; clear n0_ n1_ n2_; (try clear hb); (try clear hb2); (try clear hk); (try clear hi); (try clear ho0); (try clear ho1)) | ((with_reducible refine gate_dst (N := 3) rfl ?_); refine box_event ?hg (N := 3) ?hd (cs := #[.slice none 0 0, .int .i64 0, .slice none 0 0]) (t := 41) ?hr ?_; (case hd => rfl); (case hg => rfl); (case hr => first | (go_simp; done) | (go_simp; rfl)); intro gb571 hg w9 hbox hb; have n0_ := Aside0.mk (Kd.R_below rHO565_ hb); have n1_ := Aside0.mk (Kd.R_below rHO569_ hb); have n2_ := Aside0.mk (below_step hB_ hb); have n3_ := Aside0.mk (hbox); have n4_ := Aside0.mk ((sz_ hg (below_size hB_) : w.heap.size ≤ gb571)); have n5_ := Aside0.mk ((sz_ hg (below_size hB_) : w.heap.size ≤ gb571)); clear HO565; clear HO569; clear HB; have HO565 := n0_; have HO569 := n1_; have HB := n2_; have BK571 := n3_; have GW571 := n4_; have GE571 := n5_; clear n0_ n1_ n2_ n3_ n4_ n5_; clear hb hbox hg; obtain ⟨Ao10, co10, eo10⟩ := Kd.R_slice HO565.out; subst eo10; obtain ⟨hcz11_0, hcz11_1, hcz11_2, hfz11_0, hfz11_1, hfz11_2⟩ := blkc3_ BK571.out; obtain ⟨Ao12, co12, eo12⟩ := Kd.R_slice HO569.out; subst eo12) | ((with_reducible refine gate_callee (f := 31) rfl ?_); refine gL_ (some 16) Try.func31 #[.agg #[.slice Ao10 t563.length co10, .int .i64 t566, .slice Ao12 t567.length co12], .int .i64 t570] ?_; (with_reducible refine (impl_IdomOf.calls k _ _ t563 t566 _ _ t567 t570 t572 _ ?side1 ?side2 ?side3 ?side4 A5.out).mono ?_); (case side1 => refine (Kd.R_reads' (e := 2) (base := w.heap.size) (ok := fun k_ => True) (n := t563.length) (c := co10) ?_).2.2; exact (by (with_reducible repeat (first | apply Kd.R_alloc | apply Kd.R_drewN | apply Kd.R_drew)); exact (rf3_ HO565.out BK571.out (by decide) (.slice Ao10 t563.length co10) (.int .i64 t566) (.slice Ao12 t567.length co12)))); (case side2 => exact (Kd.R_reads' HO565.out).2.1); (case side3 => refine (Kd.R_reads' (e := 88) (base := w.heap.size) (ok := fun k_ => some k_ ≠ (.slice Ao10 t563.length co10 : Value).ownBlock) (n := t567.length) (c := co12) ?_).2.2; exact (by (with_reducible repeat (first | apply Kd.R_alloc | apply Kd.R_drewN | apply Kd.R_drew)); exact (rf3_ HO569.out BK571.out (by decide) (.slice Ao10 t563.length co10) (.int .i64 t566) (.slice Ao12 t567.length co12)))); (case side4 => exact (Kd.R_reads' HO569.out).2.1); rintro e w13 ⟨rfl, hb⟩; refine ⟨_, rfl, ?_⟩; have n0_ := Aside0.mk (Kd.R_below (by (with_reducible repeat (first | apply Kd.R_alloc | apply Kd.R_drewN | apply Kd.R_drew)); exact (rf3_ HO565.out BK571.out (by decide) (.slice Ao10 t563.length co10) (.int .i64 t566) (.slice Ao12 t567.length co12))) hb); have n1_ := Aside0.mk (Kd.R_below (by (with_reducible repeat (first | apply Kd.R_alloc | apply Kd.R_drewN | apply Kd.R_drew)); exact (rf3_ HO569.out BK571.out (by decide) (.slice Ao10 t563.length co10) (.int .i64 t566) (.slice Ao12 t567.length co12))) hb); have n2_ := Aside0.mk (blk_below (g := gb571) (o := .cells #[.slice Ao10 t563.length co10, .int .i64 t566, .slice Ao12 t567.length co12] 41 (0, 0)) (by (with_reducible repeat (first | refine blk_drewN ?_ _ | refine blk_drew ?_ | refine blk_alloc ?_ _)); refine blk_put (cs := #[.slice Ao10 t563.length co10, .int .i64 t566, .slice none 0 0]) ?_ 2 _ rfl; (with_reducible repeat (first | refine blk_drewN ?_ _ | refine blk_drew ?_ | refine blk_alloc ?_ _)); refine blk_put (cs := #[.slice Ao10 t563.length co10, .int .i64 0, .slice none 0 0]) ?_ 1 _ rfl; (with_reducible repeat (first | refine blk_drewN ?_ _ | refine blk_drew ?_ | refine blk_alloc ?_ _)); refine blk_put (cs := #[.slice none 0 0, .int .i64 0, .slice none 0 0]) ?_ 0 _ rfl; (with_reducible repeat (first | refine blk_drewN ?_ _ | refine blk_drew ?_ | refine blk_alloc ?_ _)); exact BK571.out) hb); have n3_ := Aside0.mk (below_step hS_ hb); clear HO565; clear HO569; clear BK571; clear HB; have HO565 := n0_; have HO569 := n1_; have BK571 := n2_; have HB := n3_; clear n0_ n1_ n2_ n3_; (try clear hb); (try clear hb2); (try clear hk); (try clear hi); obtain ⟨hcz14_0, hcz14_1, hcz14_2, hfz14_0, hfz14_1, hfz14_2⟩ := blkc3_ BK571.out) | ((with_reducible refine gate_callee (f := 32) rfl ?_); refine gL_ (some 20) Try.func32 #[.agg #[.slice Ao10 t563.length co10, .int .i64 t566, .slice Ao12 t567.length co12], .int .i64 t570] ?_; (with_reducible refine (spec_IdomOf.calls k _ _ t563 t566 _ _ t567 t570 t573 _ ?side1 ?side2 ?side3 ?side4 A6.out).mono ?_); (case side1 => repeat (first | exact (Kd.R_reads' HO565.out).2.2 | (with_reducible refine Kd.C_alloc ?_ _) | (with_reducible refine Kd.C_drewN ?_ _) | (with_reducible refine Kd.C_drew ?_))); (case side2 => exact (Kd.R_reads' HO565.out).2.1); (case side3 => repeat (first | exact (Kd.R_reads' HO569.out).2.2 | (with_reducible refine Kd.C_alloc ?_ _) | (with_reducible refine Kd.C_drewN ?_ _) | (with_reducible refine Kd.C_drew ?_))); (case side4 => exact (Kd.R_reads' HO569.out).2.1); rintro e w15 ⟨rfl, hb⟩; refine ⟨_, rfl, ?_⟩; have n0_ := Aside0.mk (Kd.R_below rHO565_ hb); have n1_ := Aside0.mk (Kd.R_below rHO569_ hb); have n2_ := Aside0.mk (blk_below (g := gb571) (o := .cells #[.slice Ao10 t563.length co10, .int .i64 t566, .slice Ao12 t567.length co12] 41 (0, 0)) bK571_ hb); have n3_ := Aside0.mk (below_step hS_ hb); clear HO565; clear HO569; clear BK571; clear HB; have HO565 := n0_; have HO569 := n1_; have BK571 := n2_; have HB := n3_; clear n0_ n1_ n2_ n3_; (try clear hb); (try clear hb2); (try clear hk); (try clear hi)))
   go_loopg [6] k (fun kq v6 w' => ∃ (x6_1 : Int), v6 = .int .i64 x6_1 ∧ Aside0 (laws_FnIdom.l0 kq t570 t572 x6_1 t563 t566 t567 = some r) ∧ Aside0 (kq ≤ k) ∧ Aside0 (Kd.R (Kd.int .i64) 2 w' w.heap.size (fun _ => True) (.slice Ao10 t563.length co10) t563) ∧ Aside0 (Kd.R k88 88 w' w.heap.size (fun k_ => some k_ ≠ ((.slice Ao10 t563.length co10) : Value).ownBlock) (.slice Ao12 t567.length co12) t567) ∧ Aside0 (w'.heap[gb571]? = some (.cells #[(.slice Ao10 t563.length co10), .int .i64 t566, (.slice Ao12 t567.length co12)] 41 (0, 0))) ∧ Aside0 (Below w.heap.size w w'))
   case atStart => exact ⟨(0), rF_, H', ⟨Nat.le_refl _⟩, ⟨rHO565_⟩, ⟨rHO569_⟩, ⟨bK571_⟩, ⟨hS_⟩⟩
   case round =>
    clear H'
    try clear c2
    try clear p2
    try clear c3
    try clear c6
    try clear c7
    try clear c7b0
    try clear c7b1
    try clear hcz11_0 hcz11_1 hcz11_2 hfz11_0 hfz11_1 hfz11_2
    try clear hcz14_0 hcz14_1 hcz14_2 hfz14_0 hfz14_1 hfz14_2
    obtain ⟨x6_1, rfl, HA, HK1, HO_572000, HO_572002, BK571, HB⟩ := hrel
    cases gk with
    | zero => exact absurd HA.out (by simp [laws_FnIdom.l0])
    | succ k1 =>
     have H := HA.out
     clear HA
     simp only [laws_FnIdom.l0] at H
     by_cases c16 : x6_1 < (t567.length : Int)
     ·rw [if_pos c16] at H
      have c16b0 : decide (x6_1 < (t567.length : Int)) = true := decide_eq_true c16
      clear c16
      by_cases c17 : x6_1 = t570
      ·rw [if_pos c17] at H
       have c17b0 : (x6_1 == t570) = true := beq_iff_eq.mpr c17
       have c17b1 : (x6_1 != t570) = false := bne_eq_false_iff_eq.mpr c17
       clear c17
       have H' := Aside0.mk H
       clear H
       obtain ⟨hcz18_0, hcz18_1, hcz18_2, hfz18_0, hfz18_1, hfz18_2⟩ := blkc3_ BK571.out
       go_wp2
       go_roundg k1
       case measure => have := HK1.out; omega
       case rel => exact ⟨(wrap64 (x6_1 + 1)), rF_, H', ⟨by have := HK1.out; omega⟩, ⟨rHO_572000_⟩, ⟨rHO_572002_⟩, ⟨bK571_⟩, ⟨hS_⟩⟩
      ·rw [if_neg c17] at H
       have c17b0 : (x6_1 == t570) = false := beq_eq_false_iff_ne.mpr c17
       have c17b1 : (x6_1 != t570) = true := bne_iff_ne.mpr c17
       replace H := Option.bind_eq_some_iff.mp H
       obtain ⟨t575, A190, H⟩ := H
       replace H : (if t575 = true then (if t572 < 0 then (some false) else ((impl_Dominates.f k1 t563 t566 t567 x6_1 t572).bind fun t576 => (if t576 = true then (laws_FnIdom.l0 k1 t570 t572 (wrap64 (x6_1 + 1)) t563 t566 t567) else (some false)))) else (laws_FnIdom.l0 k1 t570 t572 (wrap64 (x6_1 + 1)) t563 t566 t567)) = some r := H
       have A19 := Aside0.mk A190
       clear A190
       by_cases c20 : t575 = true
       ·subst c20
        have H1 := (if_pos rfl).symm.trans H
        clear H
        have H := H1
        clear H1
        by_cases c21 : t572 < 0
        ·rw [if_pos c21] at H
         have c21b0 : decide (t572 < 0) = true := decide_eq_true c21
         clear c21
         obtain rfl := Option.some.inj H
         obtain ⟨hcz22_0, hcz22_1, hcz22_2, hfz22_0, hfz22_1, hfz22_2⟩ := blkc3_ BK571.out
         go_wp2_with (first | (go_at_call 27; (with_reducible refine (impl_Dominates.calls k1 _ _ t563 t566 _ _ t567 x6_1 t570 true _ ?side1 ?side2 ?side3 ?side4 A19.out).mono ?_); (case side1 => repeat (first | exact (Kd.R_reads' HO_572000.out).2.2 | (with_reducible refine Kd.C_alloc ?_ _) | (with_reducible refine Kd.C_drewN ?_ _) | (with_reducible refine Kd.C_drew ?_))); (case side2 => exact (Kd.R_reads' HO_572000.out).2.1); (case side3 => repeat (first | exact (Kd.R_reads' HO_572002.out).2.2 | (with_reducible refine Kd.C_alloc ?_ _) | (with_reducible refine Kd.C_drewN ?_ _) | (with_reducible refine Kd.C_drew ?_))); (case side4 => exact (Kd.R_reads' HO_572002.out).2.1); rintro e w23 ⟨rfl, hb⟩; have n0_ := Aside0.mk (Kd.R_below rHO_572000_ hb); have n1_ := Aside0.mk (Kd.R_below rHO_572002_ hb); have n2_ := Aside0.mk (blk_below (g := gb571) (o := .cells #[.slice Ao10 t563.length co10, .int .i64 t566, .slice Ao12 t567.length co12] 41 (0, 0)) bK571_ hb); have n3_ := Aside0.mk (below_step hS_ hb); clear HO_572000; clear HO_572002; clear BK571; clear HB; have HO_572000 := n0_; have HO_572002 := n1_; have BK571 := n2_; have HB := n3_; clear n0_ n1_ n2_ n3_; (try clear hb); (try clear hb2); (try clear hk); (try clear hi)))
         go_ret
         exact ⟨rG_, hS_⟩
        ·rw [if_neg c21] at H
         have c21b0 : decide (t572 < 0) = false := decide_eq_false c21
         clear c21
         replace H := Option.bind_eq_some_iff.mp H
         obtain ⟨t576, A240, H⟩ := H
         replace H : (if t576 = true then (laws_FnIdom.l0 k1 t570 t572 (wrap64 (x6_1 + 1)) t563 t566 t567) else (some false)) = some r := H
         have A24 := Aside0.mk A240
         clear A240
         by_cases c25 : t576 = true
         ·subst c25
          have H1 := (if_pos rfl).symm.trans H
          clear H
          have H := H1
          clear H1
          have H' := Aside0.mk H
          clear H
          obtain ⟨hcz26_0, hcz26_1, hcz26_2, hfz26_0, hfz26_1, hfz26_2⟩ := blkc3_ BK571.out
          go_wp2_with (first | (go_at_call 27; (with_reducible refine (impl_Dominates.calls k1 _ _ t563 t566 _ _ t567 x6_1 t570 true _ ?side1 ?side2 ?side3 ?side4 A19.out).mono ?_); (case side1 => repeat (first | exact (Kd.R_reads' HO_572000.out).2.2 | (with_reducible refine Kd.C_alloc ?_ _) | (with_reducible refine Kd.C_drewN ?_ _) | (with_reducible refine Kd.C_drew ?_))); (case side2 => exact (Kd.R_reads' HO_572000.out).2.1); (case side3 => repeat (first | exact (Kd.R_reads' HO_572002.out).2.2 | (with_reducible refine Kd.C_alloc ?_ _) | (with_reducible refine Kd.C_drewN ?_ _) | (with_reducible refine Kd.C_drew ?_))); (case side4 => exact (Kd.R_reads' HO_572002.out).2.1); rintro e w27 ⟨rfl, hb⟩; have n0_ := Aside0.mk (Kd.R_below rHO_572000_ hb); have n1_ := Aside0.mk (Kd.R_below rHO_572002_ hb); have n2_ := Aside0.mk (blk_below (g := gb571) (o := .cells #[.slice Ao10 t563.length co10, .int .i64 t566, .slice Ao12 t567.length co12] 41 (0, 0)) bK571_ hb); have n3_ := Aside0.mk (below_step hS_ hb); clear HO_572000; clear HO_572002; clear BK571; clear HB; have HO_572000 := n0_; have HO_572002 := n1_; have BK571 := n2_; have HB := n3_; clear n0_ n1_ n2_ n3_; (try clear hb); (try clear hb2); (try clear hk); (try clear hi); obtain ⟨hcz28_0, hcz28_1, hcz28_2, hfz28_0, hfz28_1, hfz28_2⟩ := blkc3_ BK571.out) | (go_at_call 27; (with_reducible refine (impl_Dominates.calls k1 _ _ t563 t566 _ _ t567 x6_1 t572 true _ ?side1 ?side2 ?side3 ?side4 A24.out).mono ?_); (case side1 => repeat (first | exact (Kd.R_reads' HO_572000.out).2.2 | (with_reducible refine Kd.C_alloc ?_ _) | (with_reducible refine Kd.C_drewN ?_ _) | (with_reducible refine Kd.C_drew ?_))); (case side2 => exact (Kd.R_reads' HO_572000.out).2.1); (case side3 => repeat (first | exact (Kd.R_reads' HO_572002.out).2.2 | (with_reducible refine Kd.C_alloc ?_ _) | (with_reducible refine Kd.C_drewN ?_ _) | (with_reducible refine Kd.C_drew ?_))); (case side4 => exact (Kd.R_reads' HO_572002.out).2.1); rintro e w29 ⟨rfl, hb⟩; have n0_ := Aside0.mk (Kd.R_below rHO_572000_ hb); have n1_ := Aside0.mk (Kd.R_below rHO_572002_ hb); have n2_ := Aside0.mk (blk_below (g := gb571) (o := .cells #[.slice Ao10 t563.length co10, .int .i64 t566, .slice Ao12 t567.length co12] 41 (0, 0)) bK571_ hb); have n3_ := Aside0.mk (below_step hS_ hb); clear HO_572000; clear HO_572002; clear BK571; clear HB; have HO_572000 := n0_; have HO_572002 := n1_; have BK571 := n2_; have HB := n3_; clear n0_ n1_ n2_ n3_; (try clear hb); (try clear hb2); (try clear hk); (try clear hi)))
          go_roundg k1
          case measure => have := HK1.out; omega
          case rel => exact ⟨(wrap64 (x6_1 + 1)), rF_, H', ⟨by have := HK1.out; omega⟩, ⟨rHO_572000_⟩, ⟨rHO_572002_⟩, ⟨bK571_⟩, ⟨hS_⟩⟩
         ·replace c25 := Bool.eq_false_iff.mpr c25
          subst c25
          have H1 := (if_neg (show ¬ (false = true) by decide)).symm.trans H
          clear H
          have H := H1
          clear H1
          obtain rfl := Option.some.inj H
          obtain ⟨hcz30_0, hcz30_1, hcz30_2, hfz30_0, hfz30_1, hfz30_2⟩ := blkc3_ BK571.out
          go_wp2_with (first | (go_at_call 27; (with_reducible refine (impl_Dominates.calls k1 _ _ t563 t566 _ _ t567 x6_1 t570 true _ ?side1 ?side2 ?side3 ?side4 A19.out).mono ?_); (case side1 => repeat (first | exact (Kd.R_reads' HO_572000.out).2.2 | (with_reducible refine Kd.C_alloc ?_ _) | (with_reducible refine Kd.C_drewN ?_ _) | (with_reducible refine Kd.C_drew ?_))); (case side2 => exact (Kd.R_reads' HO_572000.out).2.1); (case side3 => repeat (first | exact (Kd.R_reads' HO_572002.out).2.2 | (with_reducible refine Kd.C_alloc ?_ _) | (with_reducible refine Kd.C_drewN ?_ _) | (with_reducible refine Kd.C_drew ?_))); (case side4 => exact (Kd.R_reads' HO_572002.out).2.1); rintro e w31 ⟨rfl, hb⟩; have n0_ := Aside0.mk (Kd.R_below rHO_572000_ hb); have n1_ := Aside0.mk (Kd.R_below rHO_572002_ hb); have n2_ := Aside0.mk (blk_below (g := gb571) (o := .cells #[.slice Ao10 t563.length co10, .int .i64 t566, .slice Ao12 t567.length co12] 41 (0, 0)) bK571_ hb); have n3_ := Aside0.mk (below_step hS_ hb); clear HO_572000; clear HO_572002; clear BK571; clear HB; have HO_572000 := n0_; have HO_572002 := n1_; have BK571 := n2_; have HB := n3_; clear n0_ n1_ n2_ n3_; (try clear hb); (try clear hb2); (try clear hk); (try clear hi); obtain ⟨hcz32_0, hcz32_1, hcz32_2, hfz32_0, hfz32_1, hfz32_2⟩ := blkc3_ BK571.out) | (go_at_call 27; (with_reducible refine (impl_Dominates.calls k1 _ _ t563 t566 _ _ t567 x6_1 t572 false _ ?side1 ?side2 ?side3 ?side4 A24.out).mono ?_); (case side1 => repeat (first | exact (Kd.R_reads' HO_572000.out).2.2 | (with_reducible refine Kd.C_alloc ?_ _) | (with_reducible refine Kd.C_drewN ?_ _) | (with_reducible refine Kd.C_drew ?_))); (case side2 => exact (Kd.R_reads' HO_572000.out).2.1); (case side3 => repeat (first | exact (Kd.R_reads' HO_572002.out).2.2 | (with_reducible refine Kd.C_alloc ?_ _) | (with_reducible refine Kd.C_drewN ?_ _) | (with_reducible refine Kd.C_drew ?_))); (case side4 => exact (Kd.R_reads' HO_572002.out).2.1); rintro e w33 ⟨rfl, hb⟩; have n0_ := Aside0.mk (Kd.R_below rHO_572000_ hb); have n1_ := Aside0.mk (Kd.R_below rHO_572002_ hb); have n2_ := Aside0.mk (blk_below (g := gb571) (o := .cells #[.slice Ao10 t563.length co10, .int .i64 t566, .slice Ao12 t567.length co12] 41 (0, 0)) bK571_ hb); have n3_ := Aside0.mk (below_step hS_ hb); clear HO_572000; clear HO_572002; clear BK571; clear HB; have HO_572000 := n0_; have HO_572002 := n1_; have BK571 := n2_; have HB := n3_; clear n0_ n1_ n2_ n3_; (try clear hb); (try clear hb2); (try clear hk); (try clear hi)))
          go_ret
          exact ⟨rG_, hS_⟩
       ·replace c20 := Bool.eq_false_iff.mpr c20
        subst c20
        have H1 := (if_neg (show ¬ (false = true) by decide)).symm.trans H
        clear H
        have H := H1
        clear H1
        have H' := Aside0.mk H
        clear H
        obtain ⟨hcz34_0, hcz34_1, hcz34_2, hfz34_0, hfz34_1, hfz34_2⟩ := blkc3_ BK571.out
        go_wp2_with (first | (go_at_call 27; (with_reducible refine (impl_Dominates.calls k1 _ _ t563 t566 _ _ t567 x6_1 t570 false _ ?side1 ?side2 ?side3 ?side4 A19.out).mono ?_); (case side1 => repeat (first | exact (Kd.R_reads' HO_572000.out).2.2 | (with_reducible refine Kd.C_alloc ?_ _) | (with_reducible refine Kd.C_drewN ?_ _) | (with_reducible refine Kd.C_drew ?_))); (case side2 => exact (Kd.R_reads' HO_572000.out).2.1); (case side3 => repeat (first | exact (Kd.R_reads' HO_572002.out).2.2 | (with_reducible refine Kd.C_alloc ?_ _) | (with_reducible refine Kd.C_drewN ?_ _) | (with_reducible refine Kd.C_drew ?_))); (case side4 => exact (Kd.R_reads' HO_572002.out).2.1); rintro e w35 ⟨rfl, hb⟩; have n0_ := Aside0.mk (Kd.R_below rHO_572000_ hb); have n1_ := Aside0.mk (Kd.R_below rHO_572002_ hb); have n2_ := Aside0.mk (blk_below (g := gb571) (o := .cells #[.slice Ao10 t563.length co10, .int .i64 t566, .slice Ao12 t567.length co12] 41 (0, 0)) bK571_ hb); have n3_ := Aside0.mk (below_step hS_ hb); clear HO_572000; clear HO_572002; clear BK571; clear HB; have HO_572000 := n0_; have HO_572002 := n1_; have BK571 := n2_; have HB := n3_; clear n0_ n1_ n2_ n3_; (try clear hb); (try clear hb2); (try clear hk); (try clear hi)))
        go_roundg k1
        case measure => have := HK1.out; omega
        case rel => exact ⟨(wrap64 (x6_1 + 1)), rF_, H', ⟨by have := HK1.out; omega⟩, ⟨rHO_572000_⟩, ⟨rHO_572002_⟩, ⟨bK571_⟩, ⟨hS_⟩⟩
     ·rw [if_neg c16] at H
      have c16b0 : decide (x6_1 < (t567.length : Int)) = false := decide_eq_false c16
      clear c16
      by_cases c36 : t572 < 0
      ·rw [if_pos c36] at H
       have c36b0 : decide (t572 < 0) = true := decide_eq_true c36
       clear c36
       obtain rfl := Option.some.inj H
       obtain ⟨hcz37_0, hcz37_1, hcz37_2, hfz37_0, hfz37_1, hfz37_2⟩ := blkc3_ BK571.out
       go_wp2
       go_ret
       exact ⟨rG_, hS_⟩
      ·rw [if_neg c36] at H
       have c36b0 : decide (t572 < 0) = false := decide_eq_false c36
       clear c36
       by_cases c38 : t572 = t570
       ·rw [if_pos c38] at H
        have c38b0 : (t572 == t570) = true := beq_iff_eq.mpr c38
        have c38b1 : (t572 != t570) = false := bne_eq_false_iff_eq.mpr c38
        clear c38
        obtain rfl := Option.some.inj H
        obtain ⟨hcz39_0, hcz39_1, hcz39_2, hfz39_0, hfz39_1, hfz39_2⟩ := blkc3_ BK571.out
        go_wp2
        go_ret
        exact ⟨rG_, hS_⟩
       ·rw [if_neg c38] at H
        have c38b0 : (t572 == t570) = false := beq_eq_false_iff_ne.mpr c38
        have c38b1 : (t572 != t570) = true := bne_iff_ne.mpr c38
        replace H := Option.bind_eq_some_iff.mp H
        obtain ⟨t574, A400, H⟩ := H
        replace H : (some t574) = some r := H
        have A40 := Aside0.mk A400
        clear A400
        obtain rfl := Option.some.inj H
        obtain ⟨hcz41_0, hcz41_1, hcz41_2, hfz41_0, hfz41_1, hfz41_2⟩ := blkc3_ BK571.out
        go_wp2_with (first | (go_at_call 27; (with_reducible refine (impl_Dominates.calls k1 _ _ t563 t566 _ _ t567 t572 t570 t574 _ ?side1 ?side2 ?side3 ?side4 A40.out).mono ?_); (case side1 => repeat (first | exact (Kd.R_reads' HO_572000.out).2.2 | (with_reducible refine Kd.C_alloc ?_ _) | (with_reducible refine Kd.C_drewN ?_ _) | (with_reducible refine Kd.C_drew ?_))); (case side2 => exact (Kd.R_reads' HO_572000.out).2.1); (case side3 => repeat (first | exact (Kd.R_reads' HO_572002.out).2.2 | (with_reducible refine Kd.C_alloc ?_ _) | (with_reducible refine Kd.C_drewN ?_ _) | (with_reducible refine Kd.C_drew ?_))); (case side4 => exact (Kd.R_reads' HO_572002.out).2.1); rintro e w42 ⟨rfl, hb⟩; have n0_ := Aside0.mk (Kd.R_below rHO_572000_ hb); have n1_ := Aside0.mk (Kd.R_below rHO_572002_ hb); have n2_ := Aside0.mk (blk_below (g := gb571) (o := .cells #[.slice Ao10 t563.length co10, .int .i64 t566, .slice Ao12 t567.length co12] 41 (0, 0)) bK571_ hb); have n3_ := Aside0.mk (below_step hS_ hb); clear HO_572000; clear HO_572002; clear BK571; clear HB; have HO_572000 := n0_; have HO_572002 := n1_; have BK571 := n2_; have HB := n3_; clear n0_ n1_ n2_ n3_; (try clear hb); (try clear hb2); (try clear hk); (try clear hi)))
        go_ret
        exact ⟨rG_, hS_⟩
  ·rw [if_neg c7] at H
   have c7b0 : (t572 == t573) = false := beq_eq_false_iff_ne.mpr c7
   have c7b1 : (t572 != t573) = true := bne_iff_ne.mpr c7
   obtain rfl := Option.some.inj H
   go_enter Try.func6, Try.ntmps6
   go_wp2_with (first | ((with_reducible refine gate_callee (f := 25) rfl ?_); refine gL_ (some 8) Try.func25 #[.slice A0 l0.length c0] ?_; (with_reducible refine (laws_big.calls _ _ l0 false _ ?side1 ?side2 A2.out).mono ?_); (case side1 => repeat (first | exact HR0.out | (with_reducible refine Kd.C_alloc ?_ _) | (with_reducible refine Kd.C_drewN ?_ _) | (with_reducible refine Kd.C_drew ?_))); (case side2 => exact HC0.out); rintro e w' ⟨rfl, ⟨nd, rfl⟩⟩; refine ⟨_, rfl, ?_⟩) | ((with_reducible refine gate_callee (f := 30) rfl ?_); refine gL_ (some 11) Try.func30 #[.slice A0 l0.length c0] ?_; (with_reducible refine (spec_DrawIdomOf.calls k _ _ l0 t563 t566 t567 t570 _ ?side1 ?side2 A4.out).mono ?_); (case side1 => repeat (first | exact HR0.out | (with_reducible refine Kd.C_alloc ?_ _) | (with_reducible refine Kd.C_drewN ?_ _) | (with_reducible refine Kd.C_drew ?_))); (case side2 => exact HC0.out); rintro e w43 ⟨v564, v568, rfl, ho0, ho1, hb⟩; refine ⟨_, rfl, ?_⟩; have n0_ := Aside0.mk (Kd.R_lower ho0 (below_size hB_)); have n1_ := Aside0.mk (Kd.R_lower ho1 (below_size hB_)); have n2_ := Aside0.mk (below_step hB_ hb); clear HB; have HO565 := n0_; have HO569 := n1_; have HB := n2_; clear n0_ n1_ n2_; (try clear hb); (try clear hb2); (try clear hk); (try clear hi); (try clear ho0); (try clear ho1)) | ((with_reducible refine gate_dst (N := 3) rfl ?_); refine box_event ?hg (N := 3) ?hd (cs := #[.slice none 0 0, .int .i64 0, .slice none 0 0]) (t := 41) ?hr ?_; (case hd => rfl); (case hg => rfl); (case hr => first | (go_simp; done) | (go_simp; rfl)); intro gb571 hg w44 hbox hb; have n0_ := Aside0.mk (Kd.R_below rHO565_ hb); have n1_ := Aside0.mk (Kd.R_below rHO569_ hb); have n2_ := Aside0.mk (below_step hB_ hb); have n3_ := Aside0.mk (hbox); have n4_ := Aside0.mk ((sz_ hg (below_size hB_) : w.heap.size ≤ gb571)); have n5_ := Aside0.mk ((sz_ hg (below_size hB_) : w.heap.size ≤ gb571)); clear HO565; clear HO569; clear HB; have HO565 := n0_; have HO569 := n1_; have HB := n2_; have BK571 := n3_; have GW571 := n4_; have GE571 := n5_; clear n0_ n1_ n2_ n3_ n4_ n5_; clear hb hbox hg; obtain ⟨Ao45, co45, eo45⟩ := Kd.R_slice HO565.out; subst eo45; obtain ⟨hcz46_0, hcz46_1, hcz46_2, hfz46_0, hfz46_1, hfz46_2⟩ := blkc3_ BK571.out; obtain ⟨Ao47, co47, eo47⟩ := Kd.R_slice HO569.out; subst eo47) | ((with_reducible refine gate_callee (f := 31) rfl ?_); refine gL_ (some 16) Try.func31 #[.agg #[.slice Ao45 t563.length co45, .int .i64 t566, .slice Ao47 t567.length co47], .int .i64 t570] ?_; (with_reducible refine (impl_IdomOf.calls k _ _ t563 t566 _ _ t567 t570 t572 _ ?side1 ?side2 ?side3 ?side4 A5.out).mono ?_); (case side1 => refine (Kd.R_reads' (e := 2) (base := w.heap.size) (ok := fun k_ => True) (n := t563.length) (c := co45) ?_).2.2; exact (by (with_reducible repeat (first | apply Kd.R_alloc | apply Kd.R_drewN | apply Kd.R_drew)); exact (rf3_ HO565.out BK571.out (by decide) (.slice Ao45 t563.length co45) (.int .i64 t566) (.slice Ao47 t567.length co47)))); (case side2 => exact (Kd.R_reads' HO565.out).2.1); (case side3 => refine (Kd.R_reads' (e := 88) (base := w.heap.size) (ok := fun k_ => some k_ ≠ (.slice Ao45 t563.length co45 : Value).ownBlock) (n := t567.length) (c := co47) ?_).2.2; exact (by (with_reducible repeat (first | apply Kd.R_alloc | apply Kd.R_drewN | apply Kd.R_drew)); exact (rf3_ HO569.out BK571.out (by decide) (.slice Ao45 t563.length co45) (.int .i64 t566) (.slice Ao47 t567.length co47)))); (case side4 => exact (Kd.R_reads' HO569.out).2.1); rintro e w48 ⟨rfl, hb⟩; refine ⟨_, rfl, ?_⟩; have n0_ := Aside0.mk (Kd.R_below (by (with_reducible repeat (first | apply Kd.R_alloc | apply Kd.R_drewN | apply Kd.R_drew)); exact (rf3_ HO565.out BK571.out (by decide) (.slice Ao45 t563.length co45) (.int .i64 t566) (.slice Ao47 t567.length co47))) hb); have n1_ := Aside0.mk (Kd.R_below (by (with_reducible repeat (first | apply Kd.R_alloc | apply Kd.R_drewN | apply Kd.R_drew)); exact (rf3_ HO569.out BK571.out (by decide) (.slice Ao45 t563.length co45) (.int .i64 t566) (.slice Ao47 t567.length co47))) hb); have n2_ := Aside0.mk (blk_below (g := gb571) (o := .cells #[.slice Ao45 t563.length co45, .int .i64 t566, .slice Ao47 t567.length co47] 41 (0, 0)) (by (with_reducible repeat (first | refine blk_drewN ?_ _ | refine blk_drew ?_ | refine blk_alloc ?_ _)); refine blk_put (cs := #[.slice Ao45 t563.length co45, .int .i64 t566, .slice none 0 0]) ?_ 2 _ rfl; (with_reducible repeat (first | refine blk_drewN ?_ _ | refine blk_drew ?_ | refine blk_alloc ?_ _)); refine blk_put (cs := #[.slice Ao45 t563.length co45, .int .i64 0, .slice none 0 0]) ?_ 1 _ rfl; (with_reducible repeat (first | refine blk_drewN ?_ _ | refine blk_drew ?_ | refine blk_alloc ?_ _)); refine blk_put (cs := #[.slice none 0 0, .int .i64 0, .slice none 0 0]) ?_ 0 _ rfl; (with_reducible repeat (first | refine blk_drewN ?_ _ | refine blk_drew ?_ | refine blk_alloc ?_ _)); exact BK571.out) hb); have n3_ := Aside0.mk (below_step hS_ hb); clear HO565; clear HO569; clear BK571; clear HB; have HO565 := n0_; have HO569 := n1_; have BK571 := n2_; have HB := n3_; clear n0_ n1_ n2_ n3_; (try clear hb); (try clear hb2); (try clear hk); (try clear hi); obtain ⟨hcz49_0, hcz49_1, hcz49_2, hfz49_0, hfz49_1, hfz49_2⟩ := blkc3_ BK571.out) | ((with_reducible refine gate_callee (f := 32) rfl ?_); refine gL_ (some 20) Try.func32 #[.agg #[.slice Ao45 t563.length co45, .int .i64 t566, .slice Ao47 t567.length co47], .int .i64 t570] ?_; (with_reducible refine (spec_IdomOf.calls k _ _ t563 t566 _ _ t567 t570 t573 _ ?side1 ?side2 ?side3 ?side4 A6.out).mono ?_); (case side1 => repeat (first | exact (Kd.R_reads' HO565.out).2.2 | (with_reducible refine Kd.C_alloc ?_ _) | (with_reducible refine Kd.C_drewN ?_ _) | (with_reducible refine Kd.C_drew ?_))); (case side2 => exact (Kd.R_reads' HO565.out).2.1); (case side3 => repeat (first | exact (Kd.R_reads' HO569.out).2.2 | (with_reducible refine Kd.C_alloc ?_ _) | (with_reducible refine Kd.C_drewN ?_ _) | (with_reducible refine Kd.C_drew ?_))); (case side4 => exact (Kd.R_reads' HO569.out).2.1); rintro e w50 ⟨rfl, hb⟩; refine ⟨_, rfl, ?_⟩; have n0_ := Aside0.mk (Kd.R_below rHO565_ hb); have n1_ := Aside0.mk (Kd.R_below rHO569_ hb); have n2_ := Aside0.mk (blk_below (g := gb571) (o := .cells #[.slice Ao45 t563.length co45, .int .i64 t566, .slice Ao47 t567.length co47] 41 (0, 0)) bK571_ hb); have n3_ := Aside0.mk (below_step hS_ hb); clear HO565; clear HO569; clear BK571; clear HB; have HO565 := n0_; have HO569 := n1_; have BK571 := n2_; have HB := n3_; clear n0_ n1_ n2_ n3_; (try clear hb); (try clear hb2); (try clear hk); (try clear hi)))
   go_ret
   exact ⟨rG_, hS_⟩
/-- THE ONE PURE STATEMENT of laws_FnIdom: yours. -/
def laws_FnIdom.Pure : Prop := ∀ (l0 : List Int), l0.length ≤ maxLen → l0.length * 1 ≤ 140737488351232 → (∀ x ∈ l0, (Lit.int .u8 x).wf = true) → ∃ k, laws_FnIdom.f k l0 = some true
theorem laws_FnIdom.walk (P : laws_FnIdom.Pure) (a0 : Option Addr) (len0 cap0 : Nat) (z0 : List Int) (w : World) (w0 : (a0 = none ∧ len0 = 0 ∧ cap0 = 0 ∧ z0 = []) ∨ ∃ x, a0 = some x ∧ len0 ≤ cap0 ∧ cap0 ≤ maxLen ∧ z0.length = cap0 ∧ (∀ i, i < z0.length → w.cell? (x.add i) = some (.int .u8 (z0.getD i 0))) ∧ ∀ n ∈ z0, (Lit.int .u8 n).wf = true) (y0 : len0 * 1 ≤ 140737488351232) :
  Calls Try.prog 6 #[.slice a0 len0 cap0] w fun e w' => e = .returned (.bool true) ∧ Below w.heap.size w w' := by
 obtain ⟨l0, rfl, hr0, hm0, hw0, hc0⟩ := ReadsInt.ofRowC w0
 obtain ⟨k, h⟩ := P l0 hm0 y0 hw0
 refine (laws_FnIdom.calls k _ _ l0 true w (Kd.C_of_reads (d := (0 : Int)) (h1 := fun _ => rfl) hr0) hc0 h).mono ?_
 rintro e w' ⟨rfl, hd⟩
 exact ⟨rfl, hd⟩
end Go.Proofs.Ytjkbafcepblacaa.X
namespace Go.Proofs.Ytjkbafcepblacaa.X
set_option linter.unusedVariables false
set_option linter.unusedSimpArgs false
open Go.RowKit Go.Proofs.YtjkbafcepblacaaW.PrintWords Go.Proofs.YtjkbafcepblacaaW.PrintLast Go.Proofs.YtjkbafcepblacaaW.PrintMore
theorem Ev.succ {α : Type} {g : Nat → Option α} {r : α} (h : Ev (fun k => g (k + 1)) r) : Ev g r := Ev.step (f := fun k => g (k + 1)) (fun _ => rfl) h
theorem Ev.cst {α : Type} {o : Option α} {r : α} (h : o = some r) : Ev (fun _ => o) r := ⟨0, fun _ _ => h⟩
theorem Ev.uniq {α : Type} {g : Nat → Option α} {r s : α} (h : Ev g r) (k : Ev g s) : r = s := by
  obtain ⟨K, h⟩ := h
  obtain ⟨K', k⟩ := k
  have a := h (max K K') (by omega)
  have b := k (max K K') (by omega)
  rw [a] at b; exact Option.some.inj b
theorem Ev.ipos {α : Type} {c : Prop} [Decidable c] {f g : Nat → Option α} {r : α} (hc : c) (h : Ev f r) : Ev (fun k => if c then f k else g k) r := Ev.congr (fun _ => if_pos hc) h
theorem Ev.ineg {α : Type} {c : Prop} [Decidable c] {f g : Nat → Option α} {r : α} (hc : ¬ c) (h : Ev g r) : Ev (fun k => if c then f k else g k) r := Ev.congr (fun _ => if_neg hc) h
theorem Ev.rw {α : Type} {g : Nat → Option α} {r s : α} (h : Ev g r) (e : r = s) : Ev g s := e ▸ h
theorem w64 {x : Int} (h0 : -9223372036854775808 ≤ x) (h1 : x ≤ 9223372036854775807) : wrap64 x = x := by unfold wrap64; omega
theorem getD_at {α : Type} (l : List α) (z : α) (j : Nat) (h : j < l.length) : l.getD j z = l[j] := by simp [List.getD, List.getElem?_eq_getElem h]
end Go.Proofs.Ytjkbafcepblacaa.X
namespace Go.Proofs.Ytjkbafcepblacaa.X
set_option linter.unusedVariables false
set_option linter.unusedSimpArgs false
open Go.RowKit Go.Proofs.YtjkbafcepblacaaW.PrintWords Go.Proofs.YtjkbafcepblacaaW.PrintLast Go.Proofs.YtjkbafcepblacaaW.PrintMore
abbrev Block := S88
def len {α : Type} (l : List α) : Int := (l.length : Int)
def smI (l : List Int) : Prop := l.length ≤ 1048576
end Go.Proofs.Ytjkbafcepblacaa.X
namespace Go.Proofs.Ytjkbafcepblacaa.X
set_option linter.unusedVariables false
set_option linter.unusedSimpArgs false
open Go.RowKit Go.Proofs.YtjkbafcepblacaaW.PrintWords Go.Proofs.YtjkbafcepblacaaW.PrintLast Go.Proofs.YtjkbafcepblacaaW.PrintMore
theorem specIn_eq (a b c : Int) : spec_l1In.f a b c = some (decide (b ≤ a ∧ a ≤ c)) := by
  unfold spec_l1In.f
  by_cases h : a ≥ b
  · rw [if_pos h]; have h' : b ≤ a := h; simp [h']
  · rw [if_neg h]; have h' : ¬ b ≤ a := h; simp [h']
theorem specCopy_eq (l : List Int) (h : smI l) : spec_l1Copy.f l = some l := by
  unfold spec_l1Copy.f
  unfold smI at h
  simp only [Option.bind_some, List.length_nil, List.nil_append]
  rw [if_pos (by omega)]
theorem implIn_eq (a b c : Int) : impl_within.f a b c = some (decide (b ≤ a ∧ a ≤ c)) := by
  unfold impl_within.f
  by_cases h : a ≥ b
  · rw [if_pos h]; have h' : b ≤ a := h; simp [h']
  · rw [if_neg h]; have h' : ¬ b ≤ a := h; simp [h']
end Go.Proofs.Ytjkbafcepblacaa.X
namespace Go.Proofs.Ytjkbafcepblacaa.X
set_option linter.unusedVariables false
set_option linter.unusedSimpArgs false
open Go.RowKit Go.Proofs.YtjkbafcepblacaaW.PrintWords Go.Proofs.YtjkbafcepblacaaW.PrintLast Go.Proofs.YtjkbafcepblacaaW.PrintMore
/-- The places that are marked, from i on. -/
def idx : List Bool → Int → List Int
  | [], _ => []
  | x :: l, i => if x = true then i :: idx l (i + 1) else idx l (i + 1)
theorem idx_ge : ∀ (l : List Bool) (i n : Int), n ∈ idx l i → i ≤ n
  | [], i, n, h => by simp [idx] at h
  | x :: l, i, n, h => by
    simp only [idx] at h
    split at h
    · rcases List.mem_cons.1 h with rfl | h
      · omega
      · have := idx_ge l (i + 1) n h; omega
    · have := idx_ge l (i + 1) n h; omega
theorem mem_idx : ∀ (l : List Bool) (i : Int) (b : Nat), (i + b) ∈ idx l i ↔ l.getD b false = true
  | [], i, b => by simp [idx]
  | x :: l, i, 0 => by
    simp only [idx]
    have hn : ¬ (i ∈ idx l (i + 1)) := fun h => by have := idx_ge _ _ _ h; omega
    by_cases hx : x = true
    · simp [hx]
    · rw [if_neg hx]
      simp only [Int.natCast_zero, Int.add_zero, List.getD_cons_zero]
      exact ⟨fun h => absurd h hn, fun h => absurd h hx⟩
  | x :: l, i, b + 1 => by
    have ih := mem_idx l (i + 1) b
    rw [show i + 1 + (b : Int) = i + ((b + 1 : Nat) : Int) by push_cast; omega] at ih
    simp only [idx, List.getD_cons_succ]
    split
    · rw [List.mem_cons, ih]
      exact ⟨fun h => h.elim (fun h => by exfalso; push_cast at h; omega) id, .inr⟩
    · exact ih
theorem mem_idx0 (l : List Bool) (b : Int) (h : 0 ≤ b) : b ∈ idx l 0 ↔ l.getD b.toNat false = true := by
  have := mem_idx l 0 b.toNat
  rw [show (0 : Int) + (b.toNat : Int) = b by omega] at this
  exact this
theorem idx_length : ∀ (l : List Bool) (i : Int), (idx l i).length ≤ l.length
  | [], i => by simp [idx]
  | x :: l, i => by
    have := idx_length l (i + 1)
    simp only [idx]
    split <;> simp <;> omega
/-- A number put into a list of numbers that rise. -/
def putI (n : Int) : List Int → List Int
  | [] => [n]
  | x :: l => if x < n then x :: putI n l else n :: x :: l
theorem putI_ge (n : Int) : ∀ (l : List Int), (∀ x ∈ l, n ≤ x) → putI n l = n :: l
  | [], _ => rfl
  | x :: l, h => by simp only [putI]; rw [if_neg (by have := h x (by simp); omega)]
theorem idx_set : ∀ (l : List Bool) (i : Int) (b : Nat), b < l.length → l.getD b false = false → idx (l.set b true) i = putI (i + b) (idx l i)
  | [], i, b, h, _ => by simp at h
  | x :: l, i, 0, h, hx => by
    simp only [List.getD_cons_zero] at hx
    subst hx
    simp only [List.set_cons_zero, idx, if_true, Int.natCast_zero, Int.add_zero]
    rw [if_neg (by decide), putI_ge]
    intro y hy
    have := idx_ge _ _ _ hy; omega
  | x :: l, i, b + 1, h, hx => by
    have ih := idx_set l (i + 1) b (by simpa using h) (by simpa using hx)
    rw [show i + 1 + (b : Int) = i + ((b + 1 : Nat) : Int) by push_cast; omega] at ih
    simp only [List.set_cons_succ, idx, ih]
    split
    · simp only [putI]; rw [if_pos (by push_cast; omega)]
    · rfl
/-- Where a block leads. -/
def succsOf (b : Block) : List Int := if b.f2.f0 = 2 then [b.f2.f2] else if b.f2.f0 = 3 then [b.f2.f2, b.f2.f3] else []
theorem succsOf_len (b : Block) : (succsOf b).length ≤ 2 := by
  unfold succsOf
  split
  · simp
  · split <;> simp
/-- All ends lead to blocks, of which there are at most ten. -/
def There (l : List Block) : Prop := l.length ≤ 10 ∧ ∀ b ∈ l, ∀ s ∈ succsOf b, 0 ≤ s ∧ s < l.length
instance (l : List Block) : Decidable (There l) := by unfold There; infer_instance
def bfs (l : List Block) (w : Int) : Nat → List Int → List Bool → List Bool
  | 0, _, out => out
  | _ + 1, [], out => out
  | n + 1, b :: q, out => if b = w ∨ out.getD b.toNat false = true then bfs l w n q out else bfs l w n (q ++ succsOf (l.getD b.toNat z88)) (out.set b.toNat true)
theorem bfs_length (l : List Block) (w : Int) : ∀ (n : Nat) (q : List Int) (out : List Bool), (bfs l w n q out).length = out.length
  | 0, _, _ => rfl
  | _ + 1, [], _ => rfl
  | n + 1, b :: q, out => by
    simp only [bfs]
    split
    · exact bfs_length l w n q out
    · rw [bfs_length l w n _ _]; simp
/-- How many are not marked. -/
def off (out : List Bool) : Nat := out.count false
theorem off_set : ∀ (out : List Bool) (b : Nat), b < out.length → out.getD b false = false → off (out.set b true) + 1 = off out
  | [], b, h, _ => by simp at h
  | x :: l, 0, h, hx => by
    simp only [List.getD_cons_zero] at hx
    subst hx
    simp [off]
  | x :: l, b + 1, h, hx => by
    have ih := off_set l b (by simpa using h) (by simpa using hx)
    unfold off at ih ⊢
    simp only [List.set_cons_succ, List.count_cons]
    omega
/-- What may stand in the queue. -/
def okq (l : List Block) (q : List Int) : Prop := ∀ b ∈ q, 0 ≤ b ∧ b < (l.length : Int)
theorem okq_next {l : List Block} {b : Int} {q : List Int} (h : There l) (hq : okq l (b :: q)) : okq l (q ++ succsOf (l.getD b.toNat z88)) := by
  obtain ⟨h0, h1⟩ := hq b (by simp)
  have hlt : b.toNat < l.length := by omega
  intro c hc
  rcases List.mem_append.1 hc with hc | hc
  · exact hq c (by simp [hc])
  · rw [getD_at l _ _ hlt] at hc
    exact h.2 _ (List.getElem_mem hlt) c hc
/-- The blocks that are reached without w. -/
def reachB (l : List Block) (w : Int) : List Bool := bfs l w (3 * l.length + 1) [0] (List.replicate l.length false)
theorem reachB_length (l : List Block) (w : Int) : (reachB l w).length = l.length := by unfold reachB; rw [bfs_length]; simp
theorem off_replicate (n : Nat) : off (List.replicate n false) = n := by unfold off; simp
theorem idx_replicate : ∀ (n : Nat) (i : Int), idx (List.replicate n false) i = []
  | 0, _ => rfl
  | n + 1, i => by simp only [List.replicate_succ, idx]; rw [if_neg (by decide)]; exact idx_replicate n (i + 1)
def domB (l : List Block) (a b : Int) : Bool := (reachB l (-1)).getD b.toNat false && !((reachB l a).getD b.toNat false)
theorem has_l (l : List Int) (n : Int) (h : smI l) : ∀ (d i : Nat), i + d = l.length → Ev (fun k => spec_l1Has.l0 k l n i) (decide (n ∈ l.drop i)) := by
  unfold smI at h
  intro d
  induction d with
  | zero =>
    intro i hi
    refine Ev.step (fun k => rfl) (Ev.ineg (by omega) (Ev.rw (Ev.now _) ?_))
    rw [List.drop_of_length_le (by omega)]; simp
  | succ d ih =>
    intro i hi
    have hlt : i < l.length := by omega
    refine Ev.step (fun k => rfl) (Ev.ipos (by omega) (Ev.ipos (by omega) ?_))
    rw [show rd l (i : Int) = l[i] from getD_at l _ i hlt, List.drop_eq_getElem_cons hlt]
    by_cases c : l[i] = n
    · exact Ev.ipos c (Ev.rw (Ev.now _) (by simp [c]))
    · refine Ev.ineg c ?_
      rw [show wrap64 ((i : Int) + 1) = ((i + 1 : Nat) : Int) by rw [w64 (by omega) (by omega)]; rfl]
      refine Ev.rw (ih (i + 1) (by omega)) ?_
      rw [decide_eq_decide, List.mem_cons]
      exact ⟨.inr, fun h => h.elim (fun e => absurd e.symm c) id⟩
theorem has_ev (l : List Int) (n : Int) (h : smI l) : Ev (fun k => spec_l1Has.f k l n) (decide (n ∈ l)) := by
  have := has_l l n h l.length 0 (by omega)
  rw [List.drop_zero] at this
  exact this
theorem put_l (l : List Int) (n : Int) (h : smI l) (hn : n ∉ l) : ∀ (d i : Nat), i + d = l.length → Ev (fun k => spec_l1Put.l0 k l n i) (l.take i ++ putI n (l.drop i)) := by
  unfold smI at h
  intro d
  induction d with
  | zero =>
    intro i hi
    obtain rfl : i = l.length := by omega
    refine Ev.step (fun k => rfl) (Ev.ineg (by omega) ?_)
    rw [List.drop_of_length_le (Nat.le_refl _), List.take_of_length_le (Nat.le_refl _)]
    refine Ev.cst ?_
    simp only [Option.bind_some, Int.toNat_natCast, List.nil_append, List.length_nil, List.take_length, List.drop_length, List.append_nil]
    rw [if_pos (by omega), if_pos (by omega), if_pos (by omega), if_pos (by omega), if_pos (by simp; omega)]
    rfl
  | succ d ih =>
    intro i hi
    have hlt : i < l.length := by omega
    refine Ev.step (fun k => rfl) (Ev.ipos (by omega) (Ev.ipos (by omega) ?_))
    rw [show rd l (i : Int) = l[i] from getD_at l _ i hlt]
    by_cases c : l[i] < n
    · refine Ev.ipos c ?_
      rw [show wrap64 ((i : Int) + 1) = ((i + 1 : Nat) : Int) by rw [w64 (by omega) (by omega)]; rfl]
      refine Ev.rw (ih (i + 1) (by omega)) ?_
      rw [List.drop_eq_getElem_cons hlt, List.take_succ_eq_append_getElem hlt]
      simp only [putI]
      rw [if_pos c, List.append_assoc]; rfl
    · refine Ev.ineg c (Ev.ineg (fun e => hn (e ▸ List.getElem_mem hlt)) (Ev.cst ?_))
      simp only [Option.bind_some, Int.toNat_natCast, List.nil_append, List.length_nil]
      have hm : (List.take i l).length = i := by rw [List.length_take]; omega
      rw [if_pos (by omega), if_pos (by omega), if_pos (by omega), if_pos (by simp; omega)]
      have e : putI n (l.drop i) = n :: l.drop i := by
        rw [List.drop_eq_getElem_cons hlt]
        simp only [putI]
        rw [if_neg c]
      rw [e, List.append_assoc]; rfl
theorem put_ev (l : List Int) (n : Int) (h : smI l) (hn : n ∉ l) : Ev (fun k => spec_l1Put.f k l n) (putI n l) := by
  have := put_l l n h hn l.length 0 (by omega)
  rw [List.drop_zero, List.take_zero, List.nil_append] at this
  exact this
theorem implLeads_eq (b : Block) : impl_leadsTo.f b.f2.f0 b.f2.f1 b.f2.f2 b.f2.f3 = some (succsOf b) := by
  unfold impl_leadsTo.f succsOf
  by_cases c2 : b.f2.f0 = 2
  · rw [if_pos c2, if_pos c2]
  · rw [if_neg c2, if_neg c2]
    by_cases c3 : b.f2.f0 = 3
    · rw [if_pos c3, if_pos c3]
    · rw [if_neg c3, if_neg c3]
theorem specSuccs_eq (p : List Int) (r : Int) (l : List Block) (x : Int) (h0 : 0 ≤ x) (h1 : x < (l.length : Int)) : spec_l3Succs.f p r l x = some (succsOf (l.getD x.toNat z88)) := by
  have e : rd_T88 l x = l.getD x.toNat z88 := rfl
  unfold spec_l3Succs.f
  rw [if_pos h0, if_pos h1, e]
  generalize l.getD x.toNat z88 = b
  unfold succsOf
  by_cases c2 : b.f2.f0 = 2
  · rw [if_pos c2, if_pos c2]
  · rw [if_neg c2, if_neg c2]
    by_cases c3 : b.f2.f0 = 3
    · rw [if_pos c3, if_pos c3]
    · rw [if_neg c3, if_neg c3]
theorem okq_tail {l : List Block} {b : Int} {q : List Int} (hq : okq l (b :: q)) : okq l q := fun c hc => hq c (by simp [hc])
theorem implReach_l (p : List Int) (r : Int) (l : List Block) (w : Int) (ht : There l) : ∀ (n : Nat) (q : List Int) (out : List Bool), n ≤ 100 → okq l q → out.length = l.length → q.length + 3 * off out ≤ n → Ev (fun k => impl_reach.l0 k w out q p r l) (bfs l w n q out)
  | 0, [], out, _, _, _, _ => Ev.step (fun k => rfl) (Ev.ineg (by simp) (Ev.now _))
  | 0, b :: q, out, _, _, _, hm => by simp at hm
  | n + 1, [], out, _, _, _, _ => Ev.step (fun k => rfl) (Ev.ineg (by simp) (Ev.now _))
  | n + 1, b :: q, out, hn, hq, ho, hm => by
    obtain ⟨h0, h1⟩ := hq b (by simp)
    have hl : ((b :: q).length : Int) = (q.length : Int) + 1 := by simp
    simp only [List.length_cons] at hm
    refine Ev.step (fun k => rfl) (Ev.ipos (by omega) (Ev.ipos (by omega) (Ev.ipos (by omega) (Ev.bind (a := q) (Ev.cst rfl) ?_))))
    rw [show rd (b :: q) 0 = b from rfl]
    by_cases hb : b = w
    · refine Ev.ipos hb (Ev.rw (implReach_l p r l w ht n q out (by omega) (okq_tail hq) ho (by omega)) ?_)
      simp only [bfs]; rw [if_pos (Or.inl hb)]
    · refine Ev.ineg hb (Ev.ipos h0 (Ev.ipos (by omega) ?_))
      by_cases hv : out.getD b.toNat false = true
      · refine Ev.ipos hv (Ev.rw (implReach_l p r l w ht n q out (by omega) (okq_tail hq) ho (by omega)) ?_)
        simp only [bfs]; rw [if_pos (Or.inr hv)]
      · have hf : out.getD b.toNat false = false := by simpa using hv
        have hs := succsOf_len (l.getD b.toNat z88)
        have hd := off_set out b.toNat (by omega) hf
        refine Ev.ineg hv (Ev.ipos h1 (Ev.bind (Ev.cst (implLeads_eq _)) (Ev.ipos (by show q.length + (succsOf (l.getD b.toNat z88)).length < _; omega) ?_)))
        refine Ev.rw (implReach_l p r l w ht n (q ++ succsOf (l.getD b.toNat z88)) (out.set b.toNat true) (by omega) (okq_next ht hq) (by simpa using ho) (by rw [List.length_append]; omega)) ?_
        simp only [bfs]; rw [if_neg (fun h => h.elim hb hv)]
theorem smI_small {l : List Int} (h : l.length ≤ 200) : smI l := Nat.le_trans h (by decide)
theorem specReach_l (p : List Int) (r : Int) (l : List Block) (w : Int) (ht : There l) : ∀ (n : Nat) (q : List Int) (out : List Bool), n ≤ 100 → okq l q → out.length = l.length → q.length + 3 * off out ≤ n → Ev (fun k => spec_l3Reach.l0 k w (idx out 0) q p r l) (idx (bfs l w n q out) 0)
  | 0, [], out, _, _, _, _ => Ev.succ (by simp only [spec_l3Reach.l0]; exact Ev.ineg (by simp) (Ev.now _))
  | 0, b :: q, out, _, _, _, hm => by simp at hm
  | n + 1, [], out, _, _, _, _ => Ev.succ (by simp only [spec_l3Reach.l0]; exact Ev.ineg (by simp) (Ev.now _))
  | n + 1, b :: q, out, hn, hq, ho, hm => by
    obtain ⟨h0, h1⟩ := hq b (by simp)
    have hl : ((b :: q).length : Int) = (q.length : Int) + 1 := by simp
    simp only [List.length_cons] at hm
    have ht10 := ht.1
    have hi : smI (idx out 0) := smI_small (by have := idx_length out 0; omega)
    have hqs : smI q := smI_small (by omega)
    refine Ev.succ ?_
    simp only [spec_l3Reach.l0]
    refine Ev.ipos (by omega) (Ev.ipos (by omega) (Ev.ipos (by omega) (Ev.bind (a := q) (Ev.cst (specCopy_eq q hqs)) ?_)))
    rw [show rd (b :: q) 0 = b from rfl]
    have hj : ∀ x : Bool, x = true → Ev (fun k => spec_l3Reach.j1 k w (idx out 0) q b x p r l) (idx (bfs l w n q out) 0) := by
      intro x hx
      subst hx
      refine Ev.succ ?_
      simp only [spec_l3Reach.j1]
      exact Ev.ipos trivial (specReach_l p r l w ht n q out (by omega) (okq_tail hq) ho (by omega))
    by_cases hb : b = w
    · refine Ev.ipos hb (Ev.rw (hj true rfl) ?_)
      simp only [bfs]; rw [if_pos (Or.inl hb)]
    · refine Ev.ineg hb (Ev.bind (has_ev _ b hi) ?_)
      by_cases hv : out.getD b.toNat false = true
      · refine Ev.rw (hj _ (decide_eq_true ((mem_idx0 out b h0).2 hv))) ?_
        simp only [bfs]; rw [if_pos (Or.inr hv)]
      · have hf : out.getD b.toNat false = false := by simpa using hv
        have hs := succsOf_len (l.getD b.toNat z88)
        have hd := off_set out b.toNat (by omega) hf
        have hni : b ∉ idx out 0 := fun h => hv ((mem_idx0 out b h0).1 h)
        have hset : idx (out.set b.toNat true) 0 = putI b (idx out 0) := by
          have := idx_set out 0 b.toNat (by omega) hf
          rw [show (0 : Int) + (b.toNat : Int) = b by omega] at this
          exact this
        refine Ev.succ ?_
        simp only [spec_l3Reach.j1]
        rw [decide_eq_false hni]
        refine Ev.ineg (by decide) (Ev.bind (put_ev _ b hi hni) (Ev.bind (Ev.cst (specSuccs_eq p r l b h0 h1)) (Ev.ipos (by omega) ?_)))
        rw [← hset]
        refine Ev.rw (specReach_l p r l w ht n (q ++ succsOf (l.getD b.toNat z88)) (out.set b.toNat true) (by omega) (okq_next ht hq) (by simpa using ho) (by rw [List.length_append]; omega)) ?_
        simp only [bfs]; rw [if_neg (fun h => h.elim hb hv)]
theorem okq_first {l : List Block} (h : 0 < l.length) : okq l [0] := fun b hb => by
  obtain rfl : b = 0 := by simpa using hb
  omega
theorem implReach_ev (p : List Int) (r : Int) (l : List Block) (w : Int) (ht : There l) (h : 0 < l.length) : Ev (fun k => impl_reach.f k p r l w) (reachB l w) := by
  have ht10 := ht.1
  refine Ev.ipos (by omega) (Ev.ipos (by simp; omega) ?_)
  rw [show ((l.length : Int)).toNat = l.length from by simp]
  exact implReach_l p r l w ht (3 * l.length + 1) [0] _ (by omega) (okq_first h) (by simp) (by rw [off_replicate]; simp; omega)
theorem specReach_ev (p : List Int) (r : Int) (l : List Block) (w : Int) (ht : There l) (h : 0 < l.length) : Ev (fun k => spec_l3Reach.f k p r l w) (idx (reachB l w) 0) := by
  have ht10 := ht.1
  have hz := idx_replicate l.length 0
  refine Ev.bind (a := []) (Ev.cst rfl) ?_
  by_cases hw : w = 0
  · subst hw
    refine Ev.ipos rfl (Ev.rw (Ev.now _) ?_)
    unfold reachB
    rw [show 3 * l.length + 1 = (3 * l.length - 1 + 1) + 1 by omega]
    simp only [bfs]
    rw [if_pos (Or.inl trivial), hz]
  · refine Ev.ineg hw ?_
    have := specReach_l p r l w ht (3 * l.length + 1) [0] (List.replicate l.length false) (by omega) (okq_first h) (by simp) (by rw [off_replicate]; simp; omega)
    rw [hz] at this
    exact this
/-- All ends lead to blocks (any number of blocks). -/
def EndsOk (l : List Block) : Prop := ∀ b ∈ l, ∀ s ∈ succsOf b, 0 ≤ s ∧ s < (l.length : Int)
instance (l : List Block) : Decidable (EndsOk l) := by unfold EndsOk; infer_instance
theorem There_iff (l : List Block) : There l ↔ l.length ≤ 10 ∧ EndsOk l := Iff.rfl
theorem implGraph_eq (p : List Int) (r : Int) (l : List Block) (h : l.length ≤ 1048576) : impl_isGraph.f p r l = some (decide (1 ≤ l.length ∧ There l)) := by
  have hw : wrap64 ((l.length : Int) - 1) = (l.length : Int) - 1 := w64 (by omega) (by omega)
  unfold impl_isGraph.f
  congr 1
  have key : ∀ b : Block, ((impl_isGraph.ends b).any (impl_isGraph.far (l.length : Int)) = true) ↔ ∃ s ∈ succsOf b, ¬ (0 ≤ s ∧ s < (l.length : Int)) := by
    intro b
    rw [List.any_eq_true]
    constructor
    · rintro ⟨s, hs, hf⟩
      refine ⟨s, hs, ?_⟩
      unfold impl_isGraph.far at hf
      rw [hw] at hf
      simp at hf
      omega
    · rintro ⟨s, hs, hf⟩
      refine ⟨s, hs, ?_⟩
      unfold impl_isGraph.far
      rw [hw]
      simp
      omega
  have e : (!(l.any fun b => (impl_isGraph.ends b).any (impl_isGraph.far (l.length : Int)))) = decide (EndsOk l) := by
    rw [Bool.eq_iff_iff, decide_eq_true_eq, Bool.not_eq_true', List.any_eq_false]
    constructor
    · intro hh b hb s hs
      exact Classical.byContradiction fun c => hh b hb ((key b).2 ⟨s, hs, c⟩)
    · intro hh b hb hany
      obtain ⟨s, hs, c⟩ := (key b).1 hany
      exact c (hh b hb s hs)
  rw [e, Bool.eq_iff_iff, Bool.and_eq_true, decide_eq_true_eq, decide_eq_true_eq, decide_eq_true_eq, There_iff]
  constructor
  · rintro ⟨⟨h1, h2⟩, h3⟩; exact ⟨by omega, by omega, h3⟩
  · rintro ⟨h1, h2, h3⟩; exact ⟨⟨by omega, by omega⟩, h3⟩
theorem specThere_l1 (p : List Int) (r : Int) (l : List Block) (a : Int) (h : l.length ≤ 1048576) (i : Nat) (hil : i < l.length) (s : List Int) (hs : s.length ≤ 2) (R : Bool) (hR : Ev (fun k => spec_l3There.l0 k a (l.length : Int) ((i + 1 : Nat) : Int) p r l) R) :
    ∀ (d j : Nat), j + d = s.length → Ev (fun k => spec_l3There.l1 k a (l.length : Int) i s j p r l) (decide (∀ x ∈ s.drop j, 0 ≤ x ∧ x < (l.length : Int)) && R) := by
  have hw : wrap64 ((l.length : Int) - 1) = (l.length : Int) - 1 := w64 (by omega) (by omega)
  intro d
  induction d with
  | zero =>
    intro j hj
    refine Ev.succ ?_
    simp only [spec_l3There.l1]
    refine Ev.ineg (by omega) ?_
    rw [show wrap64 ((i : Int) + 1) = ((i + 1 : Nat) : Int) by rw [w64 (by omega) (by omega)]; rfl]
    refine Ev.rw hR ?_
    rw [List.drop_of_length_le (by omega)]; simp
  | succ d ih =>
    intro j hj
    have hlt : j < s.length := by omega
    refine Ev.succ ?_
    simp only [spec_l3There.l1]
    rw [hw, show rd s (j : Int) = s[j] from getD_at s _ j hlt]
    refine Ev.ipos (by omega) (Ev.ipos (by omega) (Ev.bind (Ev.cst (specIn_eq _ _ _)) ?_))
    rw [List.drop_eq_getElem_cons hlt]
    by_cases c : 0 ≤ s[j] ∧ s[j] ≤ (l.length : Int) - 1
    · refine Ev.ipos (decide_eq_true c) ?_
      rw [show wrap64 ((j : Int) + 1) = ((j + 1 : Nat) : Int) by rw [w64 (by omega) (by omega)]; rfl]
      refine Ev.rw (ih (j + 1) (by omega)) ?_
      congr 1
      rw [decide_eq_decide]
      simp only [List.mem_cons, forall_eq_or_imp]
      exact ⟨fun h => ⟨⟨c.1, by omega⟩, h⟩, fun h => h.2⟩
    · refine Ev.ineg (by rw [decide_eq_false c]; decide) (Ev.rw (Ev.now _) ?_)
      rw [decide_eq_false (fun h => c (by have := h _ List.mem_cons_self; exact ⟨this.1, by omega⟩))]; rfl
theorem specThere_l0 (p : List Int) (r : Int) (l : List Block) (a : Int) (h : l.length ≤ 1048576) : ∀ (d i : Nat), i + d = l.length →
    Ev (fun k => spec_l3There.l0 k a (l.length : Int) i p r l) (decide (∀ b ∈ l.drop i, ∀ s ∈ succsOf b, 0 ≤ s ∧ s < (l.length : Int)) && (decide (0 ≤ a ∧ a ≤ (l.length : Int) - 1) && decide ((l.length : Int) ≤ 10))) := by
  have hw : wrap64 ((l.length : Int) - 1) = (l.length : Int) - 1 := w64 (by omega) (by omega)
  intro d
  induction d with
  | zero =>
    intro i hi
    refine Ev.succ ?_
    simp only [spec_l3There.l0]
    rw [hw]
    refine Ev.ineg (by omega) (Ev.bind (Ev.cst (specIn_eq _ _ _)) ?_)
    rw [List.drop_of_length_le (by omega), show decide (∀ b ∈ ([] : List Block), ∀ s ∈ succsOf b, 0 ≤ s ∧ s < (l.length : Int)) = true by simp, Bool.true_and]
    by_cases c : 0 ≤ a ∧ a ≤ (l.length : Int) - 1
    · rw [decide_eq_true c, Bool.true_and]; exact Ev.ipos rfl (Ev.now _)
    · rw [decide_eq_false c, Bool.false_and]; exact Ev.ineg (by decide) (Ev.now _)
  | succ d ih =>
    intro i hi
    have hlt : i < l.length := by omega
    refine Ev.succ ?_
    simp only [spec_l3There.l0]
    refine Ev.ipos (by omega) (Ev.bind (Ev.cst (specSuccs_eq p r l i (by omega) (by omega))) ?_)
    rw [show (i : Int).toNat = i from rfl, getD_at l _ i hlt]
    refine Ev.rw (specThere_l1 p r l a h i hlt (succsOf l[i]) (succsOf_len _) _ (ih (i + 1) (by omega)) _ 0 (Nat.zero_add _)) ?_
    rw [List.drop_zero, ← Bool.and_assoc, ← Bool.decide_and]
    congr 1
    rw [decide_eq_decide, List.drop_eq_getElem_cons hlt]
    simp only [List.mem_cons, forall_eq_or_imp]
theorem specThere_ev (p : List Int) (r : Int) (l : List Block) (a : Int) (h : l.length ≤ 1048576) : Ev (fun k => spec_l3There.f k p r l a) (decide ((0 ≤ a ∧ a < (l.length : Int)) ∧ There l)) := by
  refine Ev.rw (specThere_l0 p r l a h l.length 0 (by omega)) ?_
  rw [List.drop_zero, ← Bool.decide_and, ← Bool.decide_and, decide_eq_decide, There_iff]
  unfold EndsOk
  exact ⟨fun h => ⟨by omega, by omega, h.1⟩, fun h => ⟨h.2.2, by omega, by omega⟩⟩
theorem implBlockOf_eq (p : List Int) (r : Int) (l : List Block) (a : Int) (h : l.length ≤ 1048576) : impl_isBlockOf.f p r l a = some (decide ((0 ≤ a ∧ a < (l.length : Int)) ∧ There l)) := by
  unfold impl_isBlockOf.f
  rw [implGraph_eq p r l h]
  simp only [Option.bind_some]
  rw [w64 (x := (l.length : Int) - 1) (by omega) (by omega), implIn_eq]
  simp only [Option.bind_some]
  by_cases c : 1 ≤ l.length ∧ There l
  · rw [if_pos (decide_eq_true c)]
    congr 1
    rw [decide_eq_decide]
    exact ⟨fun h => ⟨by omega, c.2⟩, fun h => by omega⟩
  · rw [if_neg (by rw [decide_eq_false c]; decide), decide_eq_false (fun h => c ⟨by omega, h.2⟩)]
end Go.Proofs.Ytjkbafcepblacaa.X
namespace Go.Proofs.Ytjkbafcepblacaa.X
set_option linter.unusedVariables false
set_option linter.unusedSimpArgs false
open Go.RowKit Go.Proofs.YtjkbafcepblacaaW.PrintWords Go.Proofs.YtjkbafcepblacaaW.PrintLast Go.Proofs.YtjkbafcepblacaaW.PrintMore
/-- Where the block of a number leads. -/
def nexts (l : List Block) (a : Int) : List Int := succsOf (l.getD a.toNat z88)
/-- Reached from the first block over blocks of which P holds. -/
inductive Re (l : List Block) (P : Int → Prop) : Int → Prop
  | first : P 0 → Re l P 0
  | next {a b : Int} : Re l P a → b ∈ nexts l a → P b → Re l P b
theorem Re.holds {l : List Block} {P : Int → Prop} {b : Int} (h : Re l P b) : P b := by
  cases h with
  | first h => exact h
  | next _ _ h => exact h
theorem Re.mono {l : List Block} {P Q : Int → Prop} (hpq : ∀ x, P x → Q x) {b : Int} (h : Re l P b) : Re l Q b := by
  induction h with
  | first h => exact .first (hpq _ h)
  | next _ hb h ih => exact .next ih hb (hpq _ h)
theorem Re.range {l : List Block} {P : Int → Prop} (ht : There l) (h0 : 0 < l.length) {b : Int} (h : Re l P b) : 0 ≤ b ∧ b < (l.length : Int) := by
  induction h with
  | first _ => omega
  | @next a b _ hb _ ih =>
    have hlt : a.toNat < l.length := by omega
    unfold nexts at hb
    rw [getD_at l _ _ hlt] at hb
    exact ht.2 _ (List.getElem_mem hlt) _ hb
/-- The marks: each marked block is reached; where a marked block leads is marked, or waits, or is w. -/
structure Marks (l : List Block) (w : Int) (q : List Int) (out : List Bool) : Prop where
  len : out.length = l.length
  okq : okq l q
  sound : ∀ b : Int, 0 ≤ b → out.getD b.toNat false = true → Re l (· ≠ w) b
  queue : ∀ b ∈ q, b = w ∨ Re l (· ≠ w) b
  closed : ∀ a : Int, 0 ≤ a → out.getD a.toNat false = true → ∀ b ∈ nexts l a, b = w ∨ out.getD b.toNat false = true ∨ b ∈ q
  start : (0 : Int) = w ∨ out.getD 0 false = true ∨ (0 : Int) ∈ q
theorem getD_set_ne (out : List Bool) (i j : Nat) (h : i ≠ j) : (out.set i true).getD j false = out.getD j false := by
  simp [List.getD, List.getElem?_set, h]
theorem getD_set_eq (out : List Bool) (i : Nat) (h : i < out.length) : (out.set i true).getD i false = true := by
  simp [List.getD, List.getElem?_set, h]
theorem getD_set_le (out : List Bool) (i j : Nat) (h : out.getD j false = true) : (out.set i true).getD j false = true := by
  by_cases e : i = j
  · subst e
    refine getD_set_eq out i ?_
    rcases Nat.lt_or_ge i out.length with h' | h'
    · exact h'
    · rw [List.getD_eq_getElem?_getD, List.getElem?_eq_none h'] at h; cases h
  · rw [getD_set_ne out i j e]; exact h
theorem bfs_marks (l : List Block) (w : Int) (ht : There l) : ∀ (n : Nat) (q : List Int) (out : List Bool), Marks l w q out → q.length + 3 * off out ≤ n → Marks l w [] (bfs l w n q out)
  | 0, [], out, h, _ => h
  | 0, b :: q, out, _, hm => by simp at hm
  | n + 1, [], out, h, _ => h
  | n + 1, b :: q, out, h, hm => by
    obtain ⟨h0, h1⟩ := h.okq b (by simp)
    simp only [List.length_cons] at hm
    have hlt : b.toNat < out.length := by rw [h.len]; omega
    simp only [bfs]
    by_cases hc : b = w ∨ out.getD b.toNat false = true
    · rw [if_pos hc]
      refine bfs_marks l w ht n q out ⟨h.len, okq_tail h.okq, h.sound, fun x hx => h.queue x (by simp [hx]), ?_, ?_⟩ (by omega)
      · intro a ha hv x hx
        rcases h.closed a ha hv x hx with e | e | e
        · exact .inl e
        · exact .inr (.inl e)
        · rcases List.mem_cons.1 e with rfl | e
          · rcases hc with hc | hc
            · exact .inl hc
            · exact .inr (.inl hc)
          · exact .inr (.inr e)
      · rcases h.start with e | e | e
        · exact .inl e
        · exact .inr (.inl e)
        · rcases List.mem_cons.1 e with rfl | e
          · rcases hc with hc | hc
            · exact .inl hc
            · exact .inr (.inl hc)
          · exact .inr (.inr e)
    · rw [if_neg hc]
      have hbw : b ≠ w := fun e => hc (.inl e)
      have hbv : out.getD b.toNat false = false := by
        have : ¬ out.getD b.toNat false = true := fun e => hc (.inr e)
        simpa using this
      have hre : Re l (· ≠ w) b := (h.queue b (by simp)).resolve_left hbw
      have hs := succsOf_len (l.getD b.toNat z88)
      have hd := off_set out b.toNat hlt hbv
      refine bfs_marks l w ht n _ _ ⟨by simpa using h.len, okq_next ht h.okq, ?_, ?_, ?_, ?_⟩ (by rw [List.length_append]; omega)
      · intro a ha hv
        by_cases e : b.toNat = a.toNat
        · have : a = b := by omega
          subst this; exact hre
        · rw [getD_set_ne out _ _ e] at hv
          exact h.sound a ha hv
      · intro x hx
        rcases List.mem_append.1 hx with hx | hx
        · exact h.queue x (by simp [hx])
        · by_cases e : x = w
          · exact .inl e
          · exact .inr (.next hre hx e)
      · intro a ha hv x hx
        by_cases e : b.toNat = a.toNat
        · have : a = b := by omega
          subst this
          exact .inr (.inr (List.mem_append.2 (.inr hx)))
        · rw [getD_set_ne out _ _ e] at hv
          rcases h.closed a ha hv x hx with e' | e' | e'
          · exact .inl e'
          · exact .inr (.inl (getD_set_le out _ _ e'))
          · rcases List.mem_cons.1 e' with rfl | e'
            · exact .inr (.inl (getD_set_eq out _ hlt))
            · exact .inr (.inr (List.mem_append.2 (.inl e')))
      · rcases h.start with e' | e' | e'
        · exact .inl e'
        · exact .inr (.inl (getD_set_le out _ _ e'))
        · rcases List.mem_cons.1 e' with rfl | e'
          · exact .inr (.inl (getD_set_eq out _ hlt))
          · exact .inr (.inr (List.mem_append.2 (.inl e')))
theorem reach_marks (l : List Block) (w : Int) (ht : There l) (h0 : 0 < l.length) : Marks l w [] (reachB l w) := by
  have hno : ∀ i : Nat, (List.replicate l.length false).getD i false = false := by
    intro i
    rw [List.getD_eq_getElem?_getD, List.getElem?_replicate]
    split <;> rfl
  refine bfs_marks l w ht _ _ _ ⟨by simp, okq_first h0, ?_, ?_, ?_, .inr (.inr (by simp))⟩ (by rw [off_replicate]; simp; omega)
  · intro b _ hv; rw [hno] at hv; cases hv
  · intro b hb
    obtain rfl : b = 0 := by simpa using hb
    by_cases e : (0 : Int) = w
    · exact .inl e
    · exact .inr (.first e)
  · intro a _ hv; rw [hno] at hv; cases hv
theorem reach_iff (l : List Block) (w : Int) (ht : There l) (h0 : 0 < l.length) (b : Int) (hb : 0 ≤ b) : (reachB l w).getD b.toNat false = true ↔ Re l (· ≠ w) b := by
  have hM := reach_marks l w ht h0
  refine ⟨hM.sound b hb, fun h => ?_⟩
  clear hb
  induction h with
  | first h =>
    rcases hM.start with e | e | e
    · exact absurd e h
    · exact e
    · cases e
  | next ha hx hn ih =>
    have hr := Re.range ht h0 ha
    rcases hM.closed _ hr.1 ih _ hx with e | e | e
    · exact absurd e hn
    · exact e
    · cases e
theorem Re.any {l : List Block} {P : Int → Prop} {b : Int} (ht : There l) (h0 : 0 < l.length) (h : Re l P b) : Re l (· ≠ -1) b := by
  induction h with
  | first _ => exact .first (by decide)
  | @next a b ha hx hp ih => exact .next ih hx (by have := (Re.range ht h0 (.next ha hx hp)).1; omega)
/-- a dominates b. -/
def Dm (l : List Block) (a b : Int) : Prop := Re l (· ≠ -1) b ∧ ¬ Re l (· ≠ a) b
theorem domB_iff (l : List Block) (ht : There l) (h0 : 0 < l.length) (a b : Int) (hb : 0 ≤ b) : domB l a b = true ↔ Dm l a b := by
  unfold domB Dm
  rw [Bool.and_eq_true, reach_iff l (-1) ht h0 b hb, Bool.not_eq_true', ← Bool.not_eq_true, reach_iff l a ht h0 b hb]
theorem Re.split {l : List Block} {P : Int → Prop} {b c : Int} (h : Re l P c) : Re l (fun x => P x ∧ x ≠ b) c ∨ Re l P b := by
  induction h with
  | first hp =>
    by_cases e : (0 : Int) = b
    · exact .inr (e ▸ .first hp)
    · exact .inl (.first ⟨hp, e⟩)
  | @next a c ha hx hp ih =>
    rcases ih with ih | ih
    · by_cases e : c = b
      · exact .inr (e ▸ .next ha hx hp)
      · exact .inl (.next ih hx ⟨hp, e⟩)
    · exact .inr ih
theorem Dm.self {l : List Block} {b : Int} (h : Re l (· ≠ -1) b) : Dm l b b := ⟨h, fun h => h.holds rfl⟩
theorem Dm.zero {l : List Block} {b : Int} (h : Re l (· ≠ -1) b) : Dm l 0 b := by
  refine ⟨h, fun h => ?_⟩
  have : ∀ x, Re l (· ≠ 0) x → False := by
    intro x hx
    induction hx with
    | first h => exact h rfl
    | next _ _ _ ih => exact ih
  exact this _ h
theorem Dm.reached {l : List Block} {a b : Int} (h : Dm l a b) : Re l (· ≠ -1) a := by
  rcases Re.split (b := a) h.1 with h' | h'
  · exact absurd (h'.mono fun _ hx => hx.2) h.2
  · exact h'
theorem Dm.trans {l : List Block} {a b c : Int} (h : Dm l a b) (k : Dm l b c) : Dm l a c := by
  refine ⟨k.1, fun hr => ?_⟩
  rcases Re.split (b := b) hr with h' | h'
  · exact k.2 (h'.mono fun _ hx => hx.2)
  · exact h.2 h'
theorem Dm.chain {l : List Block} {a c b : Int} (h : Dm l a b) (k : Dm l c b) : Dm l a c ∨ Dm l c a := by
  by_cases hac : a = c
  · subst hac; exact .inl (Dm.self h.reached)
  refine Classical.byContradiction fun hn => ?_
  have h1 : Re l (· ≠ a) c := Classical.byContradiction fun e => hn (.inl ⟨k.reached, e⟩)
  have h2 : Re l (· ≠ c) a := Classical.byContradiction fun e => hn (.inr ⟨h.reached, e⟩)
  have key : ∀ x, Re l (· ≠ -1) x → Re l (· ≠ a) x ∨ Re l (· ≠ c) x := by
    intro x hx
    induction hx with
    | first _ =>
      by_cases e : (0 : Int) = a
      · exact .inr (.first (fun e' => hac (e.symm.trans e')))
      · exact .inl (.first e)
    | @next y x ha hx _ ih =>
      by_cases e : x = a
      · exact .inr (e ▸ h2)
      · by_cases e' : x = c
        · exact .inl (e' ▸ h1)
        · rcases ih with ih | ih
          · exact .inl (.next ih hx e)
          · exact .inr (.next ih hx e')
  rcases key b h.1 with h' | h'
  · exact h.2 h'
  · exact k.2 h'
end Go.Proofs.Ytjkbafcepblacaa.X
namespace Go.Proofs.Ytjkbafcepblacaa.X
open Go.RowKit Go.Proofs.YtjkbafcepblacaaW.PrintWords Go.Proofs.YtjkbafcepblacaaW.PrintLast Go.Proofs.YtjkbafcepblacaaW.PrintMore
attribute [local go_sem] max2_int min2_int max_two min_two max_three min_three max_four min_four   -- for this text's walks alone
set_option linter.unusedVariables false
set_option linter.unusedSimpArgs false
/-! ### impl_Reached: function 29 -/
def impl_Reached.l0 : Nat → List Int → List Bool → Int → Int → Option (List Int)
 | 0, _, _, _, _ => none
 | k + 1, x3, x11, x12, x13 => if x13 < x12 then (if 0 ≤ x13 then (if x13 < (x11.length : Int) then (if rdOf false x11 x13 = true then (if x3.length < 17592186044416 then (impl_Reached.l0 k (x3 ++ [x13]) x11 x12 (wrap64 (x13 + 1))) else (none)) else (impl_Reached.l0 k x3 x11 x12 (wrap64 (x13 + 1)))) else (none)) else (none)) else (some x3)
def impl_Reached.f (k : Nat) (l0_0 : List Int) (a0_1 : Int) (l0_2 : List (S88)) : Option (List Int) := (impl_isGraph.f l0_0 a0_1 l0_2).bind fun t495 => (if t495 = true then ((impl_reach.f k l0_0 a0_1 l0_2 (-1)).bind fun t499 => (impl_Reached.l0 k (([] : List Int)) t499 (t499.length : Int) 0)) else (some ([] : List Int)))
theorem impl_Reached.mono_l : ∀ k, (∀ y0 y1 y2 y3, LeO (impl_Reached.l0 k y0 y1 y2 y3) (impl_Reached.l0 (k + 1) y0 y1 y2 y3))
 | 0 => fun _ _ _ _ r h => by simp [impl_Reached.l0] at h
 | k + 1 => by
  have ih0 := impl_Reached.mono_l k
  ·intro y0 y1 y2 y3
   unfold impl_Reached.l0
   repeat' first
   | (with_reducible exact ih0 _ _ _ _)
   | (with_reducible exact impl_reach.mono _ _ _ _ _)
   | (with_reducible exact LeO.refl _)
   | (with_reducible exact LeO.none _)
   | (with_reducible refine LeO.ite ?_ ?_)
   | (with_reducible refine LeO.bind ?_ (fun _ => ?_))
   | exact ih0 _ _ _ _
   | exact impl_reach.mono _ _ _ _ _
   | exact LeO.none _
   | refine LeO.ite ?_ ?_
   | refine LeO.bind ?_ (fun _ => ?_)
theorem impl_Reached.mono : ∀ a0 a1 a2 k, LeO (impl_Reached.f k a0 a1 a2) (impl_Reached.f (k + 1) a0 a1 a2) := by
 intro a0 a1 a2 k
 have ih0 := impl_Reached.mono_l k
 unfold impl_Reached.f
 repeat' first
   | (with_reducible exact ih0 _ _ _ _)
   | (with_reducible exact impl_reach.mono _ _ _ _ _)
   | (with_reducible exact LeO.refl _)
   | (with_reducible exact LeO.none _)
   | (with_reducible refine LeO.ite ?_ ?_)
   | (with_reducible refine LeO.bind ?_ (fun _ => ?_))
   | exact ih0 _ _ _ _
   | exact impl_reach.mono _ _ _ _ _
   | exact LeO.none _
   | refine LeO.ite ?_ ?_
   | refine LeO.bind ?_ (fun _ => ?_)
set_option maxHeartbeats 8000000 in
set_option maxRecDepth 100000 in
theorem impl_Reached.calls (k : Nat) (A0_0 : Option Addr) (c0_0 : Nat) (l0_0 : List Int) (a0_1 : Int) (A0_2 : Option Addr) (c0_2 : Nat) (l0_2 : List (S88)) (r : List Int) (w : World) (hr0_0 : Kd.C (Kd.int .i64) w A0_0 l0_0.length l0_0) (hc0_0 : l0_0.length ≤ c0_0) (hr0_2 : Kd.C k88 w A0_2 l0_2.length l0_2) (hc0_2 : l0_2.length ≤ c0_2) (h : impl_Reached.f k l0_0 a0_1 l0_2 = some r) :
  Calls Try.prog 29 #[.agg #[.slice A0_0 l0_0.length c0_0, .int .i64 a0_1, .slice A0_2 l0_2.length c0_2]] w fun e w' => ∃ v0_ : Value, e = .returned (v0_) ∧ Kd.R (Kd.int .i64) 2 w' w.heap.size (fun _ => True) v0_ r ∧ Below w.heap.size w w' := by
 have hu41 := Try.underlying41
 have HR0_0 := Aside0.mk hr0_0
 have HC0_0 := Aside0.mk hc0_0
 clear hr0_0 hc0_0
 have HR0_2 := Aside0.mk hr0_2
 have HC0_2 := Aside0.mk hc0_2
 clear hr0_2 hc0_2
 have HB := Aside0.mk (Below.refl w.heap.size w)
 have H : ((impl_isGraph.f l0_0 a0_1 l0_2).bind fun t495 => (if t495 = true then ((impl_reach.f k l0_0 a0_1 l0_2 (-1)).bind fun t499 => (impl_Reached.l0 k (([] : List Int)) t499 (t499.length : Int) 0)) else (some ([] : List Int)))) = some r := h
 clear h
 replace H := Option.bind_eq_some_iff.mp H
 obtain ⟨t495, A20, H⟩ := H
 replace H : (if t495 = true then ((impl_reach.f k l0_0 a0_1 l0_2 (-1)).bind fun t499 => (impl_Reached.l0 k (([] : List Int)) t499 (t499.length : Int) 0)) else (some ([] : List Int))) = some r := H
 have A2 := Aside0.mk A20
 clear A20
 by_cases c3 : t495 = true
 ·subst c3
  have H1 := (if_pos rfl).symm.trans H
  clear H
  have H := H1
  clear H1
  obtain ⟨y496, hy496⟩ : ∃ y_ : List Int, y_ = (([] : List Int)) := ⟨_, rfl⟩
  replace H : ((impl_reach.f k l0_0 a0_1 l0_2 (-1)).bind fun t499 => (impl_Reached.l0 k y496 t499 (t499.length : Int) 0)) = some r := by first | (rw [hy496]; with_reducible exact H) | (have H2_ := (Option.bind_some _ _).symm.trans H; rw [hy496]; with_reducible exact H2_) | (have H2_ := (Option.bind_some _ _).symm.trans H; with_reducible exact H2_) | with_reducible exact H | (rw [hy496]; exact H) | exact H
  have Ny496 := Aside0.mk hy496
  clear hy496
  replace H := Option.bind_eq_some_iff.mp H
  obtain ⟨t499, A40, H⟩ := H
  replace H : (impl_Reached.l0 k y496 t499 (t499.length : Int) 0) = some r := H
  have A4 := Aside0.mk A40
  clear A40
  have H' := Aside0.mk H
  clear H
  go_enter Try.func29, Try.ntmps29
  go_wp2_with (first | ((with_reducible refine gate_dst (N := 1) rfl ?_); refine box_event ?hg (N := 1) ?hd (cs := #[.slice A0_0 l0_0.length c0_0, .int .i64 a0_1, .slice A0_2 l0_2.length c0_2]) (t := 41) ?hr ?_; (case hd => rfl); (case hg => rfl); (case hr => first | (go_simp; done) | (go_simp; rfl)); intro gb494 hg w5 hbox hb; have n0_ := Aside0.mk (below_step hB_ hb); have n1_ := Aside0.mk (hbox); have n2_ := Aside0.mk ((sz_ hg (below_size hB_) : w.heap.size ≤ gb494)); have n3_ := Aside0.mk ((sz_ hg (below_size hB_) : w.heap.size ≤ gb494)); clear HB; have HB := n0_; have BK494 := n1_; have GW494 := n2_; have GE494 := n3_; clear n0_ n1_ n2_ n3_; clear hb hbox hg; obtain ⟨hcz6_0, hcz6_1, hcz6_2, hfz6_0, hfz6_1, hfz6_2⟩ := blkc3_ BK494.out) | ((with_reducible refine gate_callee (f := 73) rfl ?_); refine gL_ (some 7) Try.func73 #[.agg #[.slice A0_0 l0_0.length c0_0, .int .i64 a0_1, .slice A0_2 l0_2.length c0_2]] ?_; (with_reducible refine (impl_isGraph.calls _ _ l0_0 a0_1 _ _ l0_2 true _ ?side1 ?side2 ?side3 ?side4 A2.out).mono ?_); (case side1 => exact cHR0_0_); (case side2 => exact HC0_0.out); (case side3 => exact cHR0_2_); (case side4 => exact HC0_2.out); rintro e w7 ⟨rfl, hb⟩; refine ⟨_, rfl, ?_⟩; have n0_ := Aside0.mk (blk_below (g := gb494) (o := .cells #[.slice A0_0 l0_0.length c0_0, .int .i64 a0_1, .slice A0_2 l0_2.length c0_2] 41 (0, 0)) bK494_ hb); have n1_ := Aside0.mk (below_step hS_ hb); clear BK494; clear HB; have BK494 := n0_; have HB := n1_; clear n0_ n1_; (try clear hb); (try clear hb2); (try clear hk); (try clear hi)) | ((with_reducible refine gate_dst (N := 9) rfl ?_); refine Kd.R_lit (Kd.int .i64) _ 2 ?hg (N := 9) ?hd (xs := ([] : List Int)) (inner := []) (ok := fun _ => True) (okp := fun _ => True) ?hr ?hp (fun _ hk => hk) trivial (Below.refl _ _) (Nat.le_refl _) (by simp) ?_; (case hd => rfl); (case hg => rfl); (case hr => first | (go_simp; done) | (go_simp; rfl)); (case hp => exact (Reps.none _ _)); intro v497 w8 ho9 hb hg_ hnew_; clear hg_ hnew_; (first | rw [← Ny496.out] at ho9 | (simp only [Int.reduceToNat] at ho9; rw [← Ny496.out] at ho9)); have n0_ := Aside0.mk (Kd.R_lower ho9 (below_size hS_)); have n1_ := Aside0.mk (blk_below (g := gb494) (o := .cells #[.slice A0_0 l0_0.length c0_0, .int .i64 a0_1, .slice A0_2 l0_2.length c0_2] 41 (0, 0)) bK494_ hb); have n2_ := Aside0.mk (below_step hS_ hb); clear BK494; clear HB; have HO498 := n0_; have BK494 := n1_; have HB := n2_; clear n0_ n1_ n2_; clear hb ho9; obtain ⟨hcz10_0, hcz10_1, hcz10_2, hfz10_0, hfz10_1, hfz10_2⟩ := blkc3_ BK494.out) | ((with_reducible refine gate_callee (f := 74) rfl ?_); refine gL_ (some 11) Try.func74 #[.agg #[.slice A0_0 l0_0.length c0_0, .int .i64 a0_1, .slice A0_2 l0_2.length c0_2], .int .i64 (-1)] ?_; (with_reducible refine (impl_reach.calls k _ _ l0_0 a0_1 _ _ l0_2 (-1) t499 _ ?side1 ?side2 ?side3 ?side4 A4.out).mono ?_); (case side1 => exact cHR0_0_); (case side2 => exact HC0_0.out); (case side3 => exact cHR0_2_); (case side4 => exact HC0_2.out); rintro e w11 ⟨v500, rfl, ho0, hb⟩; refine ⟨_, rfl, ?_⟩; have n0_ := Aside0.mk (Kd.R_below rHO498_ hb); have n1_ := Aside0.mk (Kd.R_lower ho0 (below_size hS_)); have n2_ := Aside0.mk (blk_below (g := gb494) (o := .cells #[.slice A0_0 l0_0.length c0_0, .int .i64 a0_1, .slice A0_2 l0_2.length c0_2] 41 (0, 0)) bK494_ hb); have n3_ := Aside0.mk (below_step hS_ hb); clear HO498; clear BK494; clear HB; have HO498 := n0_; have HO501 := n1_; have BK494 := n2_; have HB := n3_; clear n0_ n1_ n2_ n3_; (try clear hb); (try clear hb2); (try clear hk); (try clear hi); (try clear ho0); obtain ⟨Ao12, co12, eo12⟩ := Kd.R_slice HO501.out; subst eo12))
  go_loopg [3, 13] k (fun kq v3 v13 w' => ∃ (x3_1 : List Int) (x13_1 : Int), v13 = .int .i64 x13_1 ∧ Aside0 (impl_Reached.l0 kq x3_1 t499 (t499.length : Int) x13_1 = some r) ∧ Aside0 (kq ≤ k) ∧ Aside0 (Kd.R (Kd.int .i64) 2 w' w.heap.size (fun _ => True) v3 x3_1) ∧ Aside0 (Kd.R Kd.bool 4 w' w.heap.size (fun _ => True) (.slice Ao12 t499.length co12) t499) ∧ Aside0 (w'.heap[gb494]? = some (.cells #[(.slice A0_0 l0_0.length c0_0), .int .i64 a0_1, (.slice A0_2 l0_2.length c0_2)] 41 (0, 0))) ∧ Aside0 (Below w.heap.size w w'))
  case atStart => exact ⟨(y496), (0), rF_, H', ⟨Nat.le_refl _⟩, ⟨rHO498_⟩, ⟨rHO501_⟩, ⟨bK494_⟩, ⟨hS_⟩⟩
  case round =>
   clear H'
   try clear c2
   try clear p2
   try clear c3
   try clear c7
   try clear hcz10_0 hcz10_1 hcz10_2 hfz10_0 hfz10_1 hfz10_2
   try clear hcz6_0 hcz6_1 hcz6_2 hfz6_0 hfz6_1 hfz6_2
   obtain ⟨x3_1, x13_1, rfl, HA, HK1, HO_3, HO_11, BK494, HB⟩ := hrel
   cases gk with
   | zero => exact absurd HA.out (by simp [impl_Reached.l0])
   | succ k1 =>
    have H := HA.out
    clear HA
    simp only [impl_Reached.l0] at H
    by_cases c13 : x13_1 < (t499.length : Int)
    ·rw [if_pos c13] at H
     have c13b0 : decide (x13_1 < (t499.length : Int)) = true := decide_eq_true c13
     clear c13
     by_cases c14 : 0 ≤ x13_1
     ·rw [if_pos c14] at H
      have c14b0 : decide (0 ≤ x13_1) = true := decide_eq_true c14
      clear c14
      by_cases c15 : x13_1 < (t499.length : Int)
      ·rw [if_pos c15] at H
       have c15b0 : decide (x13_1 < (t499.length : Int)) = true := decide_eq_true c15
       clear c15
       obtain ⟨bq16, hbq16⟩ : ∃ b_ : Bool, b_ = (rdOf false t499 x13_1) := ⟨_, rfl⟩
       replace H : (if bq16 = true then (if x3_1.length < 17592186044416 then (impl_Reached.l0 k1 (x3_1 ++ [x13_1]) t499 (t499.length : Int) (wrap64 (x13_1 + 1))) else (none)) else (impl_Reached.l0 k1 x3_1 t499 (t499.length : Int) (wrap64 (x13_1 + 1)))) = some r := by rw [← hbq16] at H; exact H
       have Nbq16 := Aside0.mk hbq16
       clear hbq16
       by_cases c17 : bq16 = true
       ·subst c17
        have H1 := (if_pos rfl).symm.trans H
        clear H
        have H := H1
        clear H1
        by_cases c18 : x3_1.length < 17592186044416
        ·rw [if_pos c18] at H
         have LMc18 := Aside0.mk c18
         clear c18
         obtain ⟨y503, hy503⟩ : ∃ y_ : List Int, y_ = (x3_1 ++ [x13_1]) := ⟨_, rfl⟩
         replace H : (impl_Reached.l0 k1 y503 t499 (t499.length : Int) (wrap64 (x13_1 + 1))) = some r := by first | (rw [hy503]; with_reducible exact H) | (have H2_ := (Option.bind_some _ _).symm.trans H; rw [hy503]; with_reducible exact H2_) | (have H2_ := (Option.bind_some _ _).symm.trans H; with_reducible exact H2_) | with_reducible exact H | (rw [hy503]; exact H) | exact H
         have Ny503 := Aside0.mk hy503
         clear hy503
         have H' := Aside0.mk H
         clear H
         have p502 : 0 ≤ (x13_1 : Int) := oD_
         have q502 : x13_1 < (t499.length : Int) := oD_
         obtain ⟨ad502, e502, hx502_0⟩ := Kd.at_bool (Kd.R_reads' HO_11.out).2.2 x13_1 p502 q502
         (try rw [← Nbq16.out] at hx502_0)
         cases e502
         replace p502 := eq_true p502
         replace q502 := eq_true q502
         go_wp2_with (first | ((with_reducible refine gate_builtin (b := .append) (xs := #[.tmp 19, .tmp 21]) rfl ?_); at_builtin; refine Kd.R_append (Kd.int .i64) (w0 := w) w.heap.size rfl (.tmp 19) (.tmp 21) 22 2 (.int .i64 0) 8 rfl Try.underlying22 info2 rfl (by decide) (by omega) u3 x3_1 x13_1 [.int .i64 x13_1] (fun _ => True) (fun _ => False) rfl rfl ?aP (fun _ hk => hk.elim) ?aF ?aO ?aB ?aS ?aL ?_; (case aP => exact rfl); (case aB => exact hS_); (case aF => exact (fun _ _ => trivial)); (case aO => exact rHO_3_); (case aS => exact (below_size hS_)); (case aL => have := LMc18.out; omega); intro v504 w19 ho hb hg hat; rw [← Ny503.out] at ho; have n0_ := Aside0.mk (Kd.R_over' rHO_11_ (Kd.R_typed rHO_3_) (by decide) hg); have n1_ := Aside0.mk (blk_grown (g := gb494) (o := .cells #[.slice A0_0 l0_0.length c0_0, .int .i64 a0_1, .slice A0_2 l0_2.length c0_2] 41 (0, 0)) bK494_ hg (Kd.R_ne HO_3.out BK494.out (by decide))); have n2_ := Aside0.mk (hb); have n3_ := Aside0.mk (ho); clear HO_11; clear BK494; clear HB; clear HO_3; have HO_11 := n0_; have BK494 := n1_; have HB := n2_; have HO505 := n3_; clear n0_ n1_ n2_ n3_; clear ho hb hg hat))
         go_roundg k1
         case measure => have := HK1.out; omega
         case rel => exact ⟨(y503), (wrap64 (x13_1 + 1)), rF_, H', ⟨by have := HK1.out; omega⟩, ⟨rHO505_⟩, ⟨rHO_11_⟩, ⟨bK494_⟩, ⟨hS_⟩⟩
        ·rw [if_neg c18] at H
         exact absurd H (by simp)
       ·replace c17 := Bool.eq_false_iff.mpr c17
        subst c17
        have H1 := (if_neg (show ¬ (false = true) by decide)).symm.trans H
        clear H
        have H := H1
        clear H1
        have H' := Aside0.mk H
        clear H
        have p502 : 0 ≤ (x13_1 : Int) := oD_
        have q502 : x13_1 < (t499.length : Int) := oD_
        obtain ⟨ad502, e502, hx502_0⟩ := Kd.at_bool (Kd.R_reads' HO_11.out).2.2 x13_1 p502 q502
        (try rw [← Nbq16.out] at hx502_0)
        cases e502
        replace p502 := eq_true p502
        replace q502 := eq_true q502
        go_wp2
        go_roundg k1
        case measure => have := HK1.out; omega
        case rel => exact ⟨(x3_1), (wrap64 (x13_1 + 1)), rF_, H', ⟨by have := HK1.out; omega⟩, ⟨rHO_3_⟩, ⟨rHO_11_⟩, ⟨bK494_⟩, ⟨hS_⟩⟩
      ·rw [if_neg c15] at H
       exact absurd H (by simp)
     ·rw [if_neg c14] at H
      exact absurd H (by simp)
    ·rw [if_neg c13] at H
     have c13b0 : decide (x13_1 < (t499.length : Int)) = false := decide_eq_false c13
     clear c13
     obtain rfl := Option.some.inj H
     go_wp2
     go_ret
     exact ⟨_, rG_, rHO_3_, hS_⟩
 ·replace c3 := Bool.eq_false_iff.mpr c3
  subst c3
  have H1 := (if_neg (show ¬ (false = true) by decide)).symm.trans H
  clear H
  have H := H1
  clear H1
  obtain rfl := Option.some.inj H
  go_enter Try.func29, Try.ntmps29
  go_wp2_with (first | ((with_reducible refine gate_dst (N := 1) rfl ?_); refine box_event ?hg (N := 1) ?hd (cs := #[.slice A0_0 l0_0.length c0_0, .int .i64 a0_1, .slice A0_2 l0_2.length c0_2]) (t := 41) ?hr ?_; (case hd => rfl); (case hg => rfl); (case hr => first | (go_simp; done) | (go_simp; rfl)); intro gb494 hg w20 hbox hb; have n0_ := Aside0.mk (below_step hB_ hb); have n1_ := Aside0.mk (hbox); have n2_ := Aside0.mk ((sz_ hg (below_size hB_) : w.heap.size ≤ gb494)); have n3_ := Aside0.mk ((sz_ hg (below_size hB_) : w.heap.size ≤ gb494)); clear HB; have HB := n0_; have BK494 := n1_; have GW494 := n2_; have GE494 := n3_; clear n0_ n1_ n2_ n3_; clear hb hbox hg; obtain ⟨hcz21_0, hcz21_1, hcz21_2, hfz21_0, hfz21_1, hfz21_2⟩ := blkc3_ BK494.out) | ((with_reducible refine gate_callee (f := 73) rfl ?_); refine gL_ (some 7) Try.func73 #[.agg #[.slice A0_0 l0_0.length c0_0, .int .i64 a0_1, .slice A0_2 l0_2.length c0_2]] ?_; (with_reducible refine (impl_isGraph.calls _ _ l0_0 a0_1 _ _ l0_2 false _ ?side1 ?side2 ?side3 ?side4 A2.out).mono ?_); (case side1 => exact cHR0_0_); (case side2 => exact HC0_0.out); (case side3 => exact cHR0_2_); (case side4 => exact HC0_2.out); rintro e w22 ⟨rfl, hb⟩; refine ⟨_, rfl, ?_⟩; have n0_ := Aside0.mk (blk_below (g := gb494) (o := .cells #[.slice A0_0 l0_0.length c0_0, .int .i64 a0_1, .slice A0_2 l0_2.length c0_2] 41 (0, 0)) bK494_ hb); have n1_ := Aside0.mk (below_step hS_ hb); clear BK494; clear HB; have BK494 := n0_; have HB := n1_; clear n0_ n1_; (try clear hb); (try clear hb2); (try clear hk); (try clear hi)))
  go_ret
  exact ⟨_, rG_, by first | exact Kd.R_nil _ _ _ _ _ | exact Kd.N_nil _ _ _ _ _ | exact Kd.V_nil _ _ _ _ _ | exact Kd.Q_nil _ _ _ _ _ | exact Kd.S_nil _ _ _ _ _, hS_⟩
end Go.Proofs.Ytjkbafcepblacaa.X
namespace Go.Proofs.Ytjkbafcepblacaa.X
set_option linter.unusedVariables false
set_option linter.unusedSimpArgs false
open Go.RowKit Go.Proofs.YtjkbafcepblacaaW.PrintWords Go.Proofs.YtjkbafcepblacaaW.PrintLast Go.Proofs.YtjkbafcepblacaaW.PrintMore
end Go.Proofs.Ytjkbafcepblacaa.X
