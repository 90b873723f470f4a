/- PROVED HERE: what the functions that the law FnOrder reaches do in memory, each as a plain Lean function, and what these tell: part 2 of 5 of the proof of that law; no condition beyond those written out at each theorem. -/
import Derived.Test.YtjkbafcepblacaaZFnOrder0
namespace Go.Proofs.Ytjkbafcepblacaa.X
open Go.RowKit Go.Proofs.YtjkbafcepblacaaW.PrintWords Go.Proofs.YtjkbafcepblacaaW.PrintLast Go.Proofs.YtjkbafcepblacaaW.PrintMore
attribute [local go_sem] max2_int min2_int max_two min_two max_three min_three max_four min_four   -- for this text's walks alone
set_option linter.unusedVariables false
set_option linter.unusedSimpArgs false
/-! ### spec_l1Rd_graph: function 67 -/
mutual
def spec_l1Rd_graph.l0 : Nat → Int → Int → List Int → Int → Int → List (S88) → Option (List Int × Int × (List (S88)) × Int)
 | 0, _, _, _, _, _, _ => none
 | k + 1, x4, x5, x1000, x1001, x309001, x309002 => if x5 < x4 then ((spec_l1Rd_below.f x1000 x1001 4).bind fun bt312 => (if bt312.1 = 0 then (spec_l1Rd_graph.j1 k x4 x5 bt312.1 (bt312.1 == 0) x1000 bt312.2 x309001 x309002 4 0 0 0) else (spec_l1Rd_graph.j1 k x4 x5 bt312.1 (bt312.1 == 1) x1000 bt312.2 x309001 x309002 4 0 0 0))) else ((spec_l1Rd_once.f x1000 x1001 30).bind fun bt329 => (if bt329.1 = true then ((spec_l1Rd_off.f k x1000 bt329.2 0 7).bind fun bt331 => (if 0 < (x309002.length : Int) then (some (([] : List Int), x309001, (x309002.set (0 : Int).toNat (⟨(rd_T88 x309002 0).f0, (rd_T88 x309002 0).f1, (⟨(rd_T88 x309002 0).f2.f0, (rd_T88 x309002 0).f2.f1, bt331.1, (rd_T88 x309002 0).f2.f3⟩ : S86)⟩ : S88)), bt331.2)) else (none))) else (some (([] : List Int), x309001, x309002, bt329.2))))
def spec_l1Rd_graph.j1 : Nat → Int → Int → Int → Bool → List Int → Int → Int → List (S88) → Int → Int → Int → Int → Option (List Int × Int × (List (S88)) × Int)
 | 0, _, _, _, _, _, _, _, _, _, _, _, _ => none
 | k + 1, x4, x5, x18, x19, x1000, x1001, x309001, x309002, x312000, x312001, x312002, x312003 => if x19 = true then ((spec_l1Rd_below.f x1000 x1001 x4).bind fun bt314 => ((spec_l1Rd_below.f x1000 bt314.2 x4).bind fun bt316 => (if x309002.length < 1759218604441 then (spec_l1Rd_graph.l0 k x4 (wrap64 (x5 + 1)) x1000 bt316.2 x309001 (x309002 ++ [(⟨([] : List (S95)), ([] : List (S27)), (⟨3, 0, bt314.1, bt316.1⟩ : S86)⟩ : S88)])) else (none)))) else (if x18 = 2 then ((spec_l1Rd_below.f x1000 x1001 x4).bind fun bt321 => (if x309002.length < 1759218604441 then (spec_l1Rd_graph.l0 k x4 (wrap64 (x5 + 1)) x1000 bt321.2 x309001 (x309002 ++ [(⟨([] : List (S95)), ([] : List (S27)), (⟨2, 0, bt321.1, 0⟩ : S86)⟩ : S88)])) else (none))) else (if x309002.length < 1759218604441 then (spec_l1Rd_graph.l0 k x4 (wrap64 (x5 + 1)) x1000 x1001 x309001 (x309002 ++ [(⟨([] : List (S95)), ([] : List (S27)), (⟨x312000, x312001, x312002, x312003⟩ : S86)⟩ : S88)])) else (none)))
end
def spec_l1Rd_graph.f (k : Nat) (s0_0 : List Int) (s0_1 : Int) : Option (List Int × Int × (List (S88)) × Int) := (spec_l1Rd_below.f s0_0 s0_1 7).bind fun bt309 => (spec_l1Rd_graph.l0 k (wrap64 (1 + bt309.1)) 0 s0_0 bt309.2 8 ([] : List (S88)))
theorem spec_l1Rd_graph.mono_l : ∀ k, (∀ y0 y1 y2 y3 y4 y5, LeO (spec_l1Rd_graph.l0 k y0 y1 y2 y3 y4 y5) (spec_l1Rd_graph.l0 (k + 1) y0 y1 y2 y3 y4 y5)) ∧ (∀ y0 y1 y2 y3 y4 y5 y6 y7 y8 y9 y10 y11, LeO (spec_l1Rd_graph.j1 k y0 y1 y2 y3 y4 y5 y6 y7 y8 y9 y10 y11) (spec_l1Rd_graph.j1 (k + 1) y0 y1 y2 y3 y4 y5 y6 y7 y8 y9 y10 y11))
 | 0 => ⟨fun _ _ _ _ _ _ r h => by simp [spec_l1Rd_graph.l0] at h, fun _ _ _ _ _ _ _ _ _ _ _ _ r h => by simp [spec_l1Rd_graph.j1] at h⟩
 | k + 1 => by
  obtain ⟨ih0, ih1⟩ := spec_l1Rd_graph.mono_l k
  refine ⟨?_, ?_⟩
  ·intro y0 y1 y2 y3 y4 y5
   unfold spec_l1Rd_graph.l0
   repeat' first
   | (with_reducible exact ih0 _ _ _ _ _ _)
   | (with_reducible exact ih1 _ _ _ _ _ _ _ _ _ _ _ _)
   | (with_reducible exact spec_l1Rd_off.mono _ _ _ _ _)
   | (with_reducible exact LeO.refl _)
   | (with_reducible exact LeO.none _)
   | (with_reducible refine LeO.ite ?_ ?_)
   | (with_reducible refine LeO.bind ?_ (fun _ => ?_))
   | exact ih0 _ _ _ _ _ _
   | exact ih1 _ _ _ _ _ _ _ _ _ _ _ _
   | exact spec_l1Rd_off.mono _ _ _ _ _
   | exact LeO.none _
   | refine LeO.ite ?_ ?_
   | refine LeO.bind ?_ (fun _ => ?_)
  ·intro y0 y1 y2 y3 y4 y5 y6 y7 y8 y9 y10 y11
   unfold spec_l1Rd_graph.j1
   repeat' first
   | (with_reducible exact ih0 _ _ _ _ _ _)
   | (with_reducible exact ih1 _ _ _ _ _ _ _ _ _ _ _ _)
   | (with_reducible exact spec_l1Rd_off.mono _ _ _ _ _)
   | (with_reducible exact LeO.refl _)
   | (with_reducible exact LeO.none _)
   | (with_reducible refine LeO.ite ?_ ?_)
   | (with_reducible refine LeO.bind ?_ (fun _ => ?_))
   | exact ih0 _ _ _ _ _ _
   | exact ih1 _ _ _ _ _ _ _ _ _ _ _ _
   | exact spec_l1Rd_off.mono _ _ _ _ _
   | exact LeO.none _
   | refine LeO.ite ?_ ?_
   | refine LeO.bind ?_ (fun _ => ?_)
theorem spec_l1Rd_graph.mono : ∀ a0 a1 k, LeO (spec_l1Rd_graph.f k a0 a1) (spec_l1Rd_graph.f (k + 1) a0 a1) := by
 intro a0 a1 k
 obtain ⟨ih0, ih1⟩ := spec_l1Rd_graph.mono_l k
 unfold spec_l1Rd_graph.f
 repeat' first
   | (with_reducible exact ih0 _ _ _ _ _ _)
   | (with_reducible exact ih1 _ _ _ _ _ _ _ _ _ _ _ _)
   | (with_reducible exact spec_l1Rd_off.mono _ _ _ _ _)
   | (with_reducible exact LeO.refl _)
   | (with_reducible exact LeO.none _)
   | (with_reducible refine LeO.ite ?_ ?_)
   | (with_reducible refine LeO.bind ?_ (fun _ => ?_))
   | exact ih0 _ _ _ _ _ _
   | exact ih1 _ _ _ _ _ _ _ _ _ _ _ _
   | exact spec_l1Rd_off.mono _ _ _ _ _
   | exact LeO.none _
   | refine LeO.ite ?_ ?_
   | refine LeO.bind ?_ (fun _ => ?_)
def spec_l1Rd_graph.T15 : Bool × List (List Nat × List Nat) := (true, [([], []), ([0], [0]), ([], []), ([2], [2]), ([1, 0, 1, 2, 3], [1]), ([4, 0, 1, 2, 3], [4]), ([5, 0, 1, 2, 3], [5]), ([6, 3, 3, 0, 1, 2, 3], [3, 6])])
def spec_l1Rd_graph.B15 : List Nat := [0, 1, 0, 4, 15, 31, 63, 127]
theorem spec_l1Rd_graph.tab15 : rtab .any (opsOf Try.f67 15) = spec_l1Rd_graph.T15 := by kernel_rfl
theorem spec_l1Rd_graph.bits15 : waitsOk spec_l1Rd_graph.T15.2 spec_l1Rd_graph.B15 = true := by kernel_rfl
set_option maxHeartbeats 8000000 in
set_option maxRecDepth 100000 in
theorem spec_l1Rd_graph.calls (k : Nat) (g : Nat) (s0_0 : List Int) (s0_1 : Int) (r1 : List Int) (r2 : Int) (r3 : List (S88)) (r4 : Int) (w0 w : World) (hI : IsS100 w0 w g s0_0 s0_1) (hB : Below w0.heap.size w0 w) (h : spec_l1Rd_graph.f k s0_0 s0_1 = some (r1, r2, r3, r4)) :
  Calls Try.prog 67 #[.pointer (some ⟨g, 0, none⟩)] w fun e w' => ∃ v0_ v2_ : Value, e = .returned (.agg #[v0_, .int .i64 r2, v2_]) ∧ Kd.R (Kd.int .i64) 2 w' w.heap.size (fun _ => True) v0_ r1 ∧ Kd.R k88 88 w' w.heap.size (fun k_ => some k_ ≠ (v0_ : Value).ownBlock) v2_ r3 ∧ IsS100 w0 w' g s0_0 r4 ∧ Below w0.heap.size w0 w' ∧ KeepBut w w' g none := by
 have hu41 := Try.underlying41
 have hu86 := Try.underlying86
 have hu88 := Try.underlying88
 have HI0 := Aside0.mk hI
 have HK := Aside0.mk (KeepBut.refl w g none)
 have HL := Aside0.mk hB.size
 clear hI
 have HW0 := Aside0.mk hB.size
 have HB := Aside0.mk hB
 clear hB
 have H : ((spec_l1Rd_below.f s0_0 s0_1 7).bind fun bt309 => (spec_l1Rd_graph.l0 k (wrap64 (1 + bt309.1)) 0 s0_0 bt309.2 8 ([] : List (S88)))) = some (r1, r2, r3, r4) := h
 clear h
 replace H := Option.bind_eq_some_iff.mp H
 obtain ⟨⟨t309, t310⟩, A20, H⟩ := H
 replace H : (spec_l1Rd_graph.l0 k (wrap64 (1 + t309)) 0 s0_0 t310 8 ([] : List (S88))) = some (r1, r2, r3, r4) := H
 have A2 := Aside0.mk A20
 clear A20
 have H' := Aside0.mk H
 clear H
 go_enter Try.func67, Try.ntmps67
 go_wp2_with (first | ((with_reducible refine gate_dst (N := 2) rfl ?_); refine box_event ?hg (N := 2) ?hd (cs := #[.slice none 0 0, .int .i64 0, .slice none 0 0]) (t := 41) ?hr ?_; (case hd => rfl); (case hg => rfl); (case hr => first | (go_simp; done) | (go_simp; rfl)); intro gb307 hg w3 hbox hb; have n0_ := Aside0.mk (IsS100.below (by repeat (first | (with_reducible first | exact HI0.out | apply IsS100.alloc | apply IsS100.drewN | apply IsS100.drew | apply IsS100.set_1) | exact HI0.out)) hb); have n1_ := Aside0.mk (KeepBut.trans (by repeat (first | (with_reducible first | exact HK.out | apply KeepBut.set_ | apply keep_drewN | apply keep_drew | apply keep_alloc) | exact HK.out)) (KeepBut.of_below hb g none) (.inl rfl)); have n2_ := Aside0.mk (below_step (by repeat (first | (with_reducible first | exact HB.out | apply below_alloc | apply pw_below_drewN | apply below_drew1 | refine below_set ?_ (IsS100.ge HI0.out)) | exact HB.out)) hb); have n3_ := Aside0.mk (hbox); have n4_ := Aside0.mk ((by rw [hg]; exact (keep_size (w := w) (g := g) (row := none) (by repeat (first | (with_reducible first | exact HK.out | apply KeepBut.set_ | apply keep_drewN | apply keep_drew | apply keep_alloc) | exact HK.out))) : w.heap.size ≤ gb307)); have n5_ := Aside0.mk ((Nat.le_trans HW0.out (by rw [hg]; exact (keep_size (w := w) (g := g) (row := none) (by repeat (first | (with_reducible first | exact HK.out | apply KeepBut.set_ | apply keep_drewN | apply keep_drew | apply keep_alloc) | exact HK.out))) : w.heap.size ≤ gb307) : w0.heap.size ≤ gb307)); have n6_ := Aside0.mk ((by rw [hg]; exact Nat.ne_of_lt (IsS100.lt (show IsS100 w0 _ g s0_0 s0_1 from by repeat (first | (with_reducible first | exact HI0.out | apply IsS100.alloc | apply IsS100.drewN | apply IsS100.drew | apply IsS100.set_1) | exact HI0.out))) : g ≠ gb307)); have n7_ := Aside0.mk ((by rw [hg]; exact Nat.ne_of_gt (IsS100.lt (show IsS100 w0 _ g s0_0 s0_1 from by repeat (first | (with_reducible first | exact HI0.out | apply IsS100.alloc | apply IsS100.drewN | apply IsS100.drew | apply IsS100.set_1) | exact HI0.out))) : gb307 ≠ g)); clear HI0; clear HK; clear HB; have HI0 := n0_; have HK := n1_; have HB := n2_; have BK307 := n3_; have GW307 := n4_; have GE307 := n5_; have NB0_307 := n6_; have NB307_0 := n7_; clear n0_ n1_ n2_ n3_ n4_ n5_ n6_ n7_; clear hb hbox hg) | ((with_reducible refine gate_dst (N := 3) rfl ?_); refine box_event ?hg (N := 3) ?hd (cs := #[.slice none 0 0, .int .i64 0, .slice none 0 0]) (t := 41) ?hr ?_; (case hd => rfl); (case hg => rfl); (case hr => first | (go_simp; done) | (go_simp; rfl)); intro gb308 hg w4 hbox hb; have n0_ := Aside0.mk (IsS100.below (by repeat (first | (with_reducible first | exact HI0.out | apply IsS100.alloc | apply IsS100.drewN | apply IsS100.drew | apply IsS100.set_1 | refine IsS100.far ?_ NB0_307.out _) | exact HI0.out)) hb); have n1_ := Aside0.mk (blk_below (g := gb307) (o := .cells #[.slice none 0 0, .int .i64 0, .slice none 0 0] 41 (0, 0)) bK307_ hb); have n2_ := Aside0.mk (KeepBut.trans (by repeat (first | (with_reducible first | exact HK.out | apply KeepBut.set_ | apply keep_drewN | apply keep_drew | apply keep_alloc | refine keep_far ?_ GW307.out _) | exact HK.out)) (KeepBut.of_below hb g none) (.inl rfl)); have n3_ := Aside0.mk (below_step (by repeat (first | (with_reducible first | exact HB.out | apply below_alloc | apply pw_below_drewN | apply below_drew1 | refine below_set ?_ (IsS100.ge HI0.out) | refine below_set ?_ GE307.out) | exact HB.out)) hb); have n4_ := Aside0.mk (hbox); have n5_ := Aside0.mk ((by rw [hg]; exact (keep_size (w := w) (g := g) (row := none) (by repeat (first | (with_reducible first | exact HK.out | apply KeepBut.set_ | apply keep_drewN | apply keep_drew | apply keep_alloc | refine keep_far ?_ GW307.out _) | exact HK.out))) : w.heap.size ≤ gb308)); have n6_ := Aside0.mk ((Nat.le_trans HW0.out (by rw [hg]; exact (keep_size (w := w) (g := g) (row := none) (by repeat (first | (with_reducible first | exact HK.out | apply KeepBut.set_ | apply keep_drewN | apply keep_drew | apply keep_alloc | refine keep_far ?_ GW307.out _) | exact HK.out))) : w.heap.size ≤ gb308) : w0.heap.size ≤ gb308)); have n7_ := Aside0.mk ((by rw [hg]; exact Nat.ne_of_lt (blk_lt (g := gb307) (o := .cells #[.slice none 0 0, .int .i64 0, .slice none 0 0] 41 (0, 0)) bK307_) : gb307 ≠ gb308)); have n8_ := Aside0.mk ((by rw [hg]; exact Nat.ne_of_gt (blk_lt (g := gb307) (o := .cells #[.slice none 0 0, .int .i64 0, .slice none 0 0] 41 (0, 0)) bK307_) : gb308 ≠ gb307)); have n9_ := Aside0.mk ((by rw [hg]; exact Nat.ne_of_lt (IsS100.lt (show IsS100 w0 _ g s0_0 s0_1 from by repeat (first | (with_reducible first | exact HI0.out | apply IsS100.alloc | apply IsS100.drewN | apply IsS100.drew | apply IsS100.set_1 | refine IsS100.far ?_ NB0_307.out _) | exact HI0.out))) : g ≠ gb308)); have n10_ := Aside0.mk ((by rw [hg]; exact Nat.ne_of_gt (IsS100.lt (show IsS100 w0 _ g s0_0 s0_1 from by repeat (first | (with_reducible first | exact HI0.out | apply IsS100.alloc | apply IsS100.drewN | apply IsS100.drew | apply IsS100.set_1 | refine IsS100.far ?_ NB0_307.out _) | exact HI0.out))) : gb308 ≠ g)); clear HI0; clear BK307; clear HK; clear HB; have HI0 := n0_; have BK307 := n1_; have HK := n2_; have HB := n3_; have BK308 := n4_; have GW308 := n5_; have GE308 := n6_; have NB307_308 := n7_; have NB308_307 := n8_; have NB0_308 := n9_; have NB308_0 := n10_; clear n0_ n1_ n2_ n3_ n4_ n5_ n6_ n7_ n8_ n9_ n10_; clear hb hbox hg; have hnb5 := NB308_307.out; have hnc5 := NB307_308.out; have hnb6 := NB308_0.out; have hnc6 := NB0_308.out; obtain ⟨hcz7_0, hcz7_1, hcz7_2, hfz7_0, hfz7_1, hfz7_2⟩ := blkc3_ BK308.out) | ((with_reducible refine gate_callee (f := 101) rfl ?_); refine gL_ (some 9) Try.func101 #[.pointer (some ⟨g, 0, none⟩), .int .i64 7] ?_; (with_reducible refine (spec_l1Rd_below.calls g s0_0 s0_1 7 t309 t310 w0 _ ?side1 ?side2 A2.out).mono ?_); (case side1 => repeat (first | (with_reducible first | exact HI0.out | apply IsS100.alloc | apply IsS100.drewN | apply IsS100.drew | apply IsS100.set_1 | refine IsS100.far ?_ NB0_307.out _ | refine IsS100.far ?_ NB0_308.out _) | exact HI0.out)); (case side2 => repeat (first | (with_reducible first | exact HB.out | apply below_alloc | apply pw_below_drewN | apply below_drew1 | refine below_set ?_ (IsS100.ge HI0.out) | refine below_set ?_ GE307.out | refine below_set ?_ GE308.out) | exact HB.out)); rintro e w8 ⟨rfl, hi, hb, hk⟩; refine ⟨_, rfl, ?_⟩; have n0_ := Aside0.mk (KeepBut.blk hk (g' := gb307) (o := .cells #[.slice none 0 0, .int .i64 0, .slice none 0 0] 41 (0, 0)) fK307_ NB307_0.out (by simp)); have n1_ := Aside0.mk (KeepBut.blk hk (g' := gb308) (o := .cells #[.slice none 0 0, .int .i64 8, .slice none 0 0] 41 (0, 0)) (by (with_reducible repeat (first | refine blk_drewN ?_ _ | refine blk_drew ?_ | refine blk_alloc ?_ _)); refine blk_put (cs := #[.slice none 0 0, .int .i64 8, .slice none 0 0]) ?_ 2 _ rfl; (with_reducible repeat (first | refine blk_drewN ?_ _ | refine blk_drew ?_ | refine blk_alloc ?_ _)); refine blk_put (cs := #[.slice none 0 0, .int .i64 0, .slice none 0 0]) ?_ 1 _ rfl; (with_reducible repeat (first | refine blk_drewN ?_ _ | refine blk_drew ?_ | refine blk_alloc ?_ _)); refine blk_put (cs := #[.slice none 0 0, .int .i64 0, .slice none 0 0]) ?_ 0 _ rfl; (with_reducible repeat (first | refine blk_drewN ?_ _ | refine blk_drew ?_ | refine blk_alloc ?_ _)); exact BK308.out) NB308_0.out (by simp)); have n2_ := Aside0.mk (KeepBut.trans (by repeat (first | (with_reducible first | exact HK.out | apply KeepBut.set_ | apply keep_drewN | apply keep_drew | apply keep_alloc | refine keep_far ?_ GW307.out _ | refine keep_far ?_ GW308.out _) | exact HK.out)) hk (.inl rfl)); have n3_ := Aside0.mk (hb); have n4_ := Aside0.mk (hi); clear BK307; clear BK308; clear HK; clear HB; clear HI0; have BK307 := n0_; have BK308 := n1_; have HK := n2_; have HB := n3_; have HI0 := n4_; clear n0_ n1_ n2_ n3_ n4_; (try clear hb); (try clear hb2); (try clear hk); (try clear hi)))
 go_loopg [5] k (fun kq v5 w' => ∃ (x5_1 : Int) (x1001_1 : Int) (x309002_1 : List (S88)) (u309002 : Value), v5 = .int .i64 x5_1 ∧ Aside0 (spec_l1Rd_graph.l0 kq (wrap64 (1 + t309)) x5_1 s0_0 x1001_1 8 x309002_1 = some (r1, r2, r3, r4)) ∧ Aside0 (kq ≤ k) ∧ Aside0 (Kd.R k88 88 w' w.heap.size (fun _ => True) u309002 x309002_1) ∧ Aside0 (w'.heap[gb307]? = some (.cells #[(.slice none 0 0), .int .i64 0, (.slice none 0 0)] 41 (0, 0))) ∧ Aside0 (w'.heap[gb308]? = some (.cells #[(.slice none 0 0), .int .i64 8, u309002] 41 (0, 0))) ∧ Aside0 (IsS100 w0 w' g s0_0 x1001_1) ∧ Aside0 (KeepBut w w' g none) ∧ Aside0 (Below w0.heap.size w0 w'))
 case atStart => exact ⟨(0), (t310), (([] : List (S88))), (.slice none 0 0), rF_, H', ⟨Nat.le_refl _⟩, ⟨by first | exact Kd.R_nil _ _ _ _ _ | exact Kd.N_nil _ _ _ _ _ | exact Kd.V_nil _ _ _ _ _ | exact Kd.Q_nil _ _ _ _ _ | exact Kd.S_nil _ _ _ _ _⟩, ⟨bK307_⟩, ⟨bK308_⟩, ⟨by repeat (first | (with_reducible first | exact HI0.out | apply IsS100.alloc | apply IsS100.drewN | apply IsS100.drew | apply IsS100.set_1 | refine IsS100.far ?_ NB0_307.out _ | refine IsS100.far ?_ NB0_308.out _) | exact HI0.out)⟩, ⟨by repeat (first | (with_reducible first | exact HK.out | apply KeepBut.set_ | apply keep_drewN | apply keep_drew | apply keep_alloc | refine keep_far ?_ GW307.out _ | refine keep_far ?_ GW308.out _) | exact HK.out)⟩, ⟨by repeat (first | (with_reducible first | exact HB.out | apply below_alloc | apply pw_below_drewN | apply below_drew1 | refine below_set ?_ (IsS100.ge HI0.out) | refine below_set ?_ GE307.out | refine below_set ?_ GE308.out) | exact HB.out)⟩⟩
 case round =>
  clear H'
  try clear c1
  try clear p2
  try clear c5
  try clear c6
  try clear p6
  try clear hcz7_0 hcz7_1 hcz7_2 hfz7_0 hfz7_1 hfz7_2
  obtain ⟨x5_1, x1001_1, x309002_1, u309002, rfl, HA, HK1, HO_309002, BK307, BK308, HI0, HK, HB⟩ := hrel
  cases gk with
  | zero => exact absurd HA.out (by simp [spec_l1Rd_graph.l0])
  | succ k1 =>
   have H := HA.out
   clear HA
   simp only [spec_l1Rd_graph.l0] at H
   by_cases c9 : x5_1 < (wrap64 (1 + t309))
   ·rw [if_pos c9] at H
    have c9b0 : decide (x5_1 < (wrap64 (1 + t309))) = true := decide_eq_true c9
    clear c9
    replace H := Option.bind_eq_some_iff.mp H
    obtain ⟨⟨t312, t313⟩, A100, H⟩ := H
    replace H : (if t312 = 0 then (spec_l1Rd_graph.j1 k1 (wrap64 (1 + t309)) x5_1 t312 (t312 == 0) s0_0 t313 8 x309002_1 4 0 0 0) else (spec_l1Rd_graph.j1 k1 (wrap64 (1 + t309)) x5_1 t312 (t312 == 1) s0_0 t313 8 x309002_1 4 0 0 0)) = some (r1, r2, r3, r4) := H
    have A10 := Aside0.mk A100
    clear A100
    have HC11 := Aside0.mk H
    clear H
    go_upto_if 19 with (first | ((with_reducible refine gate_dst (N := 6) rfl ?_); refine box_event ?hg (N := 6) ?hd (cs := #[.int .i64 0, .int .i64 0, .int .i64 0, .int .i64 0]) (t := 86) ?hr ?_; (case hd => rfl); (case hg => rfl); (case hr => first | (go_simp; done) | (go_simp; rfl)); intro gb311 hg w12 hbox hb; have n0_ := Aside0.mk (Kd.R_below rHO_309002_ hb); have n1_ := Aside0.mk (blk_below (g := gb307) (o := .cells #[.slice none 0 0, .int .i64 0, .slice none 0 0] 41 (0, 0)) bK307_ hb); have n2_ := Aside0.mk (blk_below (g := gb308) (o := .cells #[.slice none 0 0, .int .i64 8, u309002] 41 (0, 0)) bK308_ hb); have n3_ := Aside0.mk (IsS100.below (by repeat (first | (with_reducible first | exact HI0.out | apply IsS100.alloc | apply IsS100.drewN | apply IsS100.drew | apply IsS100.set_1 | refine IsS100.far ?_ NB0_307.out _ | refine IsS100.far ?_ NB0_308.out _) | exact HI0.out)) hb); have n4_ := Aside0.mk (KeepBut.trans (by repeat (first | (with_reducible first | exact HK.out | apply KeepBut.set_ | apply keep_drewN | apply keep_drew | apply keep_alloc | refine keep_far ?_ GW307.out _ | refine keep_far ?_ GW308.out _) | exact HK.out)) (KeepBut.of_below hb g none) (.inl rfl)); have n5_ := Aside0.mk (below_step (by repeat (first | (with_reducible first | exact HB.out | apply below_alloc | apply pw_below_drewN | apply below_drew1 | refine below_set ?_ (IsS100.ge HI0.out) | refine below_set ?_ GE307.out | refine below_set ?_ GE308.out) | exact HB.out)) hb); have n6_ := Aside0.mk (hbox); have n7_ := Aside0.mk ((by rw [hg]; exact (keep_size (w := w) (g := g) (row := none) (by repeat (first | (with_reducible first | exact HK.out | apply KeepBut.set_ | apply keep_drewN | apply keep_drew | apply keep_alloc | refine keep_far ?_ GW307.out _ | refine keep_far ?_ GW308.out _) | exact HK.out))) : w.heap.size ≤ gb311)); have n8_ := Aside0.mk ((Nat.le_trans HW0.out (by rw [hg]; exact (keep_size (w := w) (g := g) (row := none) (by repeat (first | (with_reducible first | exact HK.out | apply KeepBut.set_ | apply keep_drewN | apply keep_drew | apply keep_alloc | refine keep_far ?_ GW307.out _ | refine keep_far ?_ GW308.out _) | exact HK.out))) : w.heap.size ≤ gb311) : w0.heap.size ≤ gb311)); have n9_ := Aside0.mk ((by rw [hg]; exact Nat.ne_of_lt (blk_lt (g := gb307) (o := .cells #[.slice none 0 0, .int .i64 0, .slice none 0 0] 41 (0, 0)) bK307_) : gb307 ≠ gb311)); have n10_ := Aside0.mk ((by rw [hg]; exact Nat.ne_of_gt (blk_lt (g := gb307) (o := .cells #[.slice none 0 0, .int .i64 0, .slice none 0 0] 41 (0, 0)) bK307_) : gb311 ≠ gb307)); have n11_ := Aside0.mk ((by rw [hg]; exact Nat.ne_of_lt (blk_lt (g := gb308) (o := .cells #[.slice none 0 0, .int .i64 8, u309002] 41 (0, 0)) bK308_) : gb308 ≠ gb311)); have n12_ := Aside0.mk ((by rw [hg]; exact Nat.ne_of_gt (blk_lt (g := gb308) (o := .cells #[.slice none 0 0, .int .i64 8, u309002] 41 (0, 0)) bK308_) : gb311 ≠ gb308)); have n13_ := Aside0.mk ((by rw [hg]; exact Nat.ne_of_lt (IsS100.lt (show IsS100 w0 _ g s0_0 x1001_1 from by repeat (first | (with_reducible first | exact HI0.out | apply IsS100.alloc | apply IsS100.drewN | apply IsS100.drew | apply IsS100.set_1 | refine IsS100.far ?_ NB0_307.out _ | refine IsS100.far ?_ NB0_308.out _) | exact HI0.out))) : g ≠ gb311)); have n14_ := Aside0.mk ((by rw [hg]; exact Nat.ne_of_gt (IsS100.lt (show IsS100 w0 _ g s0_0 x1001_1 from by repeat (first | (with_reducible first | exact HI0.out | apply IsS100.alloc | apply IsS100.drewN | apply IsS100.drew | apply IsS100.set_1 | refine IsS100.far ?_ NB0_307.out _ | refine IsS100.far ?_ NB0_308.out _) | exact HI0.out))) : gb311 ≠ g)); clear HO_309002; clear BK307; clear BK308; clear HI0; clear HK; clear HB; have HO_309002 := n0_; have BK307 := n1_; have BK308 := n2_; have HI0 := n3_; have HK := n4_; have HB := n5_; have BK311 := n6_; have GW311 := n7_; have GE311 := n8_; have NB307_311 := n9_; have NB311_307 := n10_; have NB308_311 := n11_; have NB311_308 := n12_; have NB0_311 := n13_; have NB311_0 := n14_; clear n0_ n1_ n2_ n3_ n4_ n5_ n6_ n7_ n8_ n9_ n10_ n11_ n12_ n13_ n14_; clear hb hbox hg; have hnb13 := NB311_307.out; have hnc13 := NB307_311.out; have hnb14 := NB311_308.out; have hnc14 := NB308_311.out; have hnb15 := NB311_0.out; have hnc15 := NB0_311.out; obtain ⟨hcz16_0, hcz16_1, hcz16_2, hcz16_3, hfz16_0, hfz16_1, hfz16_2, hfz16_3⟩ := blkc4_ BK311.out) | ((with_reducible refine gate_callee (f := 101) rfl ?_); refine gL_ (some 18) Try.func101 #[.pointer (some ⟨g, 0, none⟩), .int .i64 4] ?_; (with_reducible refine (spec_l1Rd_below.calls g s0_0 x1001_1 4 t312 t313 w0 _ ?side1 ?side2 A10.out).mono ?_); (case side1 => repeat (first | (with_reducible first | exact HI0.out | apply IsS100.alloc | apply IsS100.drewN | apply IsS100.drew | apply IsS100.set_1 | refine IsS100.far ?_ NB0_307.out _ | refine IsS100.far ?_ NB0_308.out _ | refine IsS100.far ?_ NB0_311.out _) | exact HI0.out)); (case side2 => repeat (first | (with_reducible first | exact HB.out | apply below_alloc | apply pw_below_drewN | apply below_drew1 | refine below_set ?_ (IsS100.ge HI0.out) | refine below_set ?_ GE307.out | refine below_set ?_ GE308.out | refine below_set ?_ GE311.out) | exact HB.out)); rintro e w17 ⟨rfl, hi, hb, hk⟩; refine ⟨_, rfl, ?_⟩; have n0_ := Aside0.mk (Kd.R_mono (Kd.R_keep (IsS100.apart (show IsS100 w0 _ g s0_0 x1001_1 from by repeat (first | (with_reducible first | exact HI0.out | apply IsS100.alloc | apply IsS100.drewN | apply IsS100.drew | apply IsS100.set_1 | refine IsS100.far ?_ NB0_307.out _ | refine IsS100.far ?_ NB0_308.out _ | refine IsS100.far ?_ NB0_311.out _) | exact HI0.out)) (by (with_reducible repeat (first | apply Kd.R_alloc | apply Kd.R_drewN | apply Kd.R_drew)); exact (rf4_ HO_309002.out BK311.out (by decide) (.int .i64 4) (.int .i64 0) (.int .i64 0) (.int .i64 0))) (by decide)) hk (fun _ h => h.2)) (fun _ h => h.1)); have n1_ := Aside0.mk (KeepBut.blk hk (g' := gb307) (o := .cells #[.slice none 0 0, .int .i64 0, .slice none 0 0] 41 (0, 0)) fK307_ NB307_0.out (by simp)); have n2_ := Aside0.mk (KeepBut.blk hk (g' := gb308) (o := .cells #[.slice none 0 0, .int .i64 8, u309002] 41 (0, 0)) fK308_ NB308_0.out (by simp)); have n3_ := Aside0.mk (KeepBut.blk hk (g' := gb311) (o := .cells #[.int .i64 4, .int .i64 0, .int .i64 0, .int .i64 0] 86 (0, 0)) (by (with_reducible repeat (first | refine blk_drewN ?_ _ | refine blk_drew ?_ | refine blk_alloc ?_ _)); refine blk_put (cs := #[.int .i64 4, .int .i64 0, .int .i64 0, .int .i64 0]) ?_ 3 _ rfl; (with_reducible repeat (first | refine blk_drewN ?_ _ | refine blk_drew ?_ | refine blk_alloc ?_ _)); refine blk_put (cs := #[.int .i64 4, .int .i64 0, .int .i64 0, .int .i64 0]) ?_ 2 _ rfl; (with_reducible repeat (first | refine blk_drewN ?_ _ | refine blk_drew ?_ | refine blk_alloc ?_ _)); refine blk_put (cs := #[.int .i64 4, .int .i64 0, .int .i64 0, .int .i64 0]) ?_ 1 _ rfl; (with_reducible repeat (first | refine blk_drewN ?_ _ | refine blk_drew ?_ | refine blk_alloc ?_ _)); refine blk_put (cs := #[.int .i64 0, .int .i64 0, .int .i64 0, .int .i64 0]) ?_ 0 _ rfl; (with_reducible repeat (first | refine blk_drewN ?_ _ | refine blk_drew ?_ | refine blk_alloc ?_ _)); exact BK311.out) NB311_0.out (by simp)); have n4_ := Aside0.mk (KeepBut.trans (by repeat (first | (with_reducible first | exact HK.out | apply KeepBut.set_ | apply keep_drewN | apply keep_drew | apply keep_alloc | refine keep_far ?_ GW307.out _ | refine keep_far ?_ GW308.out _ | refine keep_far ?_ GW311.out _) | exact HK.out)) hk (.inl rfl)); have n5_ := Aside0.mk (hb); have n6_ := Aside0.mk (hi); clear HO_309002; clear BK307; clear BK308; clear BK311; clear HK; clear HB; clear HI0; have HO_309002 := n0_; have BK307 := n1_; have BK308 := n2_; have BK311 := n3_; have HK := n4_; have HB := n5_; have HI0 := n6_; clear n0_ n1_ n2_ n3_ n4_ n5_ n6_; (try clear hb); (try clear hb2); (try clear hk); (try clear hi)))
    (try simp only [Act.put, List.setIfInBounds_toArray, List.set_cons_zero, List.set_cons_succ])
    go_cut [19] (fun v19 wc => ∃ (kq : Nat) (x19_10 : Bool), v19 = .bool x19_10 ∧ Aside0 (spec_l1Rd_graph.j1 kq (wrap64 (1 + t309)) x5_1 t312 x19_10 s0_0 t313 8 x309002_1 4 0 0 0 = some (r1, r2, r3, r4)) ∧ Aside0 (kq ≤ k1) ∧ Aside0 (Kd.R k88 88 wc w.heap.size (fun _ => True) u309002 x309002_1) ∧ Aside0 (wc.heap[gb307]? = some (.cells #[(.slice none 0 0), .int .i64 0, (.slice none 0 0)] 41 (0, 0))) ∧ Aside0 (wc.heap[gb308]? = some (.cells #[(.slice none 0 0), .int .i64 8, u309002] 41 (0, 0))) ∧ Aside0 (wc.heap[gb311]? = some (.cells #[.int .i64 4, .int .i64 0, .int .i64 0, .int .i64 0] 86 (0, 0))) ∧ Aside0 (IsS100 w0 wc g s0_0 t313) ∧ Aside0 (KeepBut w wc g none) ∧ Aside0 (Below w0.heap.size w0 wc))
    case first =>
     have H := HC11.out
     clear HC11
     by_cases c18 : t312 = 0
     ·rw [if_pos c18] at H
      have c18b0 : (t312 == 0) = true := beq_iff_eq.mpr c18
      have c18b1 : (t312 != 0) = false := bne_eq_false_iff_eq.mpr c18
      clear c18
      (first | rw [c18b0] | (simp only [i64_w, i32_w]; rw [c18b0]) | skip)
      have H' := Aside0.mk H
      clear H
      go_wp2
      go_meet
      case rel => exact ⟨_, ((t312 == 0)), rF_, H', ⟨by have := HK1.out; first | omega | exact Nat.le_refl _⟩, ⟨rHO_309002_⟩, ⟨bK307_⟩, ⟨bK308_⟩, ⟨bK311_⟩, ⟨by repeat (first | (with_reducible first | exact HI0.out | apply IsS100.alloc | apply IsS100.drewN | apply IsS100.drew | apply IsS100.set_1 | refine IsS100.far ?_ NB0_307.out _ | refine IsS100.far ?_ NB0_308.out _ | refine IsS100.far ?_ NB0_311.out _) | exact HI0.out)⟩, ⟨by repeat (first | (with_reducible first | exact HK.out | apply KeepBut.set_ | apply keep_drewN | apply keep_drew | apply keep_alloc | refine keep_far ?_ GW307.out _ | refine keep_far ?_ GW308.out _ | refine keep_far ?_ GW311.out _) | exact HK.out)⟩, ⟨by repeat (first | (with_reducible first | exact HB.out | apply below_alloc | apply pw_below_drewN | apply below_drew1 | refine below_set ?_ (IsS100.ge HI0.out) | refine below_set ?_ GE307.out | refine below_set ?_ GE308.out | refine below_set ?_ GE311.out) | exact HB.out)⟩⟩
     ·rw [if_neg c18] at H
      have c18b0 : (t312 == 0) = false := beq_eq_false_iff_ne.mpr c18
      have c18b1 : (t312 != 0) = true := bne_iff_ne.mpr c18
      (first | rw [c18b0] | (simp only [i64_w, i32_w]; rw [c18b0]) | skip)
      have H' := Aside0.mk H
      clear H
      go_wp2
      go_meet
      case rel => exact ⟨_, ((t312 == 1)), rF_, H', ⟨by have := HK1.out; first | omega | exact Nat.le_refl _⟩, ⟨rHO_309002_⟩, ⟨bK307_⟩, ⟨bK308_⟩, ⟨bK311_⟩, ⟨by repeat (first | (with_reducible first | exact HI0.out | apply IsS100.alloc | apply IsS100.drewN | apply IsS100.drew | apply IsS100.set_1 | refine IsS100.far ?_ NB0_307.out _ | refine IsS100.far ?_ NB0_308.out _ | refine IsS100.far ?_ NB0_311.out _) | exact HI0.out)⟩, ⟨by repeat (first | (with_reducible first | exact HK.out | apply KeepBut.set_ | apply keep_drewN | apply keep_drew | apply keep_alloc | refine keep_far ?_ GW307.out _ | refine keep_far ?_ GW308.out _ | refine keep_far ?_ GW311.out _) | exact HK.out)⟩, ⟨by repeat (first | (with_reducible first | exact HB.out | apply below_alloc | apply pw_below_drewN | apply below_drew1 | refine below_set ?_ (IsS100.ge HI0.out) | refine below_set ?_ GE307.out | refine below_set ?_ GE308.out | refine below_set ?_ GE311.out) | exact HB.out)⟩⟩
    case rest =>
     clear HC11
     try clear c1
     try clear p2
     try clear c5
     try clear c6
     try clear p6
     try clear c9
     try clear c9b0
     try clear c10
     try clear c13
     try clear c14
     try clear c15
     try clear c18
     try clear c18b0
     try clear c18b1
     try clear hcz16_0 hcz16_1 hcz16_2 hcz16_3 hfz16_0 hfz16_1 hfz16_2 hfz16_3
     try clear hcz7_0 hcz7_1 hcz7_2 hfz7_0 hfz7_1 hfz7_2
     try clear p2
     try clear p6
     obtain ⟨kq, x19_10, rfl, HA, HJ10, HO_309002, BK307, BK308, BK311, HI0, HK, HB⟩ := hcut
     cases kq with
     | zero => exact absurd HA.out (by simp [spec_l1Rd_graph.j1])
     | succ kj10 =>
      have H := HA.out
      clear HA
      simp only [spec_l1Rd_graph.j1] at H
      by_cases c19 : x19_10 = true
      ·subst c19
       have H1 := (if_pos rfl).symm.trans H
       clear H
       have H := H1
       clear H1
       replace H := Option.bind_eq_some_iff.mp H
       obtain ⟨⟨t314, t315⟩, A200, H⟩ := H
       replace H : ((spec_l1Rd_below.f s0_0 t315 (wrap64 (1 + t309))).bind fun bt316 => (if x309002_1.length < 1759218604441 then (spec_l1Rd_graph.l0 kj10 (wrap64 (1 + t309)) (wrap64 (x5_1 + 1)) s0_0 bt316.2 8 (x309002_1 ++ [(⟨([] : List (S95)), ([] : List (S27)), (⟨3, 0, t314, bt316.1⟩ : S86)⟩ : S88)])) else (none))) = some (r1, r2, r3, r4) := H
       have A20 := Aside0.mk A200
       clear A200
       replace H := Option.bind_eq_some_iff.mp H
       obtain ⟨⟨t316, t317⟩, A210, H⟩ := H
       replace H : (if x309002_1.length < 1759218604441 then (spec_l1Rd_graph.l0 kj10 (wrap64 (1 + t309)) (wrap64 (x5_1 + 1)) s0_0 t317 8 (x309002_1 ++ [(⟨([] : List (S95)), ([] : List (S27)), (⟨3, 0, t314, t316⟩ : S86)⟩ : S88)])) else (none)) = some (r1, r2, r3, r4) := H
       have A21 := Aside0.mk A210
       clear A210
       by_cases c22 : x309002_1.length < 1759218604441
       ·rw [if_pos c22] at H
        have LMc22 := Aside0.mk c22
        clear c22
        obtain ⟨y318, hy318⟩ : ∃ y_ : List (S88), y_ = (x309002_1 ++ [(⟨([] : List (S95)), ([] : List (S27)), (⟨3, 0, t314, t316⟩ : S86)⟩ : S88)]) := ⟨_, rfl⟩
        replace H : (spec_l1Rd_graph.l0 kj10 (wrap64 (1 + t309)) (wrap64 (x5_1 + 1)) s0_0 t317 8 y318) = some (r1, r2, r3, r4) := by first | (rw [hy318]; with_reducible exact H) | (have H2_ := (Option.bind_some _ _).symm.trans H; rw [hy318]; with_reducible exact H2_) | (have H2_ := (Option.bind_some _ _).symm.trans H; with_reducible exact H2_) | with_reducible exact H | (rw [hy318]; exact H) | exact H
        have Ny318 := Aside0.mk hy318
        clear hy318
        have H' := Aside0.mk H
        clear H
        go_wp2_with (first | ((with_reducible refine gate_callee (f := 101) rfl ?_); refine gL_ (some 24) Try.func101 #[.pointer (some ⟨g, 0, none⟩), .int .i64 (wrap64 (1 + t309))] ?_; (with_reducible refine (spec_l1Rd_below.calls g s0_0 t313 (wrap64 (1 + t309)) t314 t315 w0 _ ?side1 ?side2 A20.out).mono ?_); (case side1 => repeat (first | (with_reducible first | exact HI0.out | apply IsS100.alloc | apply IsS100.drewN | apply IsS100.drew | apply IsS100.set_1 | refine IsS100.far ?_ NB0_307.out _ | refine IsS100.far ?_ NB0_308.out _ | refine IsS100.far ?_ NB0_311.out _) | exact HI0.out)); (case side2 => repeat (first | (with_reducible first | exact HB.out | apply below_alloc | apply pw_below_drewN | apply below_drew1 | refine below_set ?_ (IsS100.ge HI0.out) | refine below_set ?_ GE307.out | refine below_set ?_ GE308.out | refine below_set ?_ GE311.out) | exact HB.out)); rintro e w23 ⟨rfl, hi, hb, hk⟩; refine ⟨_, rfl, ?_⟩; have n0_ := Aside0.mk (Kd.R_mono (Kd.R_keep (IsS100.apart (show IsS100 w0 _ g s0_0 t313 from by repeat (first | (with_reducible first | exact HI0.out | apply IsS100.alloc | apply IsS100.drewN | apply IsS100.drew | apply IsS100.set_1 | refine IsS100.far ?_ NB0_307.out _ | refine IsS100.far ?_ NB0_308.out _ | refine IsS100.far ?_ NB0_311.out _) | exact HI0.out)) rHO_309002_ (by decide)) hk (fun _ h => h.2)) (fun _ h => h.1)); have n1_ := Aside0.mk (KeepBut.blk hk (g' := gb307) (o := .cells #[.slice none 0 0, .int .i64 0, .slice none 0 0] 41 (0, 0)) bK307_ NB307_0.out (by simp)); have n2_ := Aside0.mk (KeepBut.blk hk (g' := gb308) (o := .cells #[.slice none 0 0, .int .i64 8, u309002] 41 (0, 0)) bK308_ NB308_0.out (by simp)); have n3_ := Aside0.mk (KeepBut.blk hk (g' := gb311) (o := .cells #[.int .i64 4, .int .i64 0, .int .i64 0, .int .i64 0] 86 (0, 0)) bK311_ NB311_0.out (by simp)); have n4_ := Aside0.mk (KeepBut.trans (by repeat (first | (with_reducible first | exact HK.out | apply KeepBut.set_ | apply keep_drewN | apply keep_drew | apply keep_alloc | refine keep_far ?_ GW307.out _ | refine keep_far ?_ GW308.out _ | refine keep_far ?_ GW311.out _) | exact HK.out)) hk (.inl rfl)); have n5_ := Aside0.mk (hb); have n6_ := Aside0.mk (hi); clear HO_309002; clear BK307; clear BK308; clear BK311; clear HK; clear HB; clear HI0; have HO_309002 := n0_; have BK307 := n1_; have BK308 := n2_; have BK311 := n3_; have HK := n4_; have HB := n5_; have HI0 := n6_; clear n0_ n1_ n2_ n3_ n4_ n5_ n6_; (try clear hb); (try clear hb2); (try clear hk); (try clear hi)) | ((with_reducible refine gate_callee (f := 101) rfl ?_); refine gL_ (some 27) Try.func101 #[.pointer (some ⟨g, 0, none⟩), .int .i64 (wrap64 (1 + t309))] ?_; (with_reducible refine (spec_l1Rd_below.calls g s0_0 t315 (wrap64 (1 + t309)) t316 t317 w0 _ ?side1 ?side2 A21.out).mono ?_); (case side1 => repeat (first | (with_reducible first | exact HI0.out | apply IsS100.alloc | apply IsS100.drewN | apply IsS100.drew | apply IsS100.set_1 | refine IsS100.far ?_ NB0_307.out _ | refine IsS100.far ?_ NB0_308.out _ | refine IsS100.far ?_ NB0_311.out _) | exact HI0.out)); (case side2 => repeat (first | (with_reducible first | exact HB.out | apply below_alloc | apply pw_below_drewN | apply below_drew1 | refine below_set ?_ (IsS100.ge HI0.out) | refine below_set ?_ GE307.out | refine below_set ?_ GE308.out | refine below_set ?_ GE311.out) | exact HB.out)); rintro e w24 ⟨rfl, hi, hb, hk⟩; refine ⟨_, rfl, ?_⟩; have n0_ := Aside0.mk (Kd.R_mono (Kd.R_keep (IsS100.apart (show IsS100 w0 _ g s0_0 t315 from by repeat (first | (with_reducible first | exact HI0.out | apply IsS100.alloc | apply IsS100.drewN | apply IsS100.drew | apply IsS100.set_1 | refine IsS100.far ?_ NB0_307.out _ | refine IsS100.far ?_ NB0_308.out _ | refine IsS100.far ?_ NB0_311.out _) | exact HI0.out)) rHO_309002_ (by decide)) hk (fun _ h => h.2)) (fun _ h => h.1)); have n1_ := Aside0.mk (KeepBut.blk hk (g' := gb307) (o := .cells #[.slice none 0 0, .int .i64 0, .slice none 0 0] 41 (0, 0)) bK307_ NB307_0.out (by simp)); have n2_ := Aside0.mk (KeepBut.blk hk (g' := gb308) (o := .cells #[.slice none 0 0, .int .i64 8, u309002] 41 (0, 0)) bK308_ NB308_0.out (by simp)); have n3_ := Aside0.mk (KeepBut.blk hk (g' := gb311) (o := .cells #[.int .i64 4, .int .i64 0, .int .i64 0, .int .i64 0] 86 (0, 0)) bK311_ NB311_0.out (by simp)); have n4_ := Aside0.mk (KeepBut.trans (by repeat (first | (with_reducible first | exact HK.out | apply KeepBut.set_ | apply keep_drewN | apply keep_drew | apply keep_alloc | refine keep_far ?_ GW307.out _ | refine keep_far ?_ GW308.out _ | refine keep_far ?_ GW311.out _) | exact HK.out)) hk (.inl rfl)); have n5_ := Aside0.mk (hb); have n6_ := Aside0.mk (hi); clear HO_309002; clear BK307; clear BK308; clear BK311; clear HK; clear HB; clear HI0; have HO_309002 := n0_; have BK307 := n1_; have BK308 := n2_; have BK311 := n3_; have HK := n4_; have HB := n5_; have HI0 := n6_; clear n0_ n1_ n2_ n3_ n4_ n5_ n6_; (try clear hb); (try clear hb2); (try clear hk); (try clear hi); have hnb25 := NB311_307.out; have hnc25 := NB307_311.out; have hnb26 := NB311_308.out; have hnc26 := NB308_311.out; have hnb27 := NB311_0.out; have hnc27 := NB0_311.out; obtain ⟨hcz28_0, hcz28_1, hcz28_2, hcz28_3, hfz28_0, hfz28_1, hfz28_2, hfz28_3⟩ := blkc4_ BK311.out; have hnb29 := NB308_307.out; have hnc29 := NB307_308.out; have hnb30 := NB308_0.out; have hnc30 := NB0_308.out; obtain ⟨hcz31_0, hcz31_1, hcz31_2, hfz31_0, hfz31_1, hfz31_2⟩ := blkc3_ BK308.out) | ((with_reducible refine gate_builtin (b := .append) (xs := #[.tmp 36, .tmp 39]) rfl ?_); at_builtin; refine Kd.R_append k88 w.heap.size rfl (.tmp 36) (.tmp 39) 39 88 (.agg #[(.slice none 0 0), (.slice none 0 0), (.int .i64 0), (.int .i64 0), (.int .i64 0), (.int .i64 0)]) 80 rfl Try.underlying39 info88 rfl (by decide) (by omega) u309002 x309002_1 (⟨([] : List (S95)), ([] : List (S27)), (⟨3, 0, t314, t316⟩ : S86)⟩ : S88) [.slice none 0 0, .slice none 0 0, .int .i64 3, .int .i64 0, .int .i64 t314, .int .i64 t316] (fun _ => True) (fun k_ => ((fun _ => True)) k_ ∧ some k_ ≠ (u309002 : Value).ownBlock) rfl ?aX ?aP (fun _ hk => hk) ?aF ?aO (Below.refl _ _) ?aS ?aL ?_; (case aX => first | (simp only [Act.eval, World.setCell, Array.size_modify]; rfl) | (go_simp; done) | (go_simp; rfl)); (case aP => exact k88_mkM _ _ _ (⟨([] : List (S95)), ([] : List (S27)), (⟨3, 0, t314, t316⟩ : S86)⟩ : S88) (Kd.R_nil _ _ _ _ _) (Kd.R_nil _ _ _ _ _)); (case aF => exact (fun _ _ => trivial)); (case aO => exact (by (with_reducible repeat (first | apply Kd.R_alloc | apply Kd.R_drewN | apply Kd.R_drew)); exact Kd.R_mono (Kd.R_far (p := ⟨gb311, 3, none⟩) (Kd.R_far (p := ⟨gb311, 2, none⟩) (Kd.R_far (p := ⟨gb311, 1, none⟩) (Kd.R_far (p := ⟨gb311, 0, none⟩) (Kd.R_types HO_309002.out BK311.out (by decide)) (fun _ hk => hk.2) (.int .i64 3)) (fun _ hk => hk.2) (.int .i64 0)) (fun _ hk => hk.2) (.int .i64 t314)) (fun _ hk => hk.2) (.int .i64 t316)) (fun _ hk => trivial))); (case aS => exact (keep_size (w := w) (g := g) (row := none) (by repeat (first | (with_reducible first | exact HK.out | apply KeepBut.set_ | apply keep_drewN | apply keep_drew | apply keep_alloc | refine keep_far ?_ GW307.out _ | refine keep_far ?_ GW308.out _ | refine keep_far ?_ GW311.out _) | exact HK.out)))); (case aL => have := LMc22.out; omega); intro v319 w32 ho hb hg hat; rw [← Ny318.out] at ho; have n0_ := Aside0.mk (blk_grown (g := gb307) (o := .cells #[.slice none 0 0, .int .i64 0, .slice none 0 0] 41 (0, 0)) fK307_ hg (Kd.R_ne HO_309002.out BK307.out (by decide))); have n1_ := Aside0.mk (blk_grown (g := gb308) (o := .cells #[.slice none 0 0, .int .i64 8, u309002] 41 (0, 0)) fK308_ hg (Kd.R_ne HO_309002.out BK308.out (by decide))); have n2_ := Aside0.mk (blk_grown (g := gb311) (o := .cells #[.int .i64 3, .int .i64 0, .int .i64 t314, .int .i64 t316] 86 (0, 0)) (by (with_reducible repeat (first | refine blk_drewN ?_ _ | refine blk_drew ?_ | refine blk_alloc ?_ _)); refine blk_put (cs := #[.int .i64 3, .int .i64 0, .int .i64 t314, .int .i64 0]) ?_ 3 _ rfl; (with_reducible repeat (first | refine blk_drewN ?_ _ | refine blk_drew ?_ | refine blk_alloc ?_ _)); refine blk_put (cs := #[.int .i64 3, .int .i64 0, .int .i64 0, .int .i64 0]) ?_ 2 _ rfl; (with_reducible repeat (first | refine blk_drewN ?_ _ | refine blk_drew ?_ | refine blk_alloc ?_ _)); refine blk_put (cs := #[.int .i64 3, .int .i64 0, .int .i64 0, .int .i64 0]) ?_ 1 _ rfl; (with_reducible repeat (first | refine blk_drewN ?_ _ | refine blk_drew ?_ | refine blk_alloc ?_ _)); refine blk_put (cs := #[.int .i64 4, .int .i64 0, .int .i64 0, .int .i64 0]) ?_ 0 _ rfl; (with_reducible repeat (first | refine blk_drewN ?_ _ | refine blk_drew ?_ | refine blk_alloc ?_ _)); exact BK311.out) hg (Kd.R_ne HO_309002.out BK311.out (by decide))); have n3_ := Aside0.mk (IsS100.grown (IsS100.far (IsS100.far (IsS100.far (IsS100.far HI0.out NB0_311.out _) NB0_311.out _) NB0_311.out _) NB0_311.out _) hg (IsS100.own_ne HI0.out HO_309002.out (by decide))); have n4_ := Aside0.mk (below_weaken (below_set (below_set (below_set (below_set HB.out GE311.out) GE311.out) GE311.out) GE311.out) HL.out hb); have n5_ := Aside0.mk (KeepBut.trans (keep_far (keep_far (keep_far (keep_far HK.out GW311.out _) GW311.out _) GW311.out _) GW311.out _) (KeepBut.of_grown hg g) (Kd.R_base2 HO_309002.out)); have n6_ := Aside0.mk (ho); clear BK307; clear BK308; clear BK311; clear HI0; clear HB; clear HK; clear HO_309002; have BK307 := n0_; have BK308 := n1_; have BK311 := n2_; have HI0 := n3_; have HB := n4_; have HK := n5_; have HO320 := n6_; clear n0_ n1_ n2_ n3_ n4_ n5_ n6_; clear ho hb hg hat; obtain ⟨Ao33, co33, eo33⟩ := Kd.R_slice HO320.out; subst eo33; obtain ⟨hcz34_0, hcz34_1, hcz34_2, hfz34_0, hfz34_1, hfz34_2⟩ := blkc3_ BK308.out))
        go_roundg kj10
        case measure => have := HK1.out; have := HJ10.out; omega
        case rel => exact ⟨(wrap64 (x5_1 + 1)), (t317), (y318), (.slice Ao33 y318.length co33), rF_, H', ⟨by have := HK1.out; have := HJ10.out; omega⟩, ⟨by (with_reducible repeat (first | apply Kd.R_alloc | apply Kd.R_drewN | apply Kd.R_drew)); exact Kd.R_mono (Kd.R_far (p := ⟨gb308, 2, none⟩) (Kd.R_types HO320.out BK308.out (by decide)) (fun _ hk => hk.2) (.slice Ao33 y318.length co33)) (fun _ hk => trivial)⟩, ⟨fK307_⟩, ⟨by (with_reducible repeat (first | refine blk_drewN ?_ _ | refine blk_drew ?_ | refine blk_alloc ?_ _)); refine blk_put (cs := #[.slice none 0 0, .int .i64 8, u309002]) ?_ 2 _ rfl; (with_reducible repeat (first | refine blk_drewN ?_ _ | refine blk_drew ?_ | refine blk_alloc ?_ _)); exact BK308.out⟩, ⟨by repeat (first | (with_reducible first | exact HI0.out | apply IsS100.alloc | apply IsS100.drewN | apply IsS100.drew | apply IsS100.set_1 | refine IsS100.far ?_ NB0_307.out _ | refine IsS100.far ?_ NB0_308.out _ | refine IsS100.far ?_ NB0_311.out _) | exact HI0.out)⟩, ⟨by repeat (first | (with_reducible first | exact HK.out | apply KeepBut.set_ | apply keep_drewN | apply keep_drew | apply keep_alloc | refine keep_far ?_ GW307.out _ | refine keep_far ?_ GW308.out _ | refine keep_far ?_ GW311.out _) | exact HK.out)⟩, ⟨by repeat (first | (with_reducible first | exact HB.out | apply below_alloc | apply pw_below_drewN | apply below_drew1 | refine below_set ?_ (IsS100.ge HI0.out) | refine below_set ?_ GE307.out | refine below_set ?_ GE308.out | refine below_set ?_ GE311.out) | exact HB.out)⟩⟩
       ·rw [if_neg c22] at H
        exact absurd H (by simp)
      ·replace c19 := Bool.eq_false_iff.mpr c19
       subst c19
       have H1 := (if_neg (show ¬ (false = true) by decide)).symm.trans H
       clear H
       have H := H1
       clear H1
       by_cases c35 : t312 = 2
       ·rw [if_pos c35] at H
        have c35b0 : (t312 == 2) = true := beq_iff_eq.mpr c35
        have c35b1 : (t312 != 2) = false := bne_eq_false_iff_eq.mpr c35
        clear c35
        replace H := Option.bind_eq_some_iff.mp H
        obtain ⟨⟨t321, t322⟩, A360, H⟩ := H
        replace H : (if x309002_1.length < 1759218604441 then (spec_l1Rd_graph.l0 kj10 (wrap64 (1 + t309)) (wrap64 (x5_1 + 1)) s0_0 t322 8 (x309002_1 ++ [(⟨([] : List (S95)), ([] : List (S27)), (⟨2, 0, t321, 0⟩ : S86)⟩ : S88)])) else (none)) = some (r1, r2, r3, r4) := H
        have A36 := Aside0.mk A360
        clear A360
        by_cases c37 : x309002_1.length < 1759218604441
        ·rw [if_pos c37] at H
         have LMc37 := Aside0.mk c37
         clear c37
         obtain ⟨y323, hy323⟩ : ∃ y_ : List (S88), y_ = (x309002_1 ++ [(⟨([] : List (S95)), ([] : List (S27)), (⟨2, 0, t321, 0⟩ : S86)⟩ : S88)]) := ⟨_, rfl⟩
         replace H : (spec_l1Rd_graph.l0 kj10 (wrap64 (1 + t309)) (wrap64 (x5_1 + 1)) s0_0 t322 8 y323) = some (r1, r2, r3, r4) := by first | (rw [hy323]; with_reducible exact H) | (have H2_ := (Option.bind_some _ _).symm.trans H; rw [hy323]; with_reducible exact H2_) | (have H2_ := (Option.bind_some _ _).symm.trans H; with_reducible exact H2_) | with_reducible exact H | (rw [hy323]; exact H) | exact H
         have Ny323 := Aside0.mk hy323
         clear hy323
         have H' := Aside0.mk H
         clear H
         go_wp2_with (first | ((with_reducible refine gate_callee (f := 101) rfl ?_); refine gL_ (some 33) Try.func101 #[.pointer (some ⟨g, 0, none⟩), .int .i64 (wrap64 (1 + t309))] ?_; (with_reducible refine (spec_l1Rd_below.calls g s0_0 t313 (wrap64 (1 + t309)) t321 t322 w0 _ ?side1 ?side2 A36.out).mono ?_); (case side1 => repeat (first | (with_reducible first | exact HI0.out | apply IsS100.alloc | apply IsS100.drewN | apply IsS100.drew | apply IsS100.set_1 | refine IsS100.far ?_ NB0_307.out _ | refine IsS100.far ?_ NB0_308.out _ | refine IsS100.far ?_ NB0_311.out _) | exact HI0.out)); (case side2 => repeat (first | (with_reducible first | exact HB.out | apply below_alloc | apply pw_below_drewN | apply below_drew1 | refine below_set ?_ (IsS100.ge HI0.out) | refine below_set ?_ GE307.out | refine below_set ?_ GE308.out | refine below_set ?_ GE311.out) | exact HB.out)); rintro e w38 ⟨rfl, hi, hb, hk⟩; refine ⟨_, rfl, ?_⟩; have n0_ := Aside0.mk (Kd.R_mono (Kd.R_keep (IsS100.apart (show IsS100 w0 _ g s0_0 t313 from by repeat (first | (with_reducible first | exact HI0.out | apply IsS100.alloc | apply IsS100.drewN | apply IsS100.drew | apply IsS100.set_1 | refine IsS100.far ?_ NB0_307.out _ | refine IsS100.far ?_ NB0_308.out _ | refine IsS100.far ?_ NB0_311.out _) | exact HI0.out)) rHO_309002_ (by decide)) hk (fun _ h => h.2)) (fun _ h => h.1)); have n1_ := Aside0.mk (KeepBut.blk hk (g' := gb307) (o := .cells #[.slice none 0 0, .int .i64 0, .slice none 0 0] 41 (0, 0)) bK307_ NB307_0.out (by simp)); have n2_ := Aside0.mk (KeepBut.blk hk (g' := gb308) (o := .cells #[.slice none 0 0, .int .i64 8, u309002] 41 (0, 0)) bK308_ NB308_0.out (by simp)); have n3_ := Aside0.mk (KeepBut.blk hk (g' := gb311) (o := .cells #[.int .i64 4, .int .i64 0, .int .i64 0, .int .i64 0] 86 (0, 0)) bK311_ NB311_0.out (by simp)); have n4_ := Aside0.mk (KeepBut.trans (by repeat (first | (with_reducible first | exact HK.out | apply KeepBut.set_ | apply keep_drewN | apply keep_drew | apply keep_alloc | refine keep_far ?_ GW307.out _ | refine keep_far ?_ GW308.out _ | refine keep_far ?_ GW311.out _) | exact HK.out)) hk (.inl rfl)); have n5_ := Aside0.mk (hb); have n6_ := Aside0.mk (hi); clear HO_309002; clear BK307; clear BK308; clear BK311; clear HK; clear HB; clear HI0; have HO_309002 := n0_; have BK307 := n1_; have BK308 := n2_; have BK311 := n3_; have HK := n4_; have HB := n5_; have HI0 := n6_; clear n0_ n1_ n2_ n3_ n4_ n5_ n6_; (try clear hb); (try clear hb2); (try clear hk); (try clear hi); have hnb39 := NB311_307.out; have hnc39 := NB307_311.out; have hnb40 := NB311_308.out; have hnc40 := NB308_311.out; have hnb41 := NB311_0.out; have hnc41 := NB0_311.out; obtain ⟨hcz42_0, hcz42_1, hcz42_2, hcz42_3, hfz42_0, hfz42_1, hfz42_2, hfz42_3⟩ := blkc4_ BK311.out; have hnb43 := NB308_307.out; have hnc43 := NB307_308.out; have hnb44 := NB308_0.out; have hnc44 := NB0_308.out; obtain ⟨hcz45_0, hcz45_1, hcz45_2, hfz45_0, hfz45_1, hfz45_2⟩ := blkc3_ BK308.out) | ((with_reducible refine gate_builtin (b := .append) (xs := #[.tmp 36, .tmp 39]) rfl ?_); at_builtin; refine Kd.R_append k88 w.heap.size rfl (.tmp 36) (.tmp 39) 39 88 (.agg #[(.slice none 0 0), (.slice none 0 0), (.int .i64 0), (.int .i64 0), (.int .i64 0), (.int .i64 0)]) 80 rfl Try.underlying39 info88 rfl (by decide) (by omega) u309002 x309002_1 (⟨([] : List (S95)), ([] : List (S27)), (⟨2, 0, t321, 0⟩ : S86)⟩ : S88) [.slice none 0 0, .slice none 0 0, .int .i64 2, .int .i64 0, .int .i64 t321, .int .i64 0] (fun _ => True) (fun k_ => ((fun _ => True)) k_ ∧ some k_ ≠ (u309002 : Value).ownBlock) rfl ?aX ?aP (fun _ hk => hk) ?aF ?aO (Below.refl _ _) ?aS ?aL ?_; (case aX => first | (simp only [Act.eval, World.setCell, Array.size_modify]; rfl) | (go_simp; done) | (go_simp; rfl)); (case aP => exact k88_mkM _ _ _ (⟨([] : List (S95)), ([] : List (S27)), (⟨2, 0, t321, 0⟩ : S86)⟩ : S88) (Kd.R_nil _ _ _ _ _) (Kd.R_nil _ _ _ _ _)); (case aF => exact (fun _ _ => trivial)); (case aO => exact (by (with_reducible repeat (first | apply Kd.R_alloc | apply Kd.R_drewN | apply Kd.R_drew)); exact Kd.R_mono (Kd.R_far (p := ⟨gb311, 3, none⟩) (Kd.R_far (p := ⟨gb311, 2, none⟩) (Kd.R_far (p := ⟨gb311, 1, none⟩) (Kd.R_far (p := ⟨gb311, 0, none⟩) (Kd.R_types HO_309002.out BK311.out (by decide)) (fun _ hk => hk.2) (.int .i64 2)) (fun _ hk => hk.2) (.int .i64 0)) (fun _ hk => hk.2) (.int .i64 t321)) (fun _ hk => hk.2) (.int .i64 0)) (fun _ hk => trivial))); (case aS => exact (keep_size (w := w) (g := g) (row := none) (by repeat (first | (with_reducible first | exact HK.out | apply KeepBut.set_ | apply keep_drewN | apply keep_drew | apply keep_alloc | refine keep_far ?_ GW307.out _ | refine keep_far ?_ GW308.out _ | refine keep_far ?_ GW311.out _) | exact HK.out)))); (case aL => have := LMc37.out; omega); intro v324 w46 ho hb hg hat; rw [← Ny323.out] at ho; have n0_ := Aside0.mk (blk_grown (g := gb307) (o := .cells #[.slice none 0 0, .int .i64 0, .slice none 0 0] 41 (0, 0)) fK307_ hg (Kd.R_ne HO_309002.out BK307.out (by decide))); have n1_ := Aside0.mk (blk_grown (g := gb308) (o := .cells #[.slice none 0 0, .int .i64 8, u309002] 41 (0, 0)) fK308_ hg (Kd.R_ne HO_309002.out BK308.out (by decide))); have n2_ := Aside0.mk (blk_grown (g := gb311) (o := .cells #[.int .i64 2, .int .i64 0, .int .i64 t321, .int .i64 0] 86 (0, 0)) (by (with_reducible repeat (first | refine blk_drewN ?_ _ | refine blk_drew ?_ | refine blk_alloc ?_ _)); refine blk_put (cs := #[.int .i64 2, .int .i64 0, .int .i64 t321, .int .i64 0]) ?_ 3 _ rfl; (with_reducible repeat (first | refine blk_drewN ?_ _ | refine blk_drew ?_ | refine blk_alloc ?_ _)); refine blk_put (cs := #[.int .i64 2, .int .i64 0, .int .i64 0, .int .i64 0]) ?_ 2 _ rfl; (with_reducible repeat (first | refine blk_drewN ?_ _ | refine blk_drew ?_ | refine blk_alloc ?_ _)); refine blk_put (cs := #[.int .i64 2, .int .i64 0, .int .i64 0, .int .i64 0]) ?_ 1 _ rfl; (with_reducible repeat (first | refine blk_drewN ?_ _ | refine blk_drew ?_ | refine blk_alloc ?_ _)); refine blk_put (cs := #[.int .i64 4, .int .i64 0, .int .i64 0, .int .i64 0]) ?_ 0 _ rfl; (with_reducible repeat (first | refine blk_drewN ?_ _ | refine blk_drew ?_ | refine blk_alloc ?_ _)); exact BK311.out) hg (Kd.R_ne HO_309002.out BK311.out (by decide))); have n3_ := Aside0.mk (IsS100.grown (IsS100.far (IsS100.far (IsS100.far (IsS100.far HI0.out NB0_311.out _) NB0_311.out _) NB0_311.out _) NB0_311.out _) hg (IsS100.own_ne HI0.out HO_309002.out (by decide))); have n4_ := Aside0.mk (below_weaken (below_set (below_set (below_set (below_set HB.out GE311.out) GE311.out) GE311.out) GE311.out) HL.out hb); have n5_ := Aside0.mk (KeepBut.trans (keep_far (keep_far (keep_far (keep_far HK.out GW311.out _) GW311.out _) GW311.out _) GW311.out _) (KeepBut.of_grown hg g) (Kd.R_base2 HO_309002.out)); have n6_ := Aside0.mk (ho); clear BK307; clear BK308; clear BK311; clear HI0; clear HB; clear HK; clear HO_309002; have BK307 := n0_; have BK308 := n1_; have BK311 := n2_; have HI0 := n3_; have HB := n4_; have HK := n5_; have HO325 := n6_; clear n0_ n1_ n2_ n3_ n4_ n5_ n6_; clear ho hb hg hat; obtain ⟨Ao47, co47, eo47⟩ := Kd.R_slice HO325.out; subst eo47; obtain ⟨hcz48_0, hcz48_1, hcz48_2, hfz48_0, hfz48_1, hfz48_2⟩ := blkc3_ BK308.out))
         go_roundg kj10
         case measure => have := HK1.out; have := HJ10.out; omega
         case rel => exact ⟨(wrap64 (x5_1 + 1)), (t322), (y323), (.slice Ao47 y323.length co47), rF_, H', ⟨by have := HK1.out; have := HJ10.out; omega⟩, ⟨by (with_reducible repeat (first | apply Kd.R_alloc | apply Kd.R_drewN | apply Kd.R_drew)); exact Kd.R_mono (Kd.R_far (p := ⟨gb308, 2, none⟩) (Kd.R_types HO325.out BK308.out (by decide)) (fun _ hk => hk.2) (.slice Ao47 y323.length co47)) (fun _ hk => trivial)⟩, ⟨fK307_⟩, ⟨by (with_reducible repeat (first | refine blk_drewN ?_ _ | refine blk_drew ?_ | refine blk_alloc ?_ _)); refine blk_put (cs := #[.slice none 0 0, .int .i64 8, u309002]) ?_ 2 _ rfl; (with_reducible repeat (first | refine blk_drewN ?_ _ | refine blk_drew ?_ | refine blk_alloc ?_ _)); exact BK308.out⟩, ⟨by repeat (first | (with_reducible first | exact HI0.out | apply IsS100.alloc | apply IsS100.drewN | apply IsS100.drew | apply IsS100.set_1 | refine IsS100.far ?_ NB0_307.out _ | refine IsS100.far ?_ NB0_308.out _ | refine IsS100.far ?_ NB0_311.out _) | exact HI0.out)⟩, ⟨by repeat (first | (with_reducible first | exact HK.out | apply KeepBut.set_ | apply keep_drewN | apply keep_drew | apply keep_alloc | refine keep_far ?_ GW307.out _ | refine keep_far ?_ GW308.out _ | refine keep_far ?_ GW311.out _) | exact HK.out)⟩, ⟨by repeat (first | (with_reducible first | exact HB.out | apply below_alloc | apply pw_below_drewN | apply below_drew1 | refine below_set ?_ (IsS100.ge HI0.out) | refine below_set ?_ GE307.out | refine below_set ?_ GE308.out | refine below_set ?_ GE311.out) | exact HB.out)⟩⟩
        ·rw [if_neg c37] at H
         exact absurd H (by simp)
       ·rw [if_neg c35] at H
        have c35b0 : (t312 == 2) = false := beq_eq_false_iff_ne.mpr c35
        have c35b1 : (t312 != 2) = true := bne_iff_ne.mpr c35
        by_cases c49 : x309002_1.length < 1759218604441
        ·rw [if_pos c49] at H
         have LMc49 := Aside0.mk c49
         clear c49
         obtain ⟨y326, hy326⟩ : ∃ y_ : List (S88), y_ = (x309002_1 ++ [(⟨([] : List (S95)), ([] : List (S27)), (⟨4, 0, 0, 0⟩ : S86)⟩ : S88)]) := ⟨_, rfl⟩
         replace H : (spec_l1Rd_graph.l0 kj10 (wrap64 (1 + t309)) (wrap64 (x5_1 + 1)) s0_0 t313 8 y326) = some (r1, r2, r3, r4) := by first | (rw [hy326]; with_reducible exact H) | (have H2_ := (Option.bind_some _ _).symm.trans H; rw [hy326]; with_reducible exact H2_) | (have H2_ := (Option.bind_some _ _).symm.trans H; with_reducible exact H2_) | with_reducible exact H | (rw [hy326]; exact H) | exact H
         have Ny326 := Aside0.mk hy326
         clear hy326
         have H' := Aside0.mk H
         clear H
         have hnb50 := NB308_307.out
         have hnc50 := NB307_308.out
         have hnb51 := NB308_311.out
         have hnc51 := NB311_308.out
         have hnb52 := NB308_0.out
         have hnc52 := NB0_308.out
         obtain ⟨hcz53_0, hcz53_1, hcz53_2, hfz53_0, hfz53_1, hfz53_2⟩ := blkc3_ BK308.out
         have hnb54 := NB311_307.out
         have hnc54 := NB307_311.out
         have hnb55 := NB311_0.out
         have hnc55 := NB0_311.out
         obtain ⟨hcz56_0, hcz56_1, hcz56_2, hcz56_3, hfz56_0, hfz56_1, hfz56_2, hfz56_3⟩ := blkc4_ BK311.out
         go_wp2_with (first | ((with_reducible refine gate_builtin (b := .append) (xs := #[.tmp 36, .tmp 39]) rfl ?_); at_builtin; refine Kd.R_append k88 w.heap.size rfl (.tmp 36) (.tmp 39) 39 88 (.agg #[(.slice none 0 0), (.slice none 0 0), (.int .i64 0), (.int .i64 0), (.int .i64 0), (.int .i64 0)]) 80 rfl Try.underlying39 info88 rfl (by decide) (by omega) u309002 x309002_1 (⟨([] : List (S95)), ([] : List (S27)), (⟨4, 0, 0, 0⟩ : S86)⟩ : S88) [.slice none 0 0, .slice none 0 0, .int .i64 4, .int .i64 0, .int .i64 0, .int .i64 0] (fun _ => True) (fun k_ => ((fun _ => True)) k_ ∧ some k_ ≠ (u309002 : Value).ownBlock) rfl rfl ?aP (fun _ hk => hk) ?aF ?aO (Below.refl _ _) ?aS ?aL ?_; (case aP => exact k88_mkM _ _ _ (⟨([] : List (S95)), ([] : List (S27)), (⟨4, 0, 0, 0⟩ : S86)⟩ : S88) (Kd.R_nil _ _ _ _ _) (Kd.R_nil _ _ _ _ _)); (case aF => exact (fun _ _ => trivial)); (case aO => exact rHO_309002_); (case aS => exact (keep_size (w := w) (g := g) (row := none) (by repeat (first | (with_reducible first | exact HK.out | apply KeepBut.set_ | apply keep_drewN | apply keep_drew | apply keep_alloc | refine keep_far ?_ GW307.out _ | refine keep_far ?_ GW308.out _ | refine keep_far ?_ GW311.out _) | exact HK.out)))); (case aL => have := LMc49.out; omega); intro v327 w57 ho hb hg hat; rw [← Ny326.out] at ho; have n0_ := Aside0.mk (blk_grown (g := gb307) (o := .cells #[.slice none 0 0, .int .i64 0, .slice none 0 0] 41 (0, 0)) bK307_ hg (Kd.R_ne HO_309002.out BK307.out (by decide))); have n1_ := Aside0.mk (blk_grown (g := gb308) (o := .cells #[.slice none 0 0, .int .i64 8, u309002] 41 (0, 0)) bK308_ hg (Kd.R_ne HO_309002.out BK308.out (by decide))); have n2_ := Aside0.mk (blk_grown (g := gb311) (o := .cells #[.int .i64 4, .int .i64 0, .int .i64 0, .int .i64 0] 86 (0, 0)) bK311_ hg (Kd.R_ne HO_309002.out BK311.out (by decide))); have n3_ := Aside0.mk (IsS100.grown (by repeat (first | (with_reducible first | exact HI0.out | apply IsS100.alloc | apply IsS100.drewN | apply IsS100.drew | apply IsS100.set_1 | refine IsS100.far ?_ NB0_307.out _ | refine IsS100.far ?_ NB0_308.out _ | refine IsS100.far ?_ NB0_311.out _) | exact HI0.out)) hg (IsS100.own_ne HI0.out HO_309002.out (by decide))); have n4_ := Aside0.mk (below_weaken (by repeat (first | (with_reducible first | exact HB.out | apply below_alloc | apply pw_below_drewN | apply below_drew1 | refine below_set ?_ (IsS100.ge HI0.out) | refine below_set ?_ GE307.out | refine below_set ?_ GE308.out | refine below_set ?_ GE311.out) | exact HB.out)) HL.out hb); have n5_ := Aside0.mk (KeepBut.trans (by repeat (first | (with_reducible first | exact HK.out | apply KeepBut.set_ | apply keep_drewN | apply keep_drew | apply keep_alloc | refine keep_far ?_ GW307.out _ | refine keep_far ?_ GW308.out _ | refine keep_far ?_ GW311.out _) | exact HK.out)) (KeepBut.of_grown hg g) (Kd.R_base2 HO_309002.out)); have n6_ := Aside0.mk (ho); clear BK307; clear BK308; clear BK311; clear HI0; clear HB; clear HK; clear HO_309002; have BK307 := n0_; have BK308 := n1_; have BK311 := n2_; have HI0 := n3_; have HB := n4_; have HK := n5_; have HO328 := n6_; clear n0_ n1_ n2_ n3_ n4_ n5_ n6_; clear ho hb hg hat; obtain ⟨Ao58, co58, eo58⟩ := Kd.R_slice HO328.out; subst eo58; obtain ⟨hcz59_0, hcz59_1, hcz59_2, hfz59_0, hfz59_1, hfz59_2⟩ := blkc3_ BK308.out))
         go_roundg kj10
         case measure => have := HK1.out; have := HJ10.out; omega
         case rel => exact ⟨(wrap64 (x5_1 + 1)), (t313), (y326), (.slice Ao58 y326.length co58), rF_, H', ⟨by have := HK1.out; have := HJ10.out; omega⟩, ⟨by (with_reducible repeat (first | apply Kd.R_alloc | apply Kd.R_drewN | apply Kd.R_drew)); exact Kd.R_mono (Kd.R_far (p := ⟨gb308, 2, none⟩) (Kd.R_types HO328.out BK308.out (by decide)) (fun _ hk => hk.2) (.slice Ao58 y326.length co58)) (fun _ hk => trivial)⟩, ⟨fK307_⟩, ⟨by (with_reducible repeat (first | refine blk_drewN ?_ _ | refine blk_drew ?_ | refine blk_alloc ?_ _)); refine blk_put (cs := #[.slice none 0 0, .int .i64 8, u309002]) ?_ 2 _ rfl; (with_reducible repeat (first | refine blk_drewN ?_ _ | refine blk_drew ?_ | refine blk_alloc ?_ _)); exact BK308.out⟩, ⟨by repeat (first | (with_reducible first | exact HI0.out | apply IsS100.alloc | apply IsS100.drewN | apply IsS100.drew | apply IsS100.set_1 | refine IsS100.far ?_ NB0_307.out _ | refine IsS100.far ?_ NB0_308.out _ | refine IsS100.far ?_ NB0_311.out _) | exact HI0.out)⟩, ⟨by repeat (first | (with_reducible first | exact HK.out | apply KeepBut.set_ | apply keep_drewN | apply keep_drew | apply keep_alloc | refine keep_far ?_ GW307.out _ | refine keep_far ?_ GW308.out _ | refine keep_far ?_ GW311.out _) | exact HK.out)⟩, ⟨by repeat (first | (with_reducible first | exact HB.out | apply below_alloc | apply pw_below_drewN | apply below_drew1 | refine below_set ?_ (IsS100.ge HI0.out) | refine below_set ?_ GE307.out | refine below_set ?_ GE308.out | refine below_set ?_ GE311.out) | exact HB.out)⟩⟩
        ·rw [if_neg c49] at H
         exact absurd H (by simp)
   ·rw [if_neg c9] at H
    have c9b0 : decide (x5_1 < (wrap64 (1 + t309))) = false := decide_eq_false c9
    clear c9
    replace H := Option.bind_eq_some_iff.mp H
    obtain ⟨⟨t329, t330⟩, A600, H⟩ := H
    replace H : (if t329 = true then ((spec_l1Rd_off.f k1 s0_0 t330 0 7).bind fun bt331 => (if 0 < (x309002_1.length : Int) then (some (([] : List Int), 8, (x309002_1.set (0 : Int).toNat (⟨(rd_T88 x309002_1 0).f0, (rd_T88 x309002_1 0).f1, (⟨(rd_T88 x309002_1 0).f2.f0, (rd_T88 x309002_1 0).f2.f1, bt331.1, (rd_T88 x309002_1 0).f2.f3⟩ : S86)⟩ : S88)), bt331.2)) else (none))) else (some (([] : List Int), 8, x309002_1, t330))) = some (r1, r2, r3, r4) := H
    have A60 := Aside0.mk A600
    clear A600
    by_cases c61 : t329 = true
    ·subst c61
     have H1 := (if_pos rfl).symm.trans H
     clear H
     have H := H1
     clear H1
     replace H := Option.bind_eq_some_iff.mp H
     obtain ⟨⟨t331, t332⟩, A620, H⟩ := H
     replace H : (if 0 < (x309002_1.length : Int) then (some (([] : List Int), 8, (x309002_1.set (0 : Int).toNat (⟨(rd_T88 x309002_1 0).f0, (rd_T88 x309002_1 0).f1, (⟨(rd_T88 x309002_1 0).f2.f0, (rd_T88 x309002_1 0).f2.f1, t331, (rd_T88 x309002_1 0).f2.f3⟩ : S86)⟩ : S88)), t332)) else (none)) = some (r1, r2, r3, r4) := H
     have A62 := Aside0.mk A620
     clear A620
     by_cases c63 : 0 < (x309002_1.length : Int)
     ·rw [if_pos c63] at H
      have c63b0 : decide (0 < (x309002_1.length : Int)) = true := decide_eq_true c63
      have c63b1 : decide (0 < x309002_1.length) = true := decide_eq_true (by omega)
      clear c63
      obtain ⟨y333, hy333⟩ : ∃ y_ : List (S88), y_ = (x309002_1.set (0 : Int).toNat (⟨(rd_T88 x309002_1 0).f0, (rd_T88 x309002_1 0).f1, (⟨(rd_T88 x309002_1 0).f2.f0, (rd_T88 x309002_1 0).f2.f1, t331, (rd_T88 x309002_1 0).f2.f3⟩ : S86)⟩ : S88)) := ⟨_, rfl⟩
      replace H : (some (([] : List Int), 8, y333, t332)) = some (r1, r2, r3, r4) := by first | (rw [hy333]; with_reducible exact H) | (have H2_ := (Option.bind_some _ _).symm.trans H; rw [hy333]; with_reducible exact H2_) | (have H2_ := (Option.bind_some _ _).symm.trans H; with_reducible exact H2_) | with_reducible exact H | (rw [hy333]; exact H) | exact H
      have Ny333 := Aside0.mk hy333
      clear hy333
      simp only [Option.some.injEq, Prod.mk.injEq] at H
      obtain ⟨rfl, rfl, rfl, rfl⟩ := H
      try go_wp2_with (first | ((with_reducible refine gate_callee (f := 102) rfl ?_); refine gL_ (some 43) Try.func102 #[.pointer (some ⟨g, 0, none⟩), .int .i64 30] ?_; (with_reducible refine (spec_l1Rd_once.calls g s0_0 x1001_1 30 true t330 w0 _ ?side1 ?side2 A60.out).mono ?_); (case side1 => repeat (first | (with_reducible first | exact HI0.out | apply IsS100.alloc | apply IsS100.drewN | apply IsS100.drew | apply IsS100.set_1 | refine IsS100.far ?_ NB0_307.out _ | refine IsS100.far ?_ NB0_308.out _) | exact HI0.out)); (case side2 => repeat (first | (with_reducible first | exact HB.out | apply below_alloc | apply pw_below_drewN | apply below_drew1 | refine below_set ?_ (IsS100.ge HI0.out) | refine below_set ?_ GE307.out | refine below_set ?_ GE308.out) | exact HB.out)); rintro e w65 ⟨rfl, hi, hb, hk⟩; refine ⟨_, rfl, ?_⟩; have n0_ := Aside0.mk (Kd.R_mono (Kd.R_keep (IsS100.apart (show IsS100 w0 _ g s0_0 x1001_1 from by repeat (first | (with_reducible first | exact HI0.out | apply IsS100.alloc | apply IsS100.drewN | apply IsS100.drew | apply IsS100.set_1 | refine IsS100.far ?_ NB0_307.out _ | refine IsS100.far ?_ NB0_308.out _) | exact HI0.out)) rHO_309002_ (by decide)) hk (fun _ h => h.2)) (fun _ h => h.1)); have n1_ := Aside0.mk (KeepBut.blk hk (g' := gb307) (o := .cells #[.slice none 0 0, .int .i64 0, .slice none 0 0] 41 (0, 0)) bK307_ NB307_0.out (by simp)); have n2_ := Aside0.mk (KeepBut.blk hk (g' := gb308) (o := .cells #[.slice none 0 0, .int .i64 8, u309002] 41 (0, 0)) bK308_ NB308_0.out (by simp)); have n3_ := Aside0.mk (KeepBut.trans (by repeat (first | (with_reducible first | exact HK.out | apply KeepBut.set_ | apply keep_drewN | apply keep_drew | apply keep_alloc | refine keep_far ?_ GW307.out _ | refine keep_far ?_ GW308.out _) | exact HK.out)) hk (.inl rfl)); have n4_ := Aside0.mk (hb); have n5_ := Aside0.mk (hi); clear HO_309002; clear BK307; clear BK308; clear HK; clear HB; clear HI0; have HO_309002 := n0_; have BK307 := n1_; have BK308 := n2_; have HK := n3_; have HB := n4_; have HI0 := n5_; clear n0_ n1_ n2_ n3_ n4_ n5_; (try clear hb); (try clear hb2); (try clear hk); (try clear hi)))
      have n0_ := Aside0.mk (Kd.R_drew HO_309002.out)
      have n1_ := Aside0.mk (blk_drew BK307.out)
      have n2_ := Aside0.mk (blk_drew BK308.out)
      have n3_ := Aside0.mk (IsS100.drew HI0.out)
      have n4_ := Aside0.mk (keep_drew HK.out)
      have n5_ := Aside0.mk (below_drew1 HB.out)
      clear HO_309002
      clear BK307
      clear BK308
      clear HI0
      clear HK
      clear HB
      have HO_309002 := n0_
      have BK307 := n1_
      have BK308 := n2_
      have HI0 := n3_
      have HK := n4_
      have HB := n5_
      clear n0_ n1_ n2_ n3_ n4_ n5_
      refine start_ (n := 8) (S := fun w' => w'.cell? ⟨gb308, 0, none⟩ = some (.slice none 0 0) ∧ w'.cell? ⟨gb308, 1, none⟩ = some (.int .i64 8) ∧ w'.cell? ⟨gb308, 2, none⟩ = some (u309002)) (ds := [7]) #[false, false, false, false, false, false, false, false] (by kernel_rfl) rfl rfl ⟨(blk_cell BK308.out 0).trans rfl, (blk_cell BK308.out 1).trans rfl, (blk_cell BK308.out 2).trans rfl⟩ (fun hHeld => ?_); refine with_tabW spec_l1Rd_graph.tab15 spec_l1Rd_graph.bits15 (fun HT_ HW_ => ?_)
      generalize w65.drew = w66 at HO_309002 BK307 BK308 HI0 HK HB hHeld ⊢
      refine pure_ (i := 0) (N := some 44) (v := ?_) (a' := ?_) #[true, false, false, false, false, false, false, false] rfl rfl (any_of HT_.out (by kernel_rfl)) (fun _ _ _ h => h) (Or.inl ⟨by rfl, ?_⟩) ?_ ?_
      rotate_left
      ·intro w'
       go_simp
       with_reducible rfl
      rotate_left
      ·simp only [Act.put, List.setIfInBounds_toArray, List.set_cons_zero, List.set_cons_succ, i64_w, i32_w]
       rfl
      refine pure_ (i := 2) (N := some 46) (v := ?_) (a' := ?_) #[true, false, true, false, false, false, false, false] rfl rfl (any_of HT_.out (by kernel_rfl)) (fun _ _ _ h => h) (Or.inl ⟨by rfl, ?_⟩) ?_ ?_
      rotate_left
      ·intro w'
       go_simp
       with_reducible rfl
      rotate_left
      ·simp only [Act.put, List.setIfInBounds_toArray, List.set_cons_zero, List.set_cons_succ, i64_w, i32_w]
       rfl
      refine take_ (i := 1) (N := some 45) (v := ?_) (a' := ?_) #[true, true, true, false, false, false, false, false] rfl rfl (take_ofW HT_.out HW_.out (by kernel_rfl)) (fun _ _ _ h => h) (Or.inl ⟨by rfl, ?_⟩) hHeld ?_ ?_
      rotate_left
      ·rintro w' ⟨s0, s1, s2⟩
       go_simp
       with_reducible rfl
      rotate_left
      ·simp only [Act.put, List.setIfInBounds_toArray, List.set_cons_zero, List.set_cons_succ, i64_w, i32_w]
       rfl
      refine one_ (i := 3) (N := some 47) #[true, true, true, true, false, false, false, false] rfl rfl (one_of HT_.out (by kernel_rfl)) (by decide) (fun K hK => ?_)
      refine goes_ Try.func68 (by kernel_rfl) rfl #[.pointer (some ⟨g, 0, none⟩), .int .i64 0, .int .i64 7] (by rfl) rfl rfl (by (try simp only [List.map_toArray, List.map_cons, List.map_nil]); first | done | rfl | (simp only [List.length_drop, List.length_take]; rfl)) ?_
      with_reducible refine (spec_l1Rd_off.calls k1 g s0_0 t330 0 7 t331 t332 w0 _ ?side1 ?side2 A62.out).mono ?_
      (case side1 => repeat (first | (with_reducible first | exact HI0.out | apply IsS100.alloc | apply IsS100.drewN | apply IsS100.drew | apply IsS100.set_1 | refine IsS100.far ?_ NB0_307.out _ | refine IsS100.far ?_ NB0_308.out _) | exact HI0.out))
      (case side2 => repeat (first | (with_reducible first | exact HB.out | apply below_alloc | apply pw_below_drewN | apply below_drew1 | refine below_set ?_ (IsS100.ge HI0.out) | refine below_set ?_ GE307.out | refine below_set ?_ GE308.out) | exact HB.out))
      rintro e w67 ⟨rfl, hi, hb, hk⟩
      refine ⟨_, rfl, ?_⟩
      have n0_ := Aside0.mk (Kd.R_mono (Kd.R_keep (IsS100.apart (show IsS100 w0 _ g s0_0 t330 from by repeat (first | (with_reducible first | exact HI0.out | apply IsS100.alloc | apply IsS100.drewN | apply IsS100.drew | apply IsS100.set_1 | refine IsS100.far ?_ NB0_307.out _ | refine IsS100.far ?_ NB0_308.out _) | exact HI0.out)) rHO_309002_ (by decide)) hk (fun _ h => h.2)) (fun _ h => h.1))
      have n1_ := Aside0.mk (KeepBut.blk hk (g' := gb307) (o := .cells #[.slice none 0 0, .int .i64 0, .slice none 0 0] 41 (0, 0)) bK307_ NB307_0.out (by simp))
      have n2_ := Aside0.mk (KeepBut.blk hk (g' := gb308) (o := .cells #[.slice none 0 0, .int .i64 8, u309002] 41 (0, 0)) bK308_ NB308_0.out (by simp))
      have n3_ := Aside0.mk (KeepBut.trans (by repeat (first | (with_reducible first | exact HK.out | apply KeepBut.set_ | apply keep_drewN | apply keep_drew | apply keep_alloc | refine keep_far ?_ GW307.out _ | refine keep_far ?_ GW308.out _) | exact HK.out)) hk (.inl rfl))
      have n4_ := Aside0.mk (hb)
      have n5_ := Aside0.mk (hi)
      clear HO_309002
      clear BK307
      clear BK308
      clear HK
      clear HB
      clear HI0
      have HO_309002 := n0_
      have BK307 := n1_
      have BK308 := n2_
      have HK := n3_
      have HB := n4_
      have HI0 := n5_
      clear n0_ n1_ n2_ n3_ n4_ n5_
      (try clear hb)
      (try clear hb2)
      (try clear hk)
      (try clear hi)
      have p64 : 0 ≤ (0 : Int) := (by omega)
      have q64 : (0 : Int) < ((x309002_1.length : Int) : Int) := oD_
      have qi64 : (0 < x309002_1.length) = True := eq_true (by omega)
      obtain ⟨go64, co64, eo64, gb64, gl64, cl64, HG64⟩ := Kd.R_form HO_309002.out (by omega)
      (first | cases eo64 | (injection eo64 with ea_ en_ ec_; (first | subst ea_ | (injection ea_ with ea_; subst ea_)); subst ec_; clear en_))
      have GB64 := Aside0.mk gb64
      have GG64 := Aside0.mk HG64
      clear gb64 gl64 HG64
      obtain ⟨ce64, hcl64, hM64, hcc64, hfr64⟩ := Kd.R_elem HO_309002.out z88 (0 : Int) p64 q64
      obtain ⟨ve64_0, ve64_1, rfl, ge64_0, ge64_1⟩ := k88_openM hM64
      have hx64_0 : World.cell? _ ⟨go64, (0 : Int).toNat * 6, none⟩ = some (ve64_0) := hcc64 0 _ rfl
      have hx64_1 : World.cell? _ ⟨go64, (0 : Int).toNat * 6 + 1, none⟩ = some (ve64_1) := hcc64 1 _ rfl
      have hx64_2 : World.cell? _ ⟨go64, (0 : Int).toNat * 6 + 2, none⟩ = some (.int .i64 ((rd_T88 x309002_1 0).f2.f0)) := hcc64 2 _ rfl
      have hx64_3 : World.cell? _ ⟨go64, (0 : Int).toNat * 6 + 3, none⟩ = some (.int .i64 ((rd_T88 x309002_1 0).f2.f1)) := hcc64 3 _ rfl
      have hx64_4 : World.cell? _ ⟨go64, (0 : Int).toNat * 6 + 4, none⟩ = some (.int .i64 ((rd_T88 x309002_1 0).f2.f2)) := hcc64 4 _ rfl
      have hx64_5 : World.cell? _ ⟨go64, (0 : Int).toNat * 6 + 5, none⟩ = some (.int .i64 ((rd_T88 x309002_1 0).f2.f3)) := hcc64 5 _ rfl
      have hf64_0 : World.frozen? _ ⟨go64, (0 : Int).toNat * 6, none⟩ = false := hfr64 0
      have hf64_1 : World.frozen? _ ⟨go64, (0 : Int).toNat * 6 + 1, none⟩ = false := hfr64 1
      have hf64_2 : World.frozen? _ ⟨go64, (0 : Int).toNat * 6 + 2, none⟩ = false := hfr64 2
      have hf64_3 : World.frozen? _ ⟨go64, (0 : Int).toNat * 6 + 3, none⟩ = false := hfr64 3
      have hf64_4 : World.frozen? _ ⟨go64, (0 : Int).toNat * 6 + 4, none⟩ = false := hfr64 4
      have hf64_5 : World.frozen? _ ⟨go64, (0 : Int).toNat * 6 + 5, none⟩ = false := hfr64 5
      clear hcl64 hcc64 hfr64 hM64
      (try rw [show ((0 : Int)).toNat = 0 from rfl] at hx64_0)
      (try simp only [Nat.reduceMul, Nat.zero_mul, Nat.zero_add, Nat.reduceAdd] at hx64_0)
      (try rw [show ((0 : Int)).toNat = 0 from rfl] at hf64_0)
      (try simp only [Nat.reduceMul, Nat.zero_mul, Nat.zero_add, Nat.reduceAdd] at hf64_0)
      (try rw [show ((0 : Int)).toNat = 0 from rfl] at hx64_1)
      (try simp only [Nat.reduceMul, Nat.zero_mul, Nat.zero_add, Nat.reduceAdd] at hx64_1)
      (try rw [show ((0 : Int)).toNat = 0 from rfl] at hf64_1)
      (try simp only [Nat.reduceMul, Nat.zero_mul, Nat.zero_add, Nat.reduceAdd] at hf64_1)
      (try rw [show ((0 : Int)).toNat = 0 from rfl] at hx64_2)
      (try simp only [Nat.reduceMul, Nat.zero_mul, Nat.zero_add, Nat.reduceAdd] at hx64_2)
      (try rw [show ((0 : Int)).toNat = 0 from rfl] at hf64_2)
      (try simp only [Nat.reduceMul, Nat.zero_mul, Nat.zero_add, Nat.reduceAdd] at hf64_2)
      (try rw [show ((0 : Int)).toNat = 0 from rfl] at hx64_3)
      (try simp only [Nat.reduceMul, Nat.zero_mul, Nat.zero_add, Nat.reduceAdd] at hx64_3)
      (try rw [show ((0 : Int)).toNat = 0 from rfl] at hf64_3)
      (try simp only [Nat.reduceMul, Nat.zero_mul, Nat.zero_add, Nat.reduceAdd] at hf64_3)
      (try rw [show ((0 : Int)).toNat = 0 from rfl] at hx64_4)
      (try simp only [Nat.reduceMul, Nat.zero_mul, Nat.zero_add, Nat.reduceAdd] at hx64_4)
      (try rw [show ((0 : Int)).toNat = 0 from rfl] at hf64_4)
      (try simp only [Nat.reduceMul, Nat.zero_mul, Nat.zero_add, Nat.reduceAdd] at hf64_4)
      (try rw [show ((0 : Int)).toNat = 0 from rfl] at hx64_5)
      (try simp only [Nat.reduceMul, Nat.zero_mul, Nat.zero_add, Nat.reduceAdd] at hx64_5)
      (try rw [show ((0 : Int)).toNat = 0 from rfl] at hf64_5)
      (try simp only [Nat.reduceMul, Nat.zero_mul, Nat.zero_add, Nat.reduceAdd] at hf64_5)
      replace p64 := eq_true p64
      replace q64 := eq_true q64
      have HN0_go64 := Aside0.mk (show g ≠ go64 from by have h_ := IsS100.own_ne HI0.out HO_309002.out (by decide); intro e_; exact h_ (by rw [e_]; rfl))
      obtain ⟨ce68, hcl68, hM68, hcc68, hfr68⟩ := Kd.R_elem HO_309002.out z88 (0 : Int) (by omega) (by have h_ : (0 : Int) < ((x309002_1.length : Int) : Int) := oD_; first | exact h_ | (have e_ := (Kd.R_reads' HO_309002.out).1; omega) | simpa using h_)
      obtain ⟨ve68_0, ve68_1, rfl, ge68_0, ge68_1⟩ := k88_openM hM68
      have HP68 := (Kd.R_seg HO_309002.out (0 : Int) (by omega) (by have h_ : (0 : Int) < ((x309002_1.length : Int) : Int) := oD_; first | exact h_ | (have e_ := (Kd.R_reads' HO_309002.out).1; omega) | simpa using h_) (seg := [.int .i64 t331]) (j := 4) hcl68 hcc68 (show 5 ≤ 6 from by decide) (x' := (⟨(rd_T88 x309002_1 0).f0, (rd_T88 x309002_1 0).f1, (⟨(rd_T88 x309002_1 0).f2.f0, (rd_T88 x309002_1 0).f2.f1, t331, (rd_T88 x309002_1 0).f2.f3⟩ : S86)⟩ : S88)) (k88_mkM _ _ _ (⟨(rd_T88 x309002_1 0).f0, (rd_T88 x309002_1 0).f1, (⟨(rd_T88 x309002_1 0).f2.f0, (rd_T88 x309002_1 0).f2.f1, t331, (rd_T88 x309002_1 0).f2.f3⟩ : S86)⟩ : S88) ge68_0 ge68_1) (fun _ hk => hk)).1
      rw [← Ny333.out] at HP68
      have HQ68 := Aside0.mk HP68
      clear hcl68 hcc68 hfr68 hM68 HP68
      refine hK.out _ _ ⟨(blk_cell BK308.out 0).trans rfl, (blk_cell BK308.out 1).trans rfl, (blk_cell BK308.out 2).trans rfl⟩ (fun hHeld => ?_)
      clear hK K
      refine norm_ (a' := ?_) ?_ ?_
      rotate_left
      ·show Act.put _ (some 47) _ = _
       simp only [Act.put, List.setIfInBounds_toArray, List.set_cons_zero, List.set_cons_succ, i64_w, i32_w]
       rfl
      refine pure_ (i := 4) (N := some 48) (v := ?_) (a' := ?_) #[true, true, true, true, true, false, false, false] rfl rfl (any_of HT_.out (by kernel_rfl)) (fun _ _ _ h => h) (Or.inl ⟨by rfl, ?_⟩) ?_ ?_
      rotate_left
      ·intro w'
       go_simp
       with_reducible rfl
      rotate_left
      ·simp only [Act.put, List.setIfInBounds_toArray, List.set_cons_zero, List.set_cons_succ, i64_w, i32_w]
       rfl
      refine pure_ (i := 5) (N := some 49) (v := ?_) (a' := ?_) #[true, true, true, true, true, true, false, false] rfl rfl (any_of HT_.out (by kernel_rfl)) (fun _ _ _ h => h) (Or.inl ⟨by rfl, ?_⟩) ?_ ?_
      rotate_left
      ·intro w'
       go_simp
       with_reducible rfl
      rotate_left
      ·simp only [Act.put, List.setIfInBounds_toArray, List.set_cons_zero, List.set_cons_succ, i64_w, i32_w]
       rfl
      refine pure_ (i := 6) (N := some 50) (v := ?_) (a' := ?_) #[true, true, true, true, true, true, true, false] rfl rfl (any_of HT_.out (by kernel_rfl)) (fun _ _ _ h => h) (Or.inl ⟨by rfl, ?_⟩) ?_ ?_
      rotate_left
      ·intro w'
       go_simp
       with_reducible rfl
      rotate_left
      ·simp only [Act.put, List.setIfInBounds_toArray, List.set_cons_zero, List.set_cons_succ, i64_w, i32_w]
       rfl
      refine last_ (i := 7) (N := none) #[true, true, true, true, true, true, true, true] rfl rfl (one_of HT_.out (by kernel_rfl)) (by decide) (fun K hK => ?_)
      refine skip_ (w1 := ?_) (by rfl) rfl ?_ ?_
      rotate_left
      ·go_simp
       rfl
      refine hK.out _ _ ?_
      clear hK K
      refine done_ (done_of HT_.out (by kernel_rfl)) ?_
      have n0_ : Aside0 (Kd.R k88 88 (w67.setCell ⟨go64, 4, none⟩ (.int .i64 t331)) w.heap.size (fun _ => True) (.slice (some ⟨go64, 0, none⟩) x309002_1.length co64) y333) := ⟨by (with_reducible repeat (first | apply Kd.R_alloc | apply Kd.R_drewN | apply Kd.R_drew)); exact HQ68.out⟩
      have n1_ : Aside0 ((w67.setCell ⟨go64, 4, none⟩ (.int .i64 t331)).heap[gb307]? = some (.cells #[.slice none 0 0, .int .i64 0, .slice none 0 0] 41 (0, 0))) := ⟨by (with_reducible repeat (first | refine blk_drewN ?_ _ | refine blk_drew ?_ | refine blk_alloc ?_ _)); refine blk_far ?_ (by have h_ := Kd.R_ne HO_309002.out BK307.out (by decide); intro e_; exact h_ (by rw [e_]; rfl)) _; (with_reducible repeat (first | refine blk_drewN ?_ _ | refine blk_drew ?_ | refine blk_alloc ?_ _)); exact BK307.out⟩
      have n2_ : Aside0 ((w67.setCell ⟨go64, 4, none⟩ (.int .i64 t331)).heap[gb308]? = some (.cells #[.slice none 0 0, .int .i64 8, .slice (some ⟨go64, 0, none⟩) x309002_1.length co64] 41 (0, 0))) := ⟨by (with_reducible repeat (first | refine blk_drewN ?_ _ | refine blk_drew ?_ | refine blk_alloc ?_ _)); refine blk_far ?_ (by have h_ := Kd.R_ne HO_309002.out BK308.out (by decide); intro e_; exact h_ (by rw [e_]; rfl)) _; (with_reducible repeat (first | refine blk_drewN ?_ _ | refine blk_drew ?_ | refine blk_alloc ?_ _)); exact BK308.out⟩
      have n3_ : Aside0 (IsS100 w0 (w67.setCell ⟨go64, 4, none⟩ (.int .i64 t331)) g s0_0 t332) := ⟨by repeat (first | (with_reducible first | exact HI0.out | apply IsS100.alloc | apply IsS100.drewN | apply IsS100.drew | apply IsS100.set_1 | refine IsS100.far ?_ HN0_go64.out _ | refine IsS100.far ?_ NB0_307.out _ | refine IsS100.far ?_ NB0_308.out _) | exact HI0.out)⟩
      have n4_ : Aside0 (KeepBut w (w67.setCell ⟨go64, 4, none⟩ (.int .i64 t331)) g none) := ⟨by repeat (first | (with_reducible first | exact HK.out | apply KeepBut.set_ | apply keep_drewN | apply keep_drew | apply keep_alloc | refine keep_far ?_ GB64.out _ | refine keep_far ?_ GW307.out _ | refine keep_far ?_ GW308.out _) | exact HK.out)⟩
      have n5_ : Aside0 (Below w0.heap.size w0 (w67.setCell ⟨go64, 4, none⟩ (.int .i64 t331))) := ⟨by repeat (first | (with_reducible first | exact HB.out | apply below_alloc | apply pw_below_drewN | apply below_drew1 | refine below_set ?_ (Nat.le_trans HL.out GB64.out) | refine below_set ?_ (IsS100.ge HI0.out) | refine below_set ?_ GE307.out | refine below_set ?_ GE308.out) | exact HB.out)⟩
      (try clear HO_309002)
      (try clear BK307)
      (try clear BK308)
      (try clear HI0)
      (try clear HK)
      (try clear HB)
      generalize (w67.setCell ⟨go64, 4, none⟩ (.int .i64 t331)) = w69 at n0_ n1_ n2_ n3_ n4_ n5_ ⊢
      have HO_309002 := n0_
      have BK307 := n1_
      have BK308 := n2_
      have HI0 := n3_
      have HK := n4_
      have HB := n5_
      clear n0_ n1_ n2_ n3_ n4_ n5_
      have hnb70 := NB308_307.out
      have hnc70 := NB307_308.out
      have hnb71 := NB308_0.out
      have hnc71 := NB0_308.out
      obtain ⟨hcz72_0, hcz72_1, hcz72_2, hfz72_0, hfz72_1, hfz72_2⟩ := blkc3_ BK308.out
      have hnb73 := NB307_0.out
      have hnc73 := NB0_307.out
      obtain ⟨hcz74_0, hcz74_1, hcz74_2, hfz74_0, hfz74_1, hfz74_2⟩ := blkc3_ BK307.out
      try go_wp2
      refine bodyPost_ret (results_cell_row rfl _ _ gb307 41 #[.slice none 0 0, .int .i64 8, .slice (some ⟨go64, 0, none⟩) x309002_1.length co64] (0, 0) _ rfl (by (with_reducible repeat (first | refine blk_drewN ?_ _ | refine blk_drew ?_ | refine blk_alloc ?_ _)); refine blk_put (cs := #[.slice none 0 0, .int .i64 8, .slice none 0 0]) ?_ 2 _ rfl; (with_reducible repeat (first | refine blk_drewN ?_ _ | refine blk_drew ?_ | refine blk_alloc ?_ _)); refine blk_put (cs := #[.slice none 0 0, .int .i64 0, .slice none 0 0]) ?_ 1 _ rfl; (with_reducible repeat (first | refine blk_drewN ?_ _ | refine blk_drew ?_ | refine blk_alloc ?_ _)); refine blk_put (cs := #[.slice none 0 0, .int .i64 0, .slice none 0 0]) ?_ 0 _ rfl; (with_reducible repeat (first | refine blk_drewN ?_ _ | refine blk_drew ?_ | refine blk_alloc ?_ _)); exact BK307.out) Try.underlying41 rfl (by kernel_rfl)) rfl ?_
      exact ⟨_, _, rG_, by first | exact Kd.R_nil _ _ _ _ _ | exact Kd.N_nil _ _ _ _ _ | exact Kd.V_nil _ _ _ _ _ | exact Kd.Q_nil _ _ _ _ _ | exact Kd.S_nil _ _ _ _ _, by (with_reducible repeat (first | apply Kd.R_alloc | apply Kd.R_drewN | apply Kd.R_drew)); exact Kd.R_mono (Kd.R_far (p := ⟨gb307, 2, none⟩) (Kd.R_far (p := ⟨gb307, 1, none⟩) (Kd.R_far (p := ⟨gb307, 0, none⟩) (Kd.R_types HO_309002.out BK307.out (by decide)) (fun _ hk => hk.2) (.slice none 0 0)) (fun _ hk => hk.2) (.int .i64 8)) (fun _ hk => hk.2) (.slice (some ⟨go64, 0, none⟩) x309002_1.length co64)) (fun _ hk => (by simp [Value.ownBlock])), by repeat (first | (with_reducible first | exact HI0.out | apply IsS100.alloc | apply IsS100.drewN | apply IsS100.drew | apply IsS100.set_1 | refine IsS100.far ?_ NB0_307.out _ | refine IsS100.far ?_ NB0_308.out _) | exact HI0.out), by repeat (first | (with_reducible first | exact HB.out | apply below_alloc | apply pw_below_drewN | apply below_drew1 | refine below_set ?_ (IsS100.ge HI0.out) | refine below_set ?_ GE307.out | refine below_set ?_ GE308.out) | exact HB.out), by repeat (first | (with_reducible first | exact HK.out | apply KeepBut.set_ | apply keep_drewN | apply keep_drew | apply keep_alloc | refine keep_far ?_ GW307.out _ | refine keep_far ?_ GW308.out _) | exact HK.out)⟩
     ·rw [if_neg c63] at H
      exact absurd H (by simp)
    ·replace c61 := Bool.eq_false_iff.mpr c61
     subst c61
     have H1 := (if_neg (show ¬ (false = true) by decide)).symm.trans H
     clear H
     have H := H1
     clear H1
     simp only [Option.some.injEq, Prod.mk.injEq] at H
     obtain ⟨rfl, rfl, rfl, rfl⟩ := H
     go_wp2_with (first | ((with_reducible refine gate_callee (f := 102) rfl ?_); refine gL_ (some 43) Try.func102 #[.pointer (some ⟨g, 0, none⟩), .int .i64 30] ?_; (with_reducible refine (spec_l1Rd_once.calls g s0_0 x1001_1 30 false t330 w0 _ ?side1 ?side2 A60.out).mono ?_); (case side1 => repeat (first | (with_reducible first | exact HI0.out | apply IsS100.alloc | apply IsS100.drewN | apply IsS100.drew | apply IsS100.set_1 | refine IsS100.far ?_ NB0_307.out _ | refine IsS100.far ?_ NB0_308.out _) | exact HI0.out)); (case side2 => repeat (first | (with_reducible first | exact HB.out | apply below_alloc | apply pw_below_drewN | apply below_drew1 | refine below_set ?_ (IsS100.ge HI0.out) | refine below_set ?_ GE307.out | refine below_set ?_ GE308.out) | exact HB.out)); rintro e w75 ⟨rfl, hi, hb, hk⟩; refine ⟨_, rfl, ?_⟩; have n0_ := Aside0.mk (Kd.R_mono (Kd.R_keep (IsS100.apart (show IsS100 w0 _ g s0_0 x1001_1 from by repeat (first | (with_reducible first | exact HI0.out | apply IsS100.alloc | apply IsS100.drewN | apply IsS100.drew | apply IsS100.set_1 | refine IsS100.far ?_ NB0_307.out _ | refine IsS100.far ?_ NB0_308.out _) | exact HI0.out)) rHO_309002_ (by decide)) hk (fun _ h => h.2)) (fun _ h => h.1)); have n1_ := Aside0.mk (KeepBut.blk hk (g' := gb307) (o := .cells #[.slice none 0 0, .int .i64 0, .slice none 0 0] 41 (0, 0)) bK307_ NB307_0.out (by simp)); have n2_ := Aside0.mk (KeepBut.blk hk (g' := gb308) (o := .cells #[.slice none 0 0, .int .i64 8, u309002] 41 (0, 0)) bK308_ NB308_0.out (by simp)); have n3_ := Aside0.mk (KeepBut.trans (by repeat (first | (with_reducible first | exact HK.out | apply KeepBut.set_ | apply keep_drewN | apply keep_drew | apply keep_alloc | refine keep_far ?_ GW307.out _ | refine keep_far ?_ GW308.out _) | exact HK.out)) hk (.inl rfl)); have n4_ := Aside0.mk (hb); have n5_ := Aside0.mk (hi); clear HO_309002; clear BK307; clear BK308; clear HK; clear HB; clear HI0; have HO_309002 := n0_; have BK307 := n1_; have BK308 := n2_; have HK := n3_; have HB := n4_; have HI0 := n5_; clear n0_ n1_ n2_ n3_ n4_ n5_; (try clear hb); (try clear hb2); (try clear hk); (try clear hi); have hnb76 := NB308_307.out; have hnc76 := NB307_308.out; have hnb77 := NB308_0.out; have hnc77 := NB0_308.out; obtain ⟨hcz78_0, hcz78_1, hcz78_2, hfz78_0, hfz78_1, hfz78_2⟩ := blkc3_ BK308.out; have hnb79 := NB307_0.out; have hnc79 := NB0_307.out; obtain ⟨hcz80_0, hcz80_1, hcz80_2, hfz80_0, hfz80_1, hfz80_2⟩ := blkc3_ BK307.out; obtain ⟨Ao81, co81, eo81⟩ := Kd.R_slice HO_309002.out; subst eo81))
     refine bodyPost_ret (results_cell_row rfl _ _ gb307 41 #[.slice none 0 0, .int .i64 8, .slice Ao81 x309002_1.length co81] (0, 0) _ rfl (by (with_reducible repeat (first | refine blk_drewN ?_ _ | refine blk_drew ?_ | refine blk_alloc ?_ _)); refine blk_put (cs := #[.slice none 0 0, .int .i64 8, .slice none 0 0]) ?_ 2 _ rfl; (with_reducible repeat (first | refine blk_drewN ?_ _ | refine blk_drew ?_ | refine blk_alloc ?_ _)); refine blk_put (cs := #[.slice none 0 0, .int .i64 0, .slice none 0 0]) ?_ 1 _ rfl; (with_reducible repeat (first | refine blk_drewN ?_ _ | refine blk_drew ?_ | refine blk_alloc ?_ _)); refine blk_put (cs := #[.slice none 0 0, .int .i64 0, .slice none 0 0]) ?_ 0 _ rfl; (with_reducible repeat (first | refine blk_drewN ?_ _ | refine blk_drew ?_ | refine blk_alloc ?_ _)); exact BK307.out) Try.underlying41 rfl (by kernel_rfl)) rfl ?_
     exact ⟨_, _, rG_, by first | exact Kd.R_nil _ _ _ _ _ | exact Kd.N_nil _ _ _ _ _ | exact Kd.V_nil _ _ _ _ _ | exact Kd.Q_nil _ _ _ _ _ | exact Kd.S_nil _ _ _ _ _, by (with_reducible repeat (first | apply Kd.R_alloc | apply Kd.R_drewN | apply Kd.R_drew)); exact Kd.R_mono (Kd.R_far (p := ⟨gb307, 2, none⟩) (Kd.R_far (p := ⟨gb307, 1, none⟩) (Kd.R_far (p := ⟨gb307, 0, none⟩) (Kd.R_types HO_309002.out BK307.out (by decide)) (fun _ hk => hk.2) (.slice none 0 0)) (fun _ hk => hk.2) (.int .i64 8)) (fun _ hk => hk.2) (.slice Ao81 x309002_1.length co81)) (fun _ hk => (by simp [Value.ownBlock])), by repeat (first | (with_reducible first | exact HI0.out | apply IsS100.alloc | apply IsS100.drewN | apply IsS100.drew | apply IsS100.set_1 | refine IsS100.far ?_ NB0_307.out _ | refine IsS100.far ?_ NB0_308.out _) | exact HI0.out), by repeat (first | (with_reducible first | exact HB.out | apply below_alloc | apply pw_below_drewN | apply below_drew1 | refine below_set ?_ (IsS100.ge HI0.out) | refine below_set ?_ GE307.out | refine below_set ?_ GE308.out) | exact HB.out), by repeat (first | (with_reducible first | exact HK.out | apply KeepBut.set_ | apply keep_drewN | apply keep_drew | apply keep_alloc | refine keep_far ?_ GW307.out _ | refine keep_far ?_ GW308.out _) | exact HK.out)⟩
/-! ### spec_DrawReached: function 75 -/
def spec_DrawReached.f (k : Nat) (l0 : List Int) : Option (List Int × Int × (List (S88))) := (spec_l1Open.f l0).bind fun bt578 => ((spec_l1Rd_graph.f k bt578.1 bt578.2).bind fun bt581 => (some (bt581.1, bt581.2.1, bt581.2.2.1)))
theorem spec_DrawReached.mono : ∀ a0 k, LeO (spec_DrawReached.f k a0) (spec_DrawReached.f (k + 1) a0) := by
 intro a0 k
 unfold spec_DrawReached.f
 repeat' first
   | (with_reducible exact spec_l1Rd_graph.mono _ _ _)
   | (with_reducible exact LeO.refl _)
   | (with_reducible exact LeO.none _)
   | (with_reducible refine LeO.ite ?_ ?_)
   | (with_reducible refine LeO.bind ?_ (fun _ => ?_))
   | exact spec_l1Rd_graph.mono _ _ _
   | exact LeO.none _
   | refine LeO.ite ?_ ?_
   | refine LeO.bind ?_ (fun _ => ?_)
set_option maxHeartbeats 8000000 in
set_option maxRecDepth 100000 in
theorem spec_DrawReached.calls (k : Nat) (A0 : Option Addr) (c0 : Nat) (l0 : List Int) (r1 : List Int) (r2 : Int) (r3 : List (S88)) (w : World) (hr0 : Kd.C (Kd.int .u8) w A0 l0.length l0) (hc0 : l0.length ≤ c0) (h : spec_DrawReached.f k l0 = some (r1, r2, r3)) :
  Calls Try.prog 75 #[.slice A0 l0.length c0] w fun e w' => ∃ v0_ v2_ : Value, e = .returned (.agg #[v0_, .int .i64 r2, v2_]) ∧ Kd.R (Kd.int .i64) 2 w' w.heap.size (fun _ => True) v0_ r1 ∧ Kd.R k88 88 w' w.heap.size (fun k_ => some k_ ≠ (v0_ : Value).ownBlock) v2_ r3 ∧ Below w.heap.size w w' := by
 have hu41 := Try.underlying41
 have HR0 := Aside0.mk hr0
 have HC0 := Aside0.mk hc0
 clear hr0 hc0
 have HB := Aside0.mk (Below.refl w.heap.size w)
 have H : ((spec_l1Open.f l0).bind fun bt578 => ((spec_l1Rd_graph.f k bt578.1 bt578.2).bind fun bt581 => (some (bt581.1, bt581.2.1, bt581.2.2.1)))) = some (r1, r2, r3) := h
 clear h
 replace H := Option.bind_eq_some_iff.mp H
 obtain ⟨⟨t578, t579⟩, A20, H⟩ := H
 replace H : ((spec_l1Rd_graph.f k t578 t579).bind fun bt581 => (some (bt581.1, bt581.2.1, bt581.2.2.1))) = some (r1, r2, r3) := H
 have A2 := Aside0.mk A20
 clear A20
 replace H := Option.bind_eq_some_iff.mp H
 obtain ⟨⟨t581, t584, t585, t588⟩, A30, H⟩ := H
 replace H : (some (t581, t584, t585)) = some (r1, r2, r3) := H
 have A3 := Aside0.mk A30
 clear A30
 simp only [Option.some.injEq, Prod.mk.injEq] at H
 obtain ⟨rfl, rfl, rfl⟩ := H
 go_enter Try.func75, Try.ntmps75
 go_wp2_with (first | ((with_reducible refine gate_dst (N := 2) rfl ?_); refine box_event ?hg (N := 2) ?hd (cs := #[.slice none 0 0, .int .i64 0, .slice none 0 0]) (t := 41) ?hr ?_; (case hd => rfl); (case hg => rfl); (case hr => first | (go_simp; done) | (go_simp; rfl)); intro gb577 hg w4 hbox hb; have n0_ := Aside0.mk (below_step hB_ hb); have n1_ := Aside0.mk (hbox); have n2_ := Aside0.mk ((sz_ hg (below_size hB_) : w.heap.size ≤ gb577)); have n3_ := Aside0.mk ((sz_ hg (below_size hB_) : w.heap.size ≤ gb577)); clear HB; have HB := n0_; have BK577 := n1_; have GW577 := n2_; have GE577 := n3_; clear n0_ n1_ n2_ n3_; clear hb hbox hg) | ((with_reducible refine gate_callee (f := 66) rfl ?_); refine gL_ (some 5) Try.func66 #[.slice A0 l0.length c0] ?_; (with_reducible refine (spec_l1Open.calls _ _ l0 t578 t579 w _ ?side1 ?side2 ?side3 A2.out).mono ?_); (case side1 => repeat (first | (with_reducible first | exact HB.out | apply below_alloc | apply pw_below_drewN | apply below_drew1 | refine below_set ?_ GE577.out) | exact HB.out)); (case side2 => exact HR0.out); (case side3 => exact HC0.out); rintro e w5 ⟨g580, rfl, hi, hb, hb2⟩; refine ⟨_, rfl, ?_⟩; have n0_ := Aside0.mk (blk_below (g := gb577) (o := .cells #[.slice none 0 0, .int .i64 0, .slice none 0 0] 41 (0, 0)) bK577_ hb2); have n1_ := Aside0.mk (hb); have n2_ := Aside0.mk (hi); have n3_ := Aside0.mk (IsS100.ne_blk hi (blk_below (g := gb577) (o := .cells #[.slice none 0 0, .int .i64 0, .slice none 0 0] 41 (0, 0)) bK577_ hb2) (by decide)); have n4_ := Aside0.mk (Ne.symm (IsS100.ne_blk hi (blk_below (g := gb577) (o := .cells #[.slice none 0 0, .int .i64 0, .slice none 0 0] 41 (0, 0)) bK577_ hb2) (by decide))); clear BK577; clear HB; have BK577 := n0_; have HB := n1_; have HI580 := n2_; have NB580_577 := n3_; have NB577_580 := n4_; clear n0_ n1_ n2_ n3_ n4_; (try clear hb); (try clear hb2); (try clear hk); (try clear hi)) | ((with_reducible refine gate_callee (f := 67) rfl ?_); refine gL_ (some 7) Try.func67 #[.pointer (some ⟨g580, 0, none⟩)] ?_; (with_reducible refine (spec_l1Rd_graph.calls k g580 t578 t579 t581 t584 t585 t588 w _ ?side1 ?side2 A3.out).mono ?_); (case side1 => repeat (first | (with_reducible first | exact HI580.out | apply IsS100.alloc | apply IsS100.drewN | apply IsS100.drew | apply IsS100.set_1 | refine IsS100.far ?_ NB580_577.out _) | exact HI580.out)); (case side2 => repeat (first | (with_reducible first | exact HB.out | apply below_alloc | apply pw_below_drewN | apply below_drew1 | refine below_set ?_ (IsS100.ge HI580.out) | refine below_set ?_ GE577.out) | exact HB.out)); rintro e w6 ⟨v582, v586, rfl, ho0, ho1, hi, hb, hk⟩; refine ⟨_, rfl, ?_⟩; have n0_ := Aside0.mk (KeepBut.blk hk (g' := gb577) (o := .cells #[.slice none 0 0, .int .i64 0, .slice none 0 0] 41 (0, 0)) bK577_ NB577_580.out (by simp)); have n1_ := Aside0.mk (Kd.R_lower ho0 (below_size (by repeat (first | (with_reducible first | exact HB.out | apply below_alloc | apply pw_below_drewN | apply below_drew1 | refine below_set ?_ (IsS100.ge HI580.out) | refine below_set ?_ GE577.out) | exact HB.out)))); have n2_ := Aside0.mk (Kd.R_lower ho1 (below_size (by repeat (first | (with_reducible first | exact HB.out | apply below_alloc | apply pw_below_drewN | apply below_drew1 | refine below_set ?_ (IsS100.ge HI580.out) | refine below_set ?_ GE577.out) | exact HB.out)))); have n3_ := Aside0.mk (hb); have n4_ := Aside0.mk (hi); clear BK577; clear HB; clear HI580; have BK577 := n0_; have HO583 := n1_; have HO587 := n2_; have HB := n3_; have HI580 := n4_; clear n0_ n1_ n2_ n3_ n4_; (try clear hb); (try clear hb2); (try clear hk); (try clear hi); (try clear ho0); (try clear ho1); obtain ⟨Ao7, co7, eo7⟩ := Kd.R_slice HO583.out; subst eo7; have hnb8 := NB577_580.out; have hnc8 := NB580_577.out; obtain ⟨hcz9_0, hcz9_1, hcz9_2, hfz9_0, hfz9_1, hfz9_2⟩ := blkc3_ BK577.out; obtain ⟨Ao10, co10, eo10⟩ := Kd.R_slice HO587.out; subst eo10))
 refine bodyPost_ret (results_cell_row rfl _ _ gb577 41 #[.slice Ao7 t581.length co7, .int .i64 t584, .slice Ao10 t585.length co10] (0, 0) _ rfl (by (with_reducible repeat (first | refine blk_drewN ?_ _ | refine blk_drew ?_ | refine blk_alloc ?_ _)); refine blk_put (cs := #[.slice Ao7 t581.length co7, .int .i64 t584, .slice none 0 0]) ?_ 2 _ rfl; (with_reducible repeat (first | refine blk_drewN ?_ _ | refine blk_drew ?_ | refine blk_alloc ?_ _)); refine blk_put (cs := #[.slice Ao7 t581.length co7, .int .i64 0, .slice none 0 0]) ?_ 1 _ rfl; (with_reducible repeat (first | refine blk_drewN ?_ _ | refine blk_drew ?_ | refine blk_alloc ?_ _)); refine blk_put (cs := #[.slice none 0 0, .int .i64 0, .slice none 0 0]) ?_ 0 _ rfl; (with_reducible repeat (first | refine blk_drewN ?_ _ | refine blk_drew ?_ | refine blk_alloc ?_ _)); exact BK577.out) Try.underlying41 rfl (by kernel_rfl)) rfl ?_
 exact ⟨_, _, rG_, by (with_reducible repeat (first | apply Kd.R_alloc | apply Kd.R_drewN | apply Kd.R_drew)); exact Kd.R_mono (Kd.R_far (p := ⟨gb577, 2, none⟩) (Kd.R_far (p := ⟨gb577, 1, none⟩) (Kd.R_far (p := ⟨gb577, 0, none⟩) (Kd.R_types HO583.out BK577.out (by decide)) (fun _ hk => hk.2) (.slice Ao7 t581.length co7)) (fun _ hk => hk.2) (.int .i64 t584)) (fun _ hk => hk.2) (.slice Ao10 t585.length co10)) (fun _ hk => trivial), by (with_reducible repeat (first | apply Kd.R_alloc | apply Kd.R_drewN | apply Kd.R_drew)); exact Kd.R_mono (Kd.R_far (p := ⟨gb577, 2, none⟩) (Kd.R_far (p := ⟨gb577, 1, none⟩) (Kd.R_far (p := ⟨gb577, 0, none⟩) (Kd.R_types HO587.out BK577.out (by decide)) (fun _ hk => hk.2) (.slice Ao7 t581.length co7)) (fun _ hk => hk.2) (.int .i64 t584)) (fun _ hk => hk.2) (.slice Ao10 t585.length co10)) (fun _ hk => hk.1), by repeat (first | (with_reducible first | exact HB.out | apply below_alloc | apply pw_below_drewN | apply below_drew1 | refine below_set ?_ (IsS100.ge HI580.out) | refine below_set ?_ GE577.out) | exact HB.out)⟩
/-! ### spec_DrawOrderOf: function 33 -/
def spec_DrawOrderOf.f (k : Nat) (l0 : List Int) : Option (List Int × Int × (List (S88))) := (spec_DrawReached.f k l0).bind fun bt590 => (some (bt590.1, bt590.2.1, bt590.2.2))
theorem spec_DrawOrderOf.mono : ∀ a0 k, LeO (spec_DrawOrderOf.f k a0) (spec_DrawOrderOf.f (k + 1) a0) := by
 intro a0 k
 unfold spec_DrawOrderOf.f
 repeat' first
   | (with_reducible exact spec_DrawReached.mono _ _)
   | (with_reducible exact LeO.refl _)
   | (with_reducible exact LeO.none _)
   | (with_reducible refine LeO.ite ?_ ?_)
   | (with_reducible refine LeO.bind ?_ (fun _ => ?_))
   | exact spec_DrawReached.mono _ _
   | exact LeO.none _
   | refine LeO.ite ?_ ?_
   | refine LeO.bind ?_ (fun _ => ?_)
set_option maxHeartbeats 8000000 in
set_option maxRecDepth 100000 in
theorem spec_DrawOrderOf.calls (k : Nat) (A0 : Option Addr) (c0 : Nat) (l0 : List Int) (r1 : List Int) (r2 : Int) (r3 : List (S88)) (w : World) (hr0 : Kd.C (Kd.int .u8) w A0 l0.length l0) (hc0 : l0.length ≤ c0) (h : spec_DrawOrderOf.f k l0 = some (r1, r2, r3)) :
  Calls Try.prog 33 #[.slice A0 l0.length c0] w fun e w' => ∃ v0_ v2_ : Value, e = .returned (.agg #[v0_, .int .i64 r2, v2_]) ∧ Kd.R (Kd.int .i64) 2 w' w.heap.size (fun _ => True) v0_ r1 ∧ Kd.R k88 88 w' w.heap.size (fun k_ => some k_ ≠ (v0_ : Value).ownBlock) v2_ r3 ∧ Below w.heap.size w w' := by
 have hu41 := Try.underlying41
 have HR0 := Aside0.mk hr0
 have HC0 := Aside0.mk hc0
 clear hr0 hc0
 have HB := Aside0.mk (Below.refl w.heap.size w)
 have H : ((spec_DrawReached.f k l0).bind fun bt590 => (some (bt590.1, bt590.2.1, bt590.2.2))) = some (r1, r2, r3) := h
 clear h
 replace H := Option.bind_eq_some_iff.mp H
 obtain ⟨⟨t590, t593, t594⟩, A20, H⟩ := H
 replace H : (some (t590, t593, t594)) = some (r1, r2, r3) := H
 have A2 := Aside0.mk A20
 clear A20
 simp only [Option.some.injEq, Prod.mk.injEq] at H
 obtain ⟨rfl, rfl, rfl⟩ := H
 go_enter Try.func33, Try.ntmps33
 go_wp2_with (first | ((with_reducible refine gate_dst (N := 2) rfl ?_); refine box_event ?hg (N := 2) ?hd (cs := #[.slice none 0 0, .int .i64 0, .slice none 0 0]) (t := 41) ?hr ?_; (case hd => rfl); (case hg => rfl); (case hr => first | (go_simp; done) | (go_simp; rfl)); intro gb589 hg w3 hbox hb; have n0_ := Aside0.mk (below_step hB_ hb); have n1_ := Aside0.mk (hbox); have n2_ := Aside0.mk ((sz_ hg (below_size hB_) : w.heap.size ≤ gb589)); have n3_ := Aside0.mk ((sz_ hg (below_size hB_) : w.heap.size ≤ gb589)); clear HB; have HB := n0_; have BK589 := n1_; have GW589 := n2_; have GE589 := n3_; clear n0_ n1_ n2_ n3_; clear hb hbox hg) | ((with_reducible refine gate_callee (f := 75) rfl ?_); refine gL_ (some 4) Try.func75 #[.slice A0 l0.length c0] ?_; (with_reducible refine (spec_DrawReached.calls k _ _ l0 t590 t593 t594 _ ?side1 ?side2 A2.out).mono ?_); (case side1 => exact cHR0_); (case side2 => exact HC0.out); rintro e w4 ⟨v591, v595, rfl, ho0, ho1, hb⟩; refine ⟨_, rfl, ?_⟩; have n0_ := Aside0.mk (Kd.R_lower ho0 (below_size hS_)); have n1_ := Aside0.mk (Kd.R_lower ho1 (below_size hS_)); have n2_ := Aside0.mk (blk_below (g := gb589) (o := .cells #[.slice none 0 0, .int .i64 0, .slice none 0 0] 41 (0, 0)) bK589_ hb); have n3_ := Aside0.mk (below_step hS_ hb); clear BK589; clear HB; have HO592 := n0_; have HO596 := n1_; have BK589 := n2_; have HB := n3_; clear n0_ n1_ n2_ n3_; (try clear hb); (try clear hb2); (try clear hk); (try clear hi); (try clear ho0); (try clear ho1); obtain ⟨Ao5, co5, eo5⟩ := Kd.R_slice HO592.out; subst eo5; obtain ⟨hcz6_0, hcz6_1, hcz6_2, hfz6_0, hfz6_1, hfz6_2⟩ := blkc3_ BK589.out; obtain ⟨Ao7, co7, eo7⟩ := Kd.R_slice HO596.out; subst eo7))
 refine bodyPost_ret (results_cell_row rfl _ _ gb589 41 #[.slice Ao5 t590.length co5, .int .i64 t593, .slice Ao7 t594.length co7] (0, 0) _ rfl (by (with_reducible repeat (first | refine blk_drewN ?_ _ | refine blk_drew ?_ | refine blk_alloc ?_ _)); refine blk_put (cs := #[.slice Ao5 t590.length co5, .int .i64 t593, .slice none 0 0]) ?_ 2 _ rfl; (with_reducible repeat (first | refine blk_drewN ?_ _ | refine blk_drew ?_ | refine blk_alloc ?_ _)); refine blk_put (cs := #[.slice Ao5 t590.length co5, .int .i64 0, .slice none 0 0]) ?_ 1 _ rfl; (with_reducible repeat (first | refine blk_drewN ?_ _ | refine blk_drew ?_ | refine blk_alloc ?_ _)); refine blk_put (cs := #[.slice none 0 0, .int .i64 0, .slice none 0 0]) ?_ 0 _ rfl; (with_reducible repeat (first | refine blk_drewN ?_ _ | refine blk_drew ?_ | refine blk_alloc ?_ _)); exact BK589.out) Try.underlying41 rfl (by kernel_rfl)) rfl ?_
 exact ⟨_, _, rG_, by (with_reducible repeat (first | apply Kd.R_alloc | apply Kd.R_drewN | apply Kd.R_drew)); exact Kd.R_mono (Kd.R_far (p := ⟨gb589, 2, none⟩) (Kd.R_far (p := ⟨gb589, 1, none⟩) (Kd.R_far (p := ⟨gb589, 0, none⟩) (Kd.R_types HO592.out BK589.out (by decide)) (fun _ hk => hk.2) (.slice Ao5 t590.length co5)) (fun _ hk => hk.2) (.int .i64 t593)) (fun _ hk => hk.2) (.slice Ao7 t594.length co7)) (fun _ hk => trivial), by (with_reducible repeat (first | apply Kd.R_alloc | apply Kd.R_drewN | apply Kd.R_drew)); exact Kd.R_mono (Kd.R_far (p := ⟨gb589, 2, none⟩) (Kd.R_far (p := ⟨gb589, 1, none⟩) (Kd.R_far (p := ⟨gb589, 0, none⟩) (Kd.R_types HO596.out BK589.out (by decide)) (fun _ hk => hk.2) (.slice Ao5 t590.length co5)) (fun _ hk => hk.2) (.int .i64 t593)) (fun _ hk => hk.2) (.slice Ao7 t594.length co7)) (fun _ hk => hk.1), hS_⟩
/-! ### impl_after: function 76 -/
mutual
def impl_after.l0 : Nat → Int → List Bool → List Int → List Int → Int → Int → List Int → Int → List (S88) → Option (List Int × List Bool)
 | 0, _, _, _, _, _, _, _, _, _ => none
 | k + 1, x1, x2, x3, x25, x26, x27, x598000, x598001, x598002 => if x27 < x26 then (if 0 ≤ x27 then (if x27 < (x25.length : Int) then ((impl_after.f k x598000 x598001 x598002 (rd x25 x27) x2 x3).bind fun bt605 => (impl_after.l0 k x1 bt605.2 bt605.1 x25 x26 (wrap64 (x27 + 1)) x598000 x598001 x598002)) else (none)) else (none)) else (if x3.length < 17592186044416 then (some ((x3 ++ [x1]), x2)) else (none))
def impl_after.f : Nat → List Int → Int → List (S88) → Int → List Bool → List Int → Option (List Int × List Bool)
 | 0, _, _, _, _, _, _ => none
 | k + 1, l0_0, a0_1, l0_2, a1, l2, l3 => if 0 ≤ a1 then (if a1 < (l2.length : Int) then (if rdOf false l2 a1 = true then (some (l3, l2)) else (if a1 < (l0_2.length : Int) then ((impl_leadsTo.f ((rd_T88 l0_2 a1).f2.f0) ((rd_T88 l0_2 a1).f2.f1) ((rd_T88 l0_2 a1).f2.f2) ((rd_T88 l0_2 a1).f2.f3)).bind fun t601 => (impl_after.l0 k a1 (l2.set (a1 : Int).toNat true) l3 t601 (t601.length : Int) 0 l0_0 a0_1 l0_2)) else (none))) else (none)) else (none)
end
theorem impl_after.mono_l : ∀ k, (∀ y0 y1 y2 y3 y4 y5, LeO (impl_after.f k y0 y1 y2 y3 y4 y5) (impl_after.f (k + 1) y0 y1 y2 y3 y4 y5)) ∧ (∀ y0 y1 y2 y3 y4 y5 y6 y7 y8, LeO (impl_after.l0 k y0 y1 y2 y3 y4 y5 y6 y7 y8) (impl_after.l0 (k + 1) y0 y1 y2 y3 y4 y5 y6 y7 y8))
 | 0 => ⟨fun _ _ _ _ _ _ r h => by simp [impl_after.f] at h, fun _ _ _ _ _ _ _ _ _ r h => by simp [impl_after.l0] at h⟩
 | k + 1 => by
  obtain ⟨ih0, ih1⟩ := impl_after.mono_l k
  refine ⟨?_, ?_⟩
  ·intro y0 y1 y2 y3 y4 y5
   unfold impl_after.f
   repeat' first
   | (with_reducible exact ih0 _ _ _ _ _ _)
   | (with_reducible exact ih1 _ _ _ _ _ _ _ _ _)
   | (with_reducible exact LeO.refl _)
   | (with_reducible exact LeO.none _)
   | (with_reducible refine LeO.ite ?_ ?_)
   | (with_reducible refine LeO.bind ?_ (fun _ => ?_))
   | exact ih0 _ _ _ _ _ _
   | exact ih1 _ _ _ _ _ _ _ _ _
   | exact LeO.none _
   | refine LeO.ite ?_ ?_
   | refine LeO.bind ?_ (fun _ => ?_)
  ·intro y0 y1 y2 y3 y4 y5 y6 y7 y8
   unfold impl_after.l0
   repeat' first
   | (with_reducible exact ih0 _ _ _ _ _ _)
   | (with_reducible exact ih1 _ _ _ _ _ _ _ _ _)
   | (with_reducible exact LeO.refl _)
   | (with_reducible exact LeO.none _)
   | (with_reducible refine LeO.ite ?_ ?_)
   | (with_reducible refine LeO.bind ?_ (fun _ => ?_))
   | exact ih0 _ _ _ _ _ _
   | exact ih1 _ _ _ _ _ _ _ _ _
   | exact LeO.none _
   | refine LeO.ite ?_ ?_
   | refine LeO.bind ?_ (fun _ => ?_)
theorem impl_after.mono : ∀ a0 a1 a2 a3 a4 a5 k, LeO (impl_after.f k a0 a1 a2 a3 a4 a5) (impl_after.f (k + 1) a0 a1 a2 a3 a4 a5) := by
 intro a0 a1 a2 a3 a4 a5 k
 obtain ⟨ih0, ih1⟩ := impl_after.mono_l k
 exact ih0 a0 a1 a2 a3 a4 a5
set_option maxHeartbeats 8000000 in
set_option maxRecDepth 100000 in
theorem impl_after.calls (k : Nat) : ∀ (A0_0 : Option Addr) (c0_0 : Nat) (l0_0 : List Int) (a0_1 : Int) (A0_2 : Option Addr) (c0_2 : Nat) (l0_2 : List (S88)) (a1 : Int) (P2_ : Nat → Prop) (u9000_ : Value) (l2 : List Bool) (P3_ : Nat → Prop) (u9001_ : Value) (l3 : List Int) (r1 : List Int) (r2 : List Bool) (w0 w : World) (hB : Below w0.heap.size w0 w) (hr0_0 : ∀ W_, Kept w W_ (fun k_ => P2_ k_ ∨ P3_ k_) → Kd.C (Kd.int .i64) W_ A0_0 l0_0.length l0_0) (hc0_0 : l0_0.length ≤ c0_0) (hr0_2 : ∀ W_, Kept w W_ (fun k_ => P2_ k_ ∨ P3_ k_) → Kd.C k88 W_ A0_2 l0_2.length l0_2) (hc0_2 : l0_2.length ≤ c0_2) (ho2 : Kd.R Kd.bool 4 w w0.heap.size P2_ u9000_ l2) (ho3 : Kd.R (Kd.int .i64) 2 w w0.heap.size P3_ u9001_ l3) (h : impl_after.f k l0_0 a0_1 l0_2 a1 l2 l3 = some (r1, r2)),
  Calls Try.prog 76 #[.agg #[.slice A0_0 l0_0.length c0_0, .int .i64 a0_1, .slice A0_2 l0_2.length c0_2], .int .i64 a1, u9000_, u9001_] w fun e w' => ∃ v0_ : Value, e = .returned (v0_) ∧ Kd.R (Kd.int .i64) 2 w' w0.heap.size (fun k_ => ((P2_ k_ ∨ P3_ k_) ∨ w.heap.size ≤ k_)) v0_ r1 ∧ Kd.R Kd.bool 4 w' w0.heap.size (fun k_ => ((P2_ k_ ∨ P3_ k_) ∨ w.heap.size ≤ k_)) u9000_ r2 ∧ Below w0.heap.size w0 w' ∧ Kept w w' (fun k_ => P2_ k_ ∨ P3_ k_) := by
 induction k using Nat.strongRecOn with
 | _ k ih =>
 intro A0_0 c0_0 l0_0 a0_1 A0_2 c0_2 l0_2 a1 P2_ u9000_ l2 P3_ u9001_ l3 r1 r2 w0 w hB hr0_0 hc0_0 hr0_2 hc0_2 ho2 ho3 h
 cases k with
 | zero => exact absurd h (by simp [impl_after.f])
 | succ k =>
 simp only [impl_after.f] at h
 have hu41 := Try.underlying41
 have hu86 := Try.underlying86
 have HR0_0 := Aside0.mk hr0_0
 have HC0_0 := Aside0.mk hc0_0
 clear hr0_0 hc0_0
 have HR0_2 := Aside0.mk hr0_2
 have HC0_2 := Aside0.mk hc0_2
 clear hr0_2 hc0_2
 have HO2 := Aside0.mk (show Kd.R Kd.bool 4 w w0.heap.size (fun k_ => ((P2_ k_ ∨ P3_ k_) ∨ w.heap.size ≤ k_)) u9000_ l2 from Kd.R_mono ho2 (fun k_ hk => (.inl (.inl hk))))
 have HO3 := Aside0.mk (show Kd.R (Kd.int .i64) 2 w w0.heap.size (fun k_ => ((P2_ k_ ∨ P3_ k_) ∨ w.heap.size ≤ k_)) u9001_ l3 from Kd.R_mono ho3 (fun k_ hk => (.inl (.inr hk))))
 have HK := Aside0.mk (Kept.refl w (fun k_ => P2_ k_ ∨ P3_ k_))
 have HW0 := Aside0.mk hB.size
 have HB := Aside0.mk hB
 clear hB
 have H : (if 0 ≤ a1 then (if a1 < (l2.length : Int) then (if rdOf false l2 a1 = true then (some (l3, l2)) else (if a1 < (l0_2.length : Int) then ((impl_leadsTo.f ((rd_T88 l0_2 a1).f2.f0) ((rd_T88 l0_2 a1).f2.f1) ((rd_T88 l0_2 a1).f2.f2) ((rd_T88 l0_2 a1).f2.f3)).bind fun t601 => (impl_after.l0 k a1 (l2.set (a1 : Int).toNat true) l3 t601 (t601.length : Int) 0 l0_0 a0_1 l0_2)) else (none))) else (none)) else (none)) = some (r1, r2) := h
 clear h
 by_cases c5 : 0 ≤ a1
 ·rw [if_pos c5] at H
  have c5b0 : decide (0 ≤ a1) = true := decide_eq_true c5
  clear c5
  by_cases c6 : a1 < (l2.length : Int)
  ·rw [if_pos c6] at H
   have c6b0 : decide (a1 < (l2.length : Int)) = true := decide_eq_true c6
   clear c6
   obtain ⟨bq7, hbq7⟩ : ∃ b_ : Bool, b_ = (rdOf false l2 a1) := ⟨_, rfl⟩
   replace H : (if bq7 = true then (some (l3, l2)) else (if a1 < (l0_2.length : Int) then ((impl_leadsTo.f ((rd_T88 l0_2 a1).f2.f0) ((rd_T88 l0_2 a1).f2.f1) ((rd_T88 l0_2 a1).f2.f2) ((rd_T88 l0_2 a1).f2.f3)).bind fun t601 => (impl_after.l0 k a1 (l2.set (a1 : Int).toNat true) l3 t601 (t601.length : Int) 0 l0_0 a0_1 l0_2)) else (none))) = some (r1, r2) := by rw [← hbq7] at H; exact H
   have Nbq7 := Aside0.mk hbq7
   clear hbq7
   by_cases c8 : bq7 = true
   ·subst c8
    have H1 := (if_pos rfl).symm.trans H
    clear H
    have H := H1
    clear H1
    simp only [Option.some.injEq, Prod.mk.injEq] at H
    obtain ⟨rfl, rfl⟩ := H
    go_enter Try.func76, Try.ntmps76
    go_wp2_with (first | ((with_reducible refine gate_dst (N := 4) rfl ?_); refine box_event ?hg (N := 4) ?hd (cs := #[.slice A0_0 l0_0.length c0_0, .int .i64 a0_1, .slice A0_2 l0_2.length c0_2]) (t := 41) ?hr ?_; (case hd => rfl); (case hg => rfl); (case hr => first | (go_simp; done) | (go_simp; rfl)); intro gb597 hg w9 hbox hb; have n0_ := Aside0.mk (Kd.R_below rHO2_ hb); have n1_ := Aside0.mk (Kd.R_below rHO3_ hb); have n2_ := Aside0.mk (Kept.below (S := (fun k_ => P2_ k_ ∨ P3_ k_)) (by repeat (first | (with_reducible first | exact HK.out | apply Kept.alloc | apply Kept.drewN | apply Kept.drew) | exact HK.out)) hb); have n3_ := Aside0.mk (below_step hB_ hb); have n4_ := Aside0.mk (hbox); have n5_ := Aside0.mk ((by rw [hg]; exact (by first | exact HK.out.1 | exact (show Kept w _ (fun k_ => P2_ k_ ∨ P3_ k_) from by repeat (first | (with_reducible first | exact HK.out | apply Kept.alloc | apply Kept.drewN | apply Kept.drew) | exact HK.out)).1) : w.heap.size ≤ gb597)); have n6_ := Aside0.mk ((by rw [hg]; exact (below_size hB_) : w0.heap.size ≤ gb597)); clear HO2; clear HO3; clear HK; clear HB; have HO2 := n0_; have HO3 := n1_; have HK := n2_; have HB := n3_; have BK597 := n4_; have GW597 := n5_; have GE597 := n6_; clear n0_ n1_ n2_ n3_ n4_ n5_ n6_; clear hb hbox hg; obtain ⟨Ao10, co10, eo10⟩ := Kd.R_slice HO2.out; subst eo10; have p598 : 0 ≤ (a1 : Int) := oD_; have q598 : a1 < (l2.length : Int) := oD_; obtain ⟨ad598, e598, hx598_0⟩ := Kd.at_bool (Kd.R_reads' HO2.out).2.2 a1 p598 q598; (try rw [← Nbq7.out] at hx598_0); cases e598; replace p598 := eq_true p598; replace q598 := eq_true q598))
    go_ret
    exact ⟨_, rG_, rHO3_, rHO2_, hS_, by repeat (first | (with_reducible first | exact HK.out | apply Kept.alloc | apply Kept.drewN | apply Kept.drew | refine Kept.setCell ?_ (.inr GW597.out) _) | exact HK.out)⟩
   ·replace c8 := Bool.eq_false_iff.mpr c8
    subst c8
    have H1 := (if_neg (show ¬ (false = true) by decide)).symm.trans H
    clear H
    have H := H1
    clear H1
    obtain ⟨y599, hy599⟩ : ∃ y_ : List Bool, y_ = (l2.set (a1 : Int).toNat true) := ⟨_, rfl⟩
    replace H : (if a1 < (l0_2.length : Int) then ((impl_leadsTo.f ((rd_T88 l0_2 a1).f2.f0) ((rd_T88 l0_2 a1).f2.f1) ((rd_T88 l0_2 a1).f2.f2) ((rd_T88 l0_2 a1).f2.f3)).bind fun t601 => (impl_after.l0 k a1 y599 l3 t601 (t601.length : Int) 0 l0_0 a0_1 l0_2)) else (none)) = some (r1, r2) := by first | (rw [hy599]; with_reducible exact H) | (have H2_ := (Option.bind_some _ _).symm.trans H; rw [hy599]; with_reducible exact H2_) | (have H2_ := (Option.bind_some _ _).symm.trans H; with_reducible exact H2_) | with_reducible exact H | (rw [hy599]; exact H) | exact H
    have Ny599 := Aside0.mk hy599
    clear hy599
    by_cases c12 : a1 < (l0_2.length : Int)
    ·rw [if_pos c12] at H
     have c12b0 : decide (a1 < (l0_2.length : Int)) = true := decide_eq_true c12
     clear c12
     replace H := Option.bind_eq_some_iff.mp H
     obtain ⟨t601, A130, H⟩ := H
     replace H : (impl_after.l0 k a1 y599 l3 t601 (t601.length : Int) 0 l0_0 a0_1 l0_2) = some (r1, r2) := H
     have A13 := Aside0.mk A130
     clear A130
     have H' := Aside0.mk H
     clear H
     go_enter Try.func76, Try.ntmps76
     go_wp2_with (first | ((with_reducible refine gate_dst (N := 4) rfl ?_); refine box_event ?hg (N := 4) ?hd (cs := #[.slice A0_0 l0_0.length c0_0, .int .i64 a0_1, .slice A0_2 l0_2.length c0_2]) (t := 41) ?hr ?_; (case hd => rfl); (case hg => rfl); (case hr => first | (go_simp; done) | (go_simp; rfl)); intro gb597 hg w14 hbox hb; have n0_ := Aside0.mk (Kd.R_below rHO2_ hb); have n1_ := Aside0.mk (Kd.R_below rHO3_ hb); have n2_ := Aside0.mk (Kept.below (S := (fun k_ => P2_ k_ ∨ P3_ k_)) (by repeat (first | (with_reducible first | exact HK.out | apply Kept.alloc | apply Kept.drewN | apply Kept.drew) | exact HK.out)) hb); have n3_ := Aside0.mk (below_step hB_ hb); have n4_ := Aside0.mk (hbox); have n5_ := Aside0.mk ((by rw [hg]; exact (by first | exact HK.out.1 | exact (show Kept w _ (fun k_ => P2_ k_ ∨ P3_ k_) from by repeat (first | (with_reducible first | exact HK.out | apply Kept.alloc | apply Kept.drewN | apply Kept.drew) | exact HK.out)).1) : w.heap.size ≤ gb597)); have n6_ := Aside0.mk ((by rw [hg]; exact (below_size hB_) : w0.heap.size ≤ gb597)); clear HO2; clear HO3; clear HK; clear HB; have HO2 := n0_; have HO3 := n1_; have HK := n2_; have HB := n3_; have BK597 := n4_; have GW597 := n5_; have GE597 := n6_; clear n0_ n1_ n2_ n3_ n4_ n5_ n6_; clear hb hbox hg; obtain ⟨Ao15, co15, eo15⟩ := Kd.R_slice HO2.out; subst eo15; have p598 : 0 ≤ (a1 : Int) := oD_; have q598 : a1 < (l2.length : Int) := oD_; obtain ⟨ad598, e598, hx598_0⟩ := Kd.at_bool (Kd.R_reads' HO2.out).2.2 a1 p598 q598; (try rw [← Nbq7.out] at hx598_0); cases e598; replace p598 := eq_true p598; replace q598 := eq_true q598; have p11 : 0 ≤ (a1 : Int) := oD_; have q11 : (a1 : Int) < ((l2.length : Int) : Int) := oD_; obtain ⟨go11, co11, eo11, gb11, gl11, cl11, HG11⟩ := Kd.R_form HO2.out (by omega); (first | cases eo11 | (injection eo11 with ea_ en_ ec_; (first | subst ea_ | (injection ea_ with ea_; subst ea_)); subst ec_; clear en_)); have GB11 := Aside0.mk gb11; have GG11 := Aside0.mk HG11; clear gb11 gl11 HG11; have HMgo11 := Aside0.mk (show ((P2_ go11 ∨ P3_ go11) ∨ w.heap.size ≤ go11) from (HO2.out.1 _ rfl)); (first | simp only [add_plain] at hx598_0 | skip); obtain ⟨hx11_0, hf11_0⟩ := Kd.R_celln false HO2.out (a1 : Int) p11 q11; replace p11 := eq_true p11; replace q11 := eq_true q11; obtain ⟨hy16_, hz16_⟩ := Kd.R_celln false HO2.out (a1 : Int) (oD_) (oD_); have HP16 := Kd.R_putg HO2.out (a1 : Int) true) | ((with_reducible refine gate_store (t := 4) (p := 18) rfl ?_); refine store_event (t := 4) (p := 18) (v := ?vo_w17) (w1 := (w14.setCell ⟨go11, (a1 : Int).toNat, none⟩ (.bool true))) ?hg ?ho ?hn ?hr ?_; (case ho => rfl); (case hg => rfl); (case hn => rfl); (case hr => first | (go_simp; done) | (go_simp; rfl)); intro w17 hw; have hg : w14.grownBy w17 (some go11) := (by rw [hw]; exact HP16.2); have hp_ : Kd.R Kd.bool 4 w17 w0.heap.size (fun k_ => ((P2_ k_ ∨ P3_ k_) ∨ w.heap.size ≤ k_)) (.slice (some ⟨go11, 0, none⟩) l2.length co15) y599 := (by rw [hw, Ny599.out]; exact HP16.1); clear HP16; have n0_ := Aside0.mk (hp_); have n1_ := Aside0.mk (Kd.R_over' (v := (.slice (some ⟨go11, 0, none⟩) l2.length co15)) rHO3_ (Kd.R_typed HO2.out) (by decide) hg); have n2_ := Aside0.mk (blk_grown (g := gb597) (o := .cells #[.slice A0_0 l0_0.length c0_0, .int .i64 a0_1, .slice A0_2 l0_2.length c0_2] 41 (0, 0)) bK597_ hg (Kd.R_ne HO2.out BK597.out (by decide))); have n3_ := Aside0.mk ((by rw [hw]; exact below_set (HB.out) GB11.out : Below w0.heap.size w0 w17)); have n4_ := Aside0.mk (Kept.of_grown (S := (fun k_ => P2_ k_ ∨ P3_ k_)) hg (by repeat (first | (with_reducible first | exact HK.out | apply Kept.alloc | apply Kept.drewN | apply Kept.drew | refine Kept.setCell ?_ (.inr GW597.out) _) | exact HK.out)) (fun k_ e_ => (HO2.out.1 k_ e_))); clear HO2; clear HO3; clear BK597; clear HB; clear HK; have HO2 := n0_; have HO3 := n1_; have BK597 := n2_; have HB := n3_; have HK := n4_; clear n0_ n1_ n2_ n3_ n4_; clear hg hw hp_; obtain ⟨hcz18_0, hcz18_1, hcz18_2, hfz18_0, hfz18_1, hfz18_2⟩ := blkc3_ BK597.out; have p600 : 0 ≤ (a1 : Int) := oD_; have q600 : a1 < (l0_2.length : Int) := oD_; obtain ⟨ad600, A600_0, c600_0, A600_1, c600_1, e600, hx600_0, hx600_1, hx600_2, hx600_3, hx600_4, hx600_5, hl600_0, hi600_0, hl600_1, hi600_1⟩ := at_T88 (Kd.C_kept_now HR0_2.out HK.out) a1 p600 q600; cases e600; have HR600_0 := Aside0.mk hi600_0; have HC600_0 := Aside0.mk hl600_0; clear hi600_0 hl600_0; have HR600_1 := Aside0.mk hi600_1; have HC600_1 := Aside0.mk hl600_1; clear hi600_1 hl600_1; replace p600 := eq_true p600; replace q600 := eq_true q600) | ((with_reducible refine gate_callee (f := 110) rfl ?_); refine gL_ (some 25) Try.func110 #[.agg #[.int .i64 ((rd_T88 l0_2 a1).f2.f0), .int .i64 ((rd_T88 l0_2 a1).f2.f1), .int .i64 ((rd_T88 l0_2 a1).f2.f2), .int .i64 ((rd_T88 l0_2 a1).f2.f3)]] ?_; (with_reducible refine (impl_leadsTo.calls ((rd_T88 l0_2 a1).f2.f0) ((rd_T88 l0_2 a1).f2.f1) ((rd_T88 l0_2 a1).f2.f2) ((rd_T88 l0_2 a1).f2.f3) t601 _ A13.out).mono ?_); rintro e w19 ⟨v602, rfl, ho0, hb⟩; refine ⟨_, rfl, ?_⟩; have n0_ := Aside0.mk (Kd.R_below rHO2_ hb); have n1_ := Aside0.mk (Kd.R_elder' rHO3_ (Kd.R_base ho0) hb); have n2_ := Aside0.mk (Kd.R_lower (Kd.R_new' (Kd.R_newM (M := fun k_ => ((P2_ k_ ∨ P3_ k_) ∨ w.heap.size ≤ k_)) ho0 (by first | exact HK.out.1 | exact (show Kept w _ (fun k_ => P2_ k_ ∨ P3_ k_) from by repeat (first | (with_reducible first | exact HK.out | apply Kept.alloc | apply Kept.drewN | apply Kept.drew | refine Kept.setCell ?_ (.inr GW597.out) _) | exact HK.out)).1) (fun k_ h_ => .inr h_)) (Kd.R_lt rHO3_)) (below_size hS_)); have n3_ := Aside0.mk (blk_below (g := gb597) (o := .cells #[.slice A0_0 l0_0.length c0_0, .int .i64 a0_1, .slice (some ad600) l0_2.length c0_2] 41 (0, 0)) bK597_ hb); have n4_ := Aside0.mk (Kd.C_below (by repeat (first | (with_reducible exact HR600_0.out) | (with_reducible refine Kd.C_alloc ?_ _) | (with_reducible refine Kd.C_drewN ?_ _) | (with_reducible refine Kd.C_drew ?_) | exact HR600_0.out)) hb); have n5_ := Aside0.mk (Kd.C_below (by repeat (first | (with_reducible exact HR600_1.out) | (with_reducible refine Kd.C_alloc ?_ _) | (with_reducible refine Kd.C_drewN ?_ _) | (with_reducible refine Kd.C_drew ?_) | exact HR600_1.out)) hb); have n6_ := Aside0.mk (Kept.below (S := (fun k_ => P2_ k_ ∨ P3_ k_)) (by repeat (first | (with_reducible first | exact HK.out | apply Kept.alloc | apply Kept.drewN | apply Kept.drew | refine Kept.setCell ?_ (.inr GW597.out) _) | exact HK.out)) hb); have n7_ := Aside0.mk (below_step hS_ hb); clear HO2; clear HO3; clear BK597; clear HR600_0; clear HR600_1; clear HK; clear HB; have HO2 := n0_; have HO3 := n1_; have HO603 := n2_; have BK597 := n3_; have HR600_0 := n4_; have HR600_1 := n5_; have HK := n6_; have HB := n7_; clear n0_ n1_ n2_ n3_ n4_ n5_ n6_ n7_; (try clear hb); (try clear hb2); (try clear hk); (try clear hi); (try clear ho0); obtain ⟨Ao20, co20, eo20⟩ := Kd.R_slice HO603.out; subst eo20))
     go_loopg [3, 27] k (fun kq v3 v27 w' => ∃ (x2_1 : List Bool) (x3_1 : List Int) (x27_1 : Int), v27 = .int .i64 x27_1 ∧ Aside0 (impl_after.l0 kq a1 x2_1 x3_1 t601 (t601.length : Int) x27_1 l0_0 a0_1 l0_2 = some (r1, r2)) ∧ Aside0 (kq ≤ k) ∧ Aside0 (Kd.R Kd.bool 4 w' w0.heap.size (fun k_ => ((P2_ k_ ∨ P3_ k_) ∨ w.heap.size ≤ k_)) (.slice (some ⟨go11, 0, none⟩) l2.length co15) x2_1) ∧ Aside0 (Kd.R (Kd.int .i64) 2 w' w0.heap.size (fun k_ => ((P2_ k_ ∨ P3_ k_) ∨ w.heap.size ≤ k_) ∧ some k_ ≠ ((.slice Ao20 t601.length co20) : Value).ownBlock) v3 x3_1) ∧ Aside0 (Kd.R (Kd.int .i64) 2 w' w0.heap.size (fun k_ => ((P2_ k_ ∨ P3_ k_) ∨ w.heap.size ≤ k_) ∧ some k_ ≠ (v3 : Value).ownBlock) (.slice Ao20 t601.length co20) t601) ∧ Aside0 (w'.heap[gb597]? = some (.cells #[(.slice A0_0 l0_0.length c0_0), .int .i64 a0_1, (.slice (some ad600) l0_2.length c0_2)] 41 (0, 0))) ∧ Aside0 (Kept w w' (fun k_ => P2_ k_ ∨ P3_ k_)) ∧ Aside0 (Below w0.heap.size w0 w'))
     case atStart => exact ⟨(y599), (l3), (0), rF_, H', ⟨Nat.le_refl _⟩, ⟨rHO2_⟩, ⟨rHO3_⟩, ⟨by (with_reducible repeat (first | apply Kd.R_alloc | apply Kd.R_drewN | apply Kd.R_drew)); exact Kd.R_mono HO603.out (fun _ hk => ⟨hk.1.1, hk.2⟩)⟩, ⟨bK597_⟩, ⟨by repeat (first | (with_reducible first | exact HK.out | apply Kept.alloc | apply Kept.drewN | apply Kept.drew | refine Kept.setCell ?_ (.inr GW597.out) _) | exact HK.out)⟩, ⟨hS_⟩⟩
     case round =>
      clear H'
      try clear c1
      try clear p1
      try clear q1
      try clear hx1
      try clear p2
      try clear c5
      try clear c5b0
      try clear p5
      try clear q5
      try clear hx5
      try clear c6
      try clear c6b0
      try clear p6
      try clear q6
      try clear hx6
      try clear c7
      try clear q7
      try clear c8
      try clear c11
      try clear p11
      try clear q11
      try clear hx11
      try clear hf11
      try clear c12
      try clear c12b0
      try clear hcz18_0 hcz18_1 hcz18_2 hfz18_0 hfz18_1 hfz18_2
      try clear hx11_0
      try clear hx598_0
      try clear hx600_0
      try clear hx600_1
      try clear hx600_2
      try clear hx600_3
      try clear hx600_4
      try clear hx600_5
      try clear p11
      try clear p598
      try clear p600
      try clear q11
      try clear q598
      try clear q600
      obtain ⟨x2_1, x3_1, x27_1, rfl, HA, HK1, HO_2, HO_3, HO_25, BK597, HK, HB⟩ := hrel
      have hl2_1 := (Kd.R_reads' HO_2.out).1
      rw [hl2_1] at HO_2
      (try simp only [hl2_1])
      (try simp only [hl2_1] at BK597)
      (try simp only [hl2_1] at HO_3)
      (try simp only [hl2_1] at HO_25)
      cases gk with
      | zero => exact absurd HA.out (by simp [impl_after.l0])
      | succ k1 =>
       have H := HA.out
       clear HA
       simp only [impl_after.l0] at H
       by_cases c21 : x27_1 < (t601.length : Int)
       ·rw [if_pos c21] at H
        have c21b0 : decide (x27_1 < (t601.length : Int)) = true := decide_eq_true c21
        clear c21
        by_cases c22 : 0 ≤ x27_1
        ·rw [if_pos c22] at H
         have c22b0 : decide (0 ≤ x27_1) = true := decide_eq_true c22
         clear c22
         by_cases c23 : x27_1 < (t601.length : Int)
         ·rw [if_pos c23] at H
          have c23b0 : decide (x27_1 < (t601.length : Int)) = true := decide_eq_true c23
          clear c23
          replace H := Option.bind_eq_some_iff.mp H
          obtain ⟨⟨t605, t608⟩, A240, H⟩ := H
          replace H : (impl_after.l0 k1 a1 t608 t605 t601 (t601.length : Int) (wrap64 (x27_1 + 1)) l0_0 a0_1 l0_2) = some (r1, r2) := H
          have A24 := Aside0.mk A240
          clear A240
          have H' := Aside0.mk H
          clear H
          have p604 : 0 ≤ (x27_1 : Int) := oD_
          have q604 : x27_1 < (t601.length : Int) := oD_
          obtain ⟨ad604, e604, hx604_0⟩ := Kd.at_int (Kd.R_reads' HO_25.out).2.2 x27_1 p604 q604
          cases e604
          replace p604 := eq_true p604
          replace q604 := eq_true q604
          obtain ⟨hcz25_0, hcz25_1, hcz25_2, hfz25_0, hfz25_1, hfz25_2⟩ := blkc3_ BK597.out
          obtain ⟨Ao26, co26, eo26⟩ := Kd.R_slice HO_3.out
          subst eo26
          go_wp2_with (first | ((with_reducible refine gate_callee (f := 76) rfl ?_); refine gL_ (some 35) Try.func76 #[.agg #[.slice A0_0 l0_0.length c0_0, .int .i64 a0_1, .slice (some ad600) l0_2.length c0_2], .int .i64 (rd t601 x27_1), .slice (some ⟨go11, 0, none⟩) x2_1.length co15, .slice Ao26 x3_1.length co26] ?_; (with_reducible refine (ih k1 (by have := HK1.out; omega) _ _ l0_0 a0_1 _ _ l0_2 (rd t601 x27_1) (fun k_ => some k_ = (.slice (some ⟨go11, 0, none⟩) x2_1.length co15 : Value).ownBlock) (.slice (some ⟨go11, 0, none⟩) x2_1.length co15) x2_1 (fun k_ => some k_ = (.slice Ao26 x3_1.length co26 : Value).ownBlock) (.slice Ao26 x3_1.length co26) x3_1 t605 t608 w0 _ ?side1 ?side2 ?side3 ?side4 ?side5 ?side6 ?side7 A24.out).mono ?_); (case side1 => repeat (first | (with_reducible first | exact HB.out | apply below_alloc | apply pw_below_drewN | apply below_drew1 | refine below_set ?_ GE597.out) | exact HB.out)); (case side2 => exact Kd.C_kept_call HR0_0.out (by repeat (first | (with_reducible first | exact HK.out | apply Kept.alloc | apply Kept.drewN | apply Kept.drew | refine Kept.setCell ?_ (.inr GW597.out) _) | exact HK.out)) (fun k_ hs_ => Or.elim hs_ (fun e_ => (fun e_ => (HO_2.out.1 k_ e_.symm)) e_) (fun e_ => (fun e_ => (HO_3.out.1 k_ e_.symm).1) e_))); (case side3 => exact HC0_0.out); (case side4 => exact Kd.C_kept_call HR0_2.out (by repeat (first | (with_reducible first | exact HK.out | apply Kept.alloc | apply Kept.drewN | apply Kept.drew | refine Kept.setCell ?_ (.inr GW597.out) _) | exact HK.out)) (fun k_ hs_ => Or.elim hs_ (fun e_ => (fun e_ => (HO_2.out.1 k_ e_.symm)) e_) (fun e_ => (fun e_ => (HO_3.out.1 k_ e_.symm).1) e_))); (case side5 => exact HC0_2.out); (case side6 => exact Kd.R_tight rfl HO_2.out); (case side7 => exact Kd.R_tight rfl HO_3.out); rintro e w27 ⟨v606, rfl, ho0, hy0, hb, hkp⟩; refine ⟨_, rfl, ?_⟩; have n0_ := Aside0.mk (Kd.R_reok rfl hy0 (fun k_ e_ => HO_2.out.1 k_ e_)); have n1_ := Aside0.mk (Kd.R_mono (ok' := fun k_ => ((P2_ k_ ∨ P3_ k_) ∨ w.heap.size ≤ k_) ∧ some k_ ≠ (v606 : Value).ownBlock) (Kd.R_keptB ((Kd.R_apart' HO_25.out (Kd.R_typed HO_2.out) (by decide))) hkp (fun k_ hk_ hs_ => Or.elim hs_ (fun e_ => (hk_.2) e_) (fun e_ => (hk_.1.2) e_))) (fun k_ hk_ => ⟨hk_.1.1.1, fun e_ => Or.elim (ho0.1 k_ e_.symm) (fun hs_ => hk_.2.1 hs_) (fun hn_ => Nat.not_le.2 hk_.2.2 hn_)⟩)); have n2_ := Aside0.mk (blk_kept bK597_ hkp (fun hs_ => Or.elim hs_ (fun e_ => (fun e_ => (Kd.R_ne HO_2.out BK597.out (by decide)) e_) e_) (fun e_ => (fun e_ => (Kd.R_ne HO_3.out BK597.out (by decide)) e_) e_))); have n3_ := Aside0.mk (Kd.R_mono (ok' := fun k_ => ((P2_ k_ ∨ P3_ k_) ∨ w.heap.size ≤ k_) ∧ some k_ ≠ (.slice (some ad604) t601.length co20 : Value).ownBlock) ho0 (fun k_ hk_ => ⟨Or.elim hk_ (fun hs_ => Or.elim hs_ (fun hs_ => (HO_2.out.1 k_ (hs_).symm)) (fun hs_ => (HO_3.out.1 k_ (hs_).symm).1)) (fun hn_ => (.inr (Nat.le_trans (by first | exact HK.out.1 | exact (show Kept w _ (fun k_ => P2_ k_ ∨ P3_ k_) from by repeat (first | (with_reducible first | exact HK.out | apply Kept.alloc | apply Kept.drewN | apply Kept.drew | refine Kept.setCell ?_ (.inr GW597.out) _) | exact HK.out)).1) hn_))), Or.elim hk_ (fun hs_ => Or.elim hs_ (fun hs_ => fun e_ => ((((Kd.R_apart' HO_25.out (Kd.R_typed HO_2.out) (by decide))).1 k_ e_.symm).2) hs_) (fun hs_ => fun e_ => ((((Kd.R_apart' HO_25.out (Kd.R_typed HO_2.out) (by decide))).1 k_ e_.symm).1.2) hs_)) (fun hn_ => (Kd.fresh' (Kd.R_lt rHO_25_) k_ hn_))⟩)); have n4_ := Aside0.mk (Kept.then_ (S := (fun k_ => P2_ k_ ∨ P3_ k_)) (by repeat (first | (with_reducible first | exact HK.out | apply Kept.alloc | apply Kept.drewN | apply Kept.drew | refine Kept.setCell ?_ (.inr GW597.out) _) | exact HK.out)) hkp (fun k_ hs_ => Or.elim hs_ (fun e_ => (fun e_ => (HO_2.out.1 k_ e_.symm)) e_) (fun e_ => (fun e_ => (HO_3.out.1 k_ e_.symm).1) e_))); have n5_ := Aside0.mk (hb); clear HO_2; clear HO_25; clear BK597; clear HK; clear HB; clear HO_3; have HO_2 := n0_; have HO_25 := n1_; have BK597 := n2_; have HO607 := n3_; have HK := n4_; have HB := n5_; clear n0_ n1_ n2_ n3_ n4_ n5_; (try clear hb); (try clear hkp); (try clear ho0); (try clear hy0)))
          (try simp only [← hl2_1])
          go_roundg k1
          case measure => have := HK1.out; omega
          case rel => exact ⟨(t608), (t605), (wrap64 (x27_1 + 1)), rF_, H', ⟨by have := HK1.out; omega⟩, ⟨by (try simp only [hl2_1]); (with_reducible repeat (first | apply Kd.R_alloc | apply Kd.R_drewN | apply Kd.R_drew)); exact HO_2.out⟩, ⟨by (try simp only [hl2_1]); (with_reducible repeat (first | apply Kd.R_alloc | apply Kd.R_drewN | apply Kd.R_drew)); exact HO607.out⟩, ⟨by (try simp only [hl2_1]); (with_reducible repeat (first | apply Kd.R_alloc | apply Kd.R_drewN | apply Kd.R_drew)); exact HO_25.out⟩, ⟨by (try simp only [hl2_1]); (with_reducible repeat (first | refine blk_drewN ?_ _ | refine blk_drew ?_ | refine blk_alloc ?_ _)); exact BK597.out⟩, ⟨by repeat (first | (with_reducible first | exact HK.out | apply Kept.alloc | apply Kept.drewN | apply Kept.drew | refine Kept.setCell ?_ (.inr GW597.out) _) | exact HK.out)⟩, ⟨hS_⟩⟩
         ·rw [if_neg c23] at H
          exact absurd H (by simp)
        ·rw [if_neg c22] at H
         exact absurd H (by simp)
       ·rw [if_neg c21] at H
        have c21b0 : decide (x27_1 < (t601.length : Int)) = false := decide_eq_false c21
        clear c21
        by_cases c28 : x3_1.length < 17592186044416
        ·rw [if_pos c28] at H
         have LMc28 := Aside0.mk c28
         clear c28
         obtain ⟨y609, hy609⟩ : ∃ y_ : List Int, y_ = (x3_1 ++ [a1]) := ⟨_, rfl⟩
         replace H : (some (y609, x2_1)) = some (r1, r2) := by first | (rw [hy609]; with_reducible exact H) | (have H2_ := (Option.bind_some _ _).symm.trans H; rw [hy609]; with_reducible exact H2_) | (have H2_ := (Option.bind_some _ _).symm.trans H; with_reducible exact H2_) | with_reducible exact H | (rw [hy609]; exact H) | exact H
         have Ny609 := Aside0.mk hy609
         clear hy609
         simp only [Option.some.injEq, Prod.mk.injEq] at H
         obtain ⟨rfl, rfl⟩ := H
         go_wp2_with (first | ((with_reducible refine gate_builtin (b := .append) (xs := #[.tmp 37, .tmp 39]) rfl ?_); at_builtin; refine Kd.R_append (Kd.int .i64) (w0 := w0) w0.heap.size rfl (.tmp 37) (.tmp 39) 22 2 (.int .i64 0) 8 rfl Try.underlying22 info2 rfl (by decide) (by omega) u3 x3_1 a1 [.int .i64 a1] (fun k_ => ((P2_ k_ ∨ P3_ k_) ∨ w.heap.size ≤ k_) ∧ some k_ ≠ (.slice Ao20 t601.length co20 : Value).ownBlock) (fun _ => False) rfl rfl ?aP (fun _ hk => hk.elim) ?aF ?aO ?aB ?aS ?aL ?_; (case aP => exact rfl); (case aB => exact hS_); (case aF => exact (fun k_ hk => ⟨(.inr (Nat.le_trans (by first | exact HK.out.1 | exact (show Kept w _ (fun k_ => P2_ k_ ∨ P3_ k_) from by repeat (first | (with_reducible first | exact HK.out | apply Kept.alloc | apply Kept.drewN | apply Kept.drew | refine Kept.setCell ?_ (.inr GW597.out) _) | exact HK.out)).1) hk)), Kd.fresh' (Kd.R_lt rHO_25_) k_ hk⟩)); (case aO => exact rHO_3_); (case aS => exact (below_size hS_)); (case aL => have := LMc28.out; omega); intro v610 w29 ho hb hg hat; rw [← Ny609.out] at ho; have n0_ := Aside0.mk (Kd.R_over' rHO_2_ (Kd.R_typed rHO_3_) (by decide) hg); have n1_ := Aside0.mk (Kd.R_after (ok := (fun k_ => ((P2_ k_ ∨ P3_ k_) ∨ w.heap.size ≤ k_))) rHO_25_ hg hat); have n2_ := Aside0.mk (blk_grown (g := gb597) (o := .cells #[.slice A0_0 l0_0.length c0_0, .int .i64 a0_1, .slice (some ad600) l0_2.length c0_2] 41 (0, 0)) bK597_ hg (Kd.R_ne HO_3.out BK597.out (by decide))); have n3_ := Aside0.mk (hb); have n4_ := Aside0.mk (Kept.of_grown (S := (fun k_ => P2_ k_ ∨ P3_ k_)) hg (by repeat (first | (with_reducible first | exact HK.out | apply Kept.alloc | apply Kept.drewN | apply Kept.drew | refine Kept.setCell ?_ (.inr GW597.out) _) | exact HK.out)) (fun k_ e_ => (HO_3.out.1 k_ e_).1)); have n5_ := Aside0.mk (ho); clear HO_2; clear HO_25; clear BK597; clear HB; clear HK; clear HO_3; have HO_2 := n0_; have HO_25 := n1_; have BK597 := n2_; have HB := n3_; have HK := n4_; have HO611 := n5_; clear n0_ n1_ n2_ n3_ n4_ n5_; clear ho hb hg hat))
         go_ret
         exact ⟨_, rG_, by (with_reducible repeat (first | apply Kd.R_alloc | apply Kd.R_drewN | apply Kd.R_drew)); exact Kd.R_mono HO611.out (fun _ hk => hk.1), (by first | exact rHO_2_ | (simp only [hl2_1]; exact rHO_2_)), hS_, by repeat (first | (with_reducible first | exact HK.out | apply Kept.alloc | apply Kept.drewN | apply Kept.drew | refine Kept.setCell ?_ (.inr GW597.out) _) | exact HK.out)⟩
        ·rw [if_neg c28] at H
         exact absurd H (by simp)
    ·rw [if_neg c12] at H
     exact absurd H (by simp)
  ·rw [if_neg c6] at H
   exact absurd H (by simp)
 ·rw [if_neg c5] at H
  exact absurd H (by simp)
/-! ### slices_Reverse_int64_int64: function 77 -/
def slices_Reverse_int64_int64.l0 : Nat → List Int → Int → Int → Option (List Int)
 | 0, _, _, _ => none
 | k + 1, x0, x2, x3 => if x2 < x3 then (if 0 ≤ x3 then (if x3 < (x0.length : Int) then (if 0 ≤ x2 then (if x2 < (x0.length : Int) then (slices_Reverse_int64_int64.l0 k ((x0.set (x2 : Int).toNat (rd x0 x3)).set (x3 : Int).toNat (rd x0 x2)) (wrap64 (x2 + 1)) (wrap64 (x3 - 1))) else (none)) else (none)) else (none)) else (none)) else (some x0)
def slices_Reverse_int64_int64.f (k : Nat) (l0 : List Int) : Option (List Int) := slices_Reverse_int64_int64.l0 k l0 0 (wrap64 ((l0.length : Int) - 1))
theorem slices_Reverse_int64_int64.mono_l : ∀ k, (∀ y0 y1 y2, LeO (slices_Reverse_int64_int64.l0 k y0 y1 y2) (slices_Reverse_int64_int64.l0 (k + 1) y0 y1 y2))
 | 0 => fun _ _ _ r h => by simp [slices_Reverse_int64_int64.l0] at h
 | k + 1 => by
  have ih0 := slices_Reverse_int64_int64.mono_l k
  ·intro y0 y1 y2
   unfold slices_Reverse_int64_int64.l0
   repeat' first
   | (with_reducible exact ih0 _ _ _)
   | (with_reducible exact LeO.refl _)
   | (with_reducible exact LeO.none _)
   | (with_reducible refine LeO.ite ?_ ?_)
   | (with_reducible refine LeO.bind ?_ (fun _ => ?_))
   | exact ih0 _ _ _
   | exact LeO.none _
   | refine LeO.ite ?_ ?_
   | refine LeO.bind ?_ (fun _ => ?_)
theorem slices_Reverse_int64_int64.mono : ∀ a0 k, LeO (slices_Reverse_int64_int64.f k a0) (slices_Reverse_int64_int64.f (k + 1) a0) := by
 intro a0 k
 have ih0 := slices_Reverse_int64_int64.mono_l k
 unfold slices_Reverse_int64_int64.f
 repeat' first
   | (with_reducible exact ih0 _ _ _)
   | (with_reducible exact LeO.refl _)
   | (with_reducible exact LeO.none _)
   | (with_reducible refine LeO.ite ?_ ?_)
   | (with_reducible refine LeO.bind ?_ (fun _ => ?_))
   | exact ih0 _ _ _
   | exact LeO.none _
   | refine LeO.ite ?_ ?_
   | refine LeO.bind ?_ (fun _ => ?_)
def slices_Reverse_int64_int64.T3 : Bool × List (List Nat × List Nat) := (true, [([], []), ([], []), ([], []), ([], []), ([], []), ([], []), ([4, 5], [4, 5]), ([6], [6]), ([], []), ([], []), ([8, 9], [8, 9]), ([10], [10]), ([0, 1, 0, 1, 4, 5, 6, 7, 11], [0, 1]), ([12, 7, 0, 1, 4, 5, 6, 7, 11], [7, 12]), ([2, 3, 0, 1, 2, 3, 4, 5, 6, 7, 8, 9, 10, 11, 12, 13], [2, 3]), ([14, 11, 13, 0, 1, 2, 3, 4, 5, 6, 7, 8, 9, 10, 11, 12, 13], [11, 14])])
def slices_Reverse_int64_int64.B3 : List Nat := [0, 0, 0, 0, 0, 0, 48, 112, 0, 0, 768, 1792, 4083, 8179, 16383, 32767]
theorem slices_Reverse_int64_int64.tab3 : rtab .any (opsOf Try.f77 3) = slices_Reverse_int64_int64.T3 := by kernel_rfl
theorem slices_Reverse_int64_int64.bits3 : waitsOk slices_Reverse_int64_int64.T3.2 slices_Reverse_int64_int64.B3 = true := by kernel_rfl
set_option maxHeartbeats 8000000 in
set_option maxRecDepth 100000 in
theorem slices_Reverse_int64_int64.calls (k : Nat) (P0_ : Nat → Prop) (u9000_ : Value) (l0 : List Int) (r : List Int) (w0 w : World) (hB : Below w0.heap.size w0 w) (ho0 : Kd.R (Kd.int .i64) 2 w w0.heap.size P0_ u9000_ l0) (h : slices_Reverse_int64_int64.f k l0 = some r) :
  Calls Try.prog 77 #[u9000_] w fun e w' => e = .returned (.tuple #[]) ∧ Kd.R (Kd.int .i64) 2 w' w0.heap.size (fun k_ => (P0_ k_ ∨ w.heap.size ≤ k_)) u9000_ r ∧ Below w0.heap.size w0 w' ∧ Kept w w' (fun k_ => P0_ k_) := by
 have HO0 := Aside0.mk (show Kd.R (Kd.int .i64) 2 w w0.heap.size (fun k_ => (P0_ k_ ∨ w.heap.size ≤ k_)) u9000_ l0 from Kd.R_mono ho0 (fun k_ hk => (.inl hk)))
 have HK := Aside0.mk (Kept.refl w (fun k_ => P0_ k_))
 have HW0 := Aside0.mk hB.size
 have HB := Aside0.mk hB
 clear hB
 have H : (slices_Reverse_int64_int64.l0 k l0 0 (wrap64 ((l0.length : Int) - 1))) = some r := h
 clear h
 have H' := Aside0.mk H
 clear H
 obtain ⟨Ao2, co2, eo2⟩ := Kd.R_slice HO0.out
 subst eo2
 go_enter Try.func77, Try.ntmps77
 go_wp2
 go_loopg [2, 3] k (fun kq v2 v3 w' => ∃ (x0_1 : List Int) (x2_1 : Int) (x3_1 : Int), v2 = .int .i64 x2_1 ∧ v3 = .int .i64 x3_1 ∧ Aside0 (slices_Reverse_int64_int64.l0 kq x0_1 x2_1 x3_1 = some r) ∧ Aside0 (kq ≤ k) ∧ Aside0 (Kd.R (Kd.int .i64) 2 w' w0.heap.size (fun k_ => (P0_ k_ ∨ w.heap.size ≤ k_)) (.slice Ao2 l0.length co2) x0_1) ∧ Aside0 (Kept w w' (fun k_ => P0_ k_)) ∧ Aside0 (Below w0.heap.size w0 w'))
 case atStart => exact ⟨(l0), (0), (wrap64 ((l0.length : Int) - 1)), rF_, rF_, H', ⟨Nat.le_refl _⟩, ⟨rHO0_⟩, ⟨by repeat (first | (with_reducible first | exact HK.out | apply Kept.alloc | apply Kept.drewN | apply Kept.drew) | exact HK.out)⟩, ⟨hB_⟩⟩
 case round =>
  clear H'
  try clear p2
  obtain ⟨x0_1, x2_1, x3_1, rfl, rfl, HA, HK1, HO_0, HK, HB⟩ := hrel
  have hl0_1 := (Kd.R_reads' HO_0.out).1
  rw [hl0_1] at HO_0
  (try simp only [hl0_1])
  cases gk with
  | zero => exact absurd HA.out (by simp [slices_Reverse_int64_int64.l0])
  | succ k1 =>
   have H := HA.out
   clear HA
   simp only [slices_Reverse_int64_int64.l0] at H
   by_cases c3 : x2_1 < x3_1
   ·rw [if_pos c3] at H
    have c3b0 : decide (x2_1 < x3_1) = true := decide_eq_true c3
    clear c3
    by_cases c4 : 0 ≤ x3_1
    ·rw [if_pos c4] at H
     have c4b0 : decide (0 ≤ x3_1) = true := decide_eq_true c4
     clear c4
     by_cases c5 : x3_1 < (x0_1.length : Int)
     ·rw [if_pos c5] at H
      have c5b0 : decide (x3_1 < (x0_1.length : Int)) = true := decide_eq_true c5
      clear c5
      by_cases c6 : 0 ≤ x2_1
      ·rw [if_pos c6] at H
       have c6b0 : decide (0 ≤ x2_1) = true := decide_eq_true c6
       clear c6
       by_cases c7 : x2_1 < (x0_1.length : Int)
       ·rw [if_pos c7] at H
        have c7b0 : decide (x2_1 < (x0_1.length : Int)) = true := decide_eq_true c7
        clear c7
        obtain ⟨y614, hy614⟩ : ∃ y_ : List Int, y_ = (x0_1.set (x2_1 : Int).toNat (rd x0_1 x3_1)) := ⟨_, rfl⟩
        replace H : (slices_Reverse_int64_int64.l0 k1 (y614.set (x3_1 : Int).toNat (rd x0_1 x2_1)) (wrap64 (x2_1 + 1)) (wrap64 (x3_1 - 1))) = some r := by first | (rw [hy614]; with_reducible exact H) | (have H2_ := (Option.bind_some _ _).symm.trans H; rw [hy614]; with_reducible exact H2_) | (have H2_ := (Option.bind_some _ _).symm.trans H; with_reducible exact H2_) | with_reducible exact H | (rw [hy614]; exact H) | exact H
        have Ny614 := Aside0.mk hy614
        clear hy614
        obtain ⟨y615, hy615⟩ : ∃ y_ : List Int, y_ = (y614.set (x3_1 : Int).toNat (rd x0_1 x2_1)) := ⟨_, rfl⟩
        replace H : (slices_Reverse_int64_int64.l0 k1 y615 (wrap64 (x2_1 + 1)) (wrap64 (x3_1 - 1))) = some r := by first | (rw [hy615]; with_reducible exact H) | (have H2_ := (Option.bind_some _ _).symm.trans H; rw [hy615]; with_reducible exact H2_) | (have H2_ := (Option.bind_some _ _).symm.trans H; with_reducible exact H2_) | with_reducible exact H | (rw [hy615]; exact H) | exact H
        have Ny615 := Aside0.mk hy615
        clear hy615
        have H' := Aside0.mk H
        clear H
        try go_wp2
        have n0_ := Aside0.mk (Kd.R_drew HO_0.out)
        have n1_ := Aside0.mk (Kept.drew HK.out)
        have n2_ := Aside0.mk (below_drew1 HB.out)
        clear HO_0
        clear HK
        clear HB
        have HO_0 := n0_
        have HK := n1_
        have HB := n2_
        clear n0_ n1_ n2_
        have p612 : 0 ≤ (x3_1 : Int) := oD_
        have q612 : x3_1 < (x0_1.length : Int) := oD_
        obtain ⟨ad612, e612, hx612_0⟩ := Kd.at_int (Kd.R_reads' HO_0.out).2.2 x3_1 p612 q612
        cases e612
        replace p612 := eq_true p612
        replace q612 := eq_true q612
        have p613 : 0 ≤ (x2_1 : Int) := oD_
        have q613 : x2_1 < (x0_1.length : Int) := oD_
        obtain ⟨ad613, e613, hx613_0⟩ := Kd.at_int (Kd.R_reads' HO_0.out).2.2 x2_1 p613 q613
        obtain rfl : ad612 = ad613 := (by injection e613)
        replace p613 := eq_true p613
        replace q613 := eq_true q613
        have p8 : 0 ≤ (x2_1 : Int) := oD_
        have q8 : (x2_1 : Int) < ((x0_1.length : Int) : Int) := oD_
        obtain ⟨go8, co8, eo8, gb8, gl8, cl8, HG8⟩ := Kd.R_form HO_0.out (by omega)
        (first | cases eo8 | (injection eo8 with ea_ en_ ec_; (first | subst ea_ | (injection ea_ with ea_; subst ea_)); subst ec_; clear en_))
        have GB8 := Aside0.mk gb8
        have GG8 := Aside0.mk HG8
        clear gb8 gl8 HG8
        have HMgo8 := Aside0.mk (show (P0_ go8 ∨ w.heap.size ≤ go8) from (HO_0.out.1 _ rfl))
        (first | simp only [add_plain] at hx612_0 | skip)
        (first | simp only [add_plain] at hx613_0 | skip)
        obtain ⟨hx8_0, hf8_0⟩ := Kd.R_celln 0 HO_0.out (x2_1 : Int) p8 q8
        replace p8 := eq_true p8
        replace q8 := eq_true q8
        have HP11 := Kd.R_putn HO_0.out (x2_1 : Int) (rd x0_1 x3_1)
        rw [← Ny614.out] at HP11
        have HQ11 := Aside0.mk HP11
        clear HP11
        have p9 : 0 ≤ (x3_1 : Int) := oD_
        have q9 : (x3_1 : Int) < ((x0_1.length : Int) : Int) := oD_
        obtain ⟨hx9_0, hf9_0⟩ := Kd.R_celln 0 HQ11.out (x3_1 : Int) p9 q9
        replace p9 := eq_true p9
        replace q9 := eq_true q9
        have HP12 := Kd.R_putn HQ11.out (x3_1 : Int) (rd x0_1 x2_1)
        rw [← Ny615.out] at HP12
        have HQ12 := Aside0.mk HP12
        clear HP12
        refine start_ (n := 16) (S := fun w' => w'.cell? ⟨go8, (x3_1).toNat, none⟩ = some (.int .i64 (rd x0_1 x3_1)) ∧ w'.cell? ⟨go8, (x2_1).toNat, none⟩ = some (.int .i64 (rd x0_1 x2_1))) (ds := [13, 15]) #[false, false, false, false, false, false, false, false, false, false, false, false, false, false, false, false] (by kernel_rfl) rfl rfl ⟨hx612_0, hx613_0⟩ (fun hHeld => ?_); refine with_tabW slices_Reverse_int64_int64.tab3 slices_Reverse_int64_int64.bits3 (fun HT_ HW_ => ?_)
        generalize wr.drew = w10 at HO_0 HK HB GG8 HQ11 HQ12 hf8_0 hf9_0 hx612_0 hx613_0 hx8_0 hx9_0 hHeld ⊢
        refine pure_ (i := 0) (N := some 14) (v := ?_) (a' := ?_) #[true, false, false, false, false, false, false, false, false, false, false, false, false, false, false, false] rfl rfl (any_of HT_.out (by kernel_rfl)) (fun _ _ _ h => h) (Or.inl ⟨by rfl, ?_⟩) ?_ ?_
        rotate_left
        ·intro w'
         go_simp
         with_reducible rfl
        rotate_left
        ·simp only [Act.put, List.setIfInBounds_toArray, List.set_cons_zero, List.set_cons_succ, i64_w, i32_w]
         rfl
        refine pure_ (i := 1) (N := some 15) (v := ?_) (a' := ?_) #[true, true, false, false, false, false, false, false, false, false, false, false, false, false, false, false] rfl rfl (any_of HT_.out (by kernel_rfl)) (fun _ _ _ h => h) (Or.inl ⟨by rfl, ?_⟩) ?_ ?_
        rotate_left
        ·intro w'
         go_simp
         with_reducible rfl
        rotate_left
        ·simp only [Act.put, List.setIfInBounds_toArray, List.set_cons_zero, List.set_cons_succ, i64_w, i32_w]
         rfl
        refine pure_ (i := 2) (N := some 16) (v := ?_) (a' := ?_) #[true, true, true, false, false, false, false, false, false, false, false, false, false, false, false, false] rfl rfl (any_of HT_.out (by kernel_rfl)) (fun _ _ _ h => h) (Or.inl ⟨by rfl, ?_⟩) ?_ ?_
        rotate_left
        ·intro w'
         go_simp
         with_reducible rfl
        rotate_left
        ·simp only [Act.put, List.setIfInBounds_toArray, List.set_cons_zero, List.set_cons_succ, i64_w, i32_w]
         rfl
        refine pure_ (i := 3) (N := some 17) (v := ?_) (a' := ?_) #[true, true, true, true, false, false, false, false, false, false, false, false, false, false, false, false] rfl rfl (any_of HT_.out (by kernel_rfl)) (fun _ _ _ h => h) (Or.inl ⟨by rfl, ?_⟩) ?_ ?_
        rotate_left
        ·intro w'
         go_simp
         with_reducible rfl
        rotate_left
        ·simp only [Act.put, List.setIfInBounds_toArray, List.set_cons_zero, List.set_cons_succ, i64_w, i32_w]
         rfl
        refine pure_ (i := 4) (N := some 18) (v := ?_) (a' := ?_) #[true, true, true, true, true, false, false, false, false, false, false, false, false, false, false, false] rfl rfl (any_of HT_.out (by kernel_rfl)) (fun _ _ _ h => h) (Or.inl ⟨by rfl, ?_⟩) ?_ ?_
        rotate_left
        ·intro w'
         go_simp
         with_reducible rfl
        rotate_left
        ·simp only [Act.put, List.setIfInBounds_toArray, List.set_cons_zero, List.set_cons_succ, i64_w, i32_w]
         rfl
        refine pure_ (i := 5) (N := some 19) (v := ?_) (a' := ?_) #[true, true, true, true, true, true, false, false, false, false, false, false, false, false, false, false] rfl rfl (any_of HT_.out (by kernel_rfl)) (fun _ _ _ h => h) (Or.inl ⟨by rfl, ?_⟩) ?_ ?_
        rotate_left
        ·intro w'
         go_simp
         with_reducible rfl
        rotate_left
        ·simp only [Act.put, List.setIfInBounds_toArray, List.set_cons_zero, List.set_cons_succ, i64_w, i32_w]
         rfl
        refine pure_ (i := 6) (N := some 20) (v := ?_) (a' := ?_) #[true, true, true, true, true, true, true, false, false, false, false, false, false, false, false, false] rfl rfl (any_of HT_.out (by kernel_rfl)) (fun _ _ _ h => h) (Or.inl ⟨by rfl, ?_⟩) ?_ ?_
        rotate_left
        ·intro w'
         go_simp
         with_reducible rfl
        rotate_left
        ·simp only [Act.put, List.setIfInBounds_toArray, List.set_cons_zero, List.set_cons_succ, i64_w, i32_w]
         rfl
        refine pure_ (i := 8) (N := some 22) (v := ?_) (a' := ?_) #[true, true, true, true, true, true, true, false, true, false, false, false, false, false, false, false] rfl rfl (any_of HT_.out (by kernel_rfl)) (fun _ _ _ h => h) (Or.inl ⟨by rfl, ?_⟩) ?_ ?_
        rotate_left
        ·intro w'
         go_simp
         with_reducible rfl
        rotate_left
        ·simp only [Act.put, List.setIfInBounds_toArray, List.set_cons_zero, List.set_cons_succ, i64_w, i32_w]
         rfl
        refine pure_ (i := 9) (N := some 23) (v := ?_) (a' := ?_) #[true, true, true, true, true, true, true, false, true, true, false, false, false, false, false, false] rfl rfl (any_of HT_.out (by kernel_rfl)) (fun _ _ _ h => h) (Or.inl ⟨by rfl, ?_⟩) ?_ ?_
        rotate_left
        ·intro w'
         go_simp
         with_reducible rfl
        rotate_left
        ·simp only [Act.put, List.setIfInBounds_toArray, List.set_cons_zero, List.set_cons_succ, i64_w, i32_w]
         rfl
        refine pure_ (i := 10) (N := some 24) (v := ?_) (a' := ?_) #[true, true, true, true, true, true, true, false, true, true, true, false, false, false, false, false] rfl rfl (any_of HT_.out (by kernel_rfl)) (fun _ _ _ h => h) (Or.inl ⟨by rfl, ?_⟩) ?_ ?_
        rotate_left
        ·intro w'
         go_simp
         with_reducible rfl
        rotate_left
        ·simp only [Act.put, List.setIfInBounds_toArray, List.set_cons_zero, List.set_cons_succ, i64_w, i32_w]
         rfl
        refine take_ (i := 7) (N := some 21) (v := ?_) (a' := ?_) #[true, true, true, true, true, true, true, true, true, true, true, false, false, false, false, false] rfl rfl (take_ofW HT_.out HW_.out (by kernel_rfl)) (fun _ _ _ h => h) (Or.inl ⟨by rfl, ?_⟩) hHeld ?_ ?_
        rotate_left
        ·rintro w' ⟨s0, s1⟩
         go_simp
         with_reducible rfl
        rotate_left
        ·simp only [Act.put, List.setIfInBounds_toArray, List.set_cons_zero, List.set_cons_succ, i64_w, i32_w]
         rfl
        refine take_ (i := 11) (N := some 25) (v := ?_) (a' := ?_) #[true, true, true, true, true, true, true, true, true, true, true, true, false, false, false, false] rfl rfl (take_ofW HT_.out HW_.out (by kernel_rfl)) (fun _ _ _ h => h) (Or.inl ⟨by rfl, ?_⟩) hHeld ?_ ?_
        rotate_left
        ·rintro w' ⟨s0, s1⟩
         go_simp
         with_reducible rfl
        rotate_left
        ·simp only [Act.put, List.setIfInBounds_toArray, List.set_cons_zero, List.set_cons_succ, i64_w, i32_w]
         rfl
        refine pure_ (i := 12) (N := some 26) (v := ?_) (a' := ?_) #[true, true, true, true, true, true, true, true, true, true, true, true, true, false, false, false] rfl rfl (any_of HT_.out (by kernel_rfl)) (fun _ _ _ h => h) (Or.inl ⟨by rfl, ?_⟩) ?_ ?_
        rotate_left
        ·intro w'
         go_simp
         with_reducible rfl
        rotate_left
        ·simp only [Act.put, List.setIfInBounds_toArray, List.set_cons_zero, List.set_cons_succ, i64_w, i32_w]
         rfl
        refine last_ (i := 13) (N := none) #[true, true, true, true, true, true, true, true, true, true, true, true, true, true, false, false] rfl rfl (one_of HT_.out (by kernel_rfl)) (by decide) (fun K hK => ?_)
        refine skip_ (w1 := ?_) (by rfl) rfl ?_ ?_
        rotate_left
        ·go_simp
         rfl
        refine hK.out _ _ ?_
        clear hK K
        refine pure_ (i := 14) (N := some 27) (v := ?_) (a' := ?_) #[true, true, true, true, true, true, true, true, true, true, true, true, true, true, true, false] rfl rfl (any_of HT_.out (by kernel_rfl)) (fun _ _ _ h => h) (Or.inl ⟨by rfl, ?_⟩) ?_ ?_
        rotate_left
        ·intro w'
         go_simp
         with_reducible rfl
        rotate_left
        ·simp only [Act.put, List.setIfInBounds_toArray, List.set_cons_zero, List.set_cons_succ, i64_w, i32_w]
         rfl
        refine last_ (i := 15) (N := none) #[true, true, true, true, true, true, true, true, true, true, true, true, true, true, true, true] rfl rfl (one_of HT_.out (by kernel_rfl)) (by decide) (fun K hK => ?_)
        refine skip_ (w1 := ?_) (by rfl) rfl ?_ ?_
        rotate_left
        ·go_simp
         rfl
        refine hK.out _ _ ?_
        clear hK K
        refine done_ (done_of HT_.out (by kernel_rfl)) ?_
        try go_wp2
        (try simp only [← hl0_1])
        go_roundg k1
        case measure => have := HK1.out; omega
        case rel => exact ⟨(y615), (wrap64 (x2_1 + 1)), (wrap64 (x3_1 - 1)), rF_, rF_, H', ⟨by have := HK1.out; omega⟩, ⟨by (try simp only [hl0_1]); (with_reducible repeat (first | apply Kd.R_alloc | apply Kd.R_drewN | apply Kd.R_drew)); exact HQ12.out⟩, ⟨by repeat (first | (with_reducible first | exact HK.out | apply Kept.alloc | apply Kept.drewN | apply Kept.drew | refine Kept.setCell ?_ HMgo8.out _ | refine Kept.setCell ?_ HMgo8.out _) | exact HK.out)⟩, ⟨by repeat (first | (with_reducible first | exact HB.out | apply below_alloc | apply pw_below_drewN | apply below_drew1 | refine below_set ?_ GB8.out | refine below_set ?_ GB8.out) | exact HB.out)⟩⟩
       ·rw [if_neg c7] at H
        exact absurd H (by simp)
      ·rw [if_neg c6] at H
       exact absurd H (by simp)
     ·rw [if_neg c5] at H
      exact absurd H (by simp)
    ·rw [if_neg c4] at H
     exact absurd H (by simp)
   ·rw [if_neg c3] at H
    have c3b0 : decide (x2_1 < x3_1) = false := decide_eq_false c3
    clear c3
    obtain rfl := Option.some.inj H
    go_wp2
    first | go_end0 | ((try simp only [Exit.inBlock, Exit.then]); refine bodyPost_ret (results_none rfl _ _ _) rfl ?_)
    exact ⟨rG_, (by first | exact rHO_0_ | (simp only [hl0_1]; exact rHO_0_)), hB_, by repeat (first | (with_reducible first | exact HK.out | apply Kept.alloc | apply Kept.drewN | apply Kept.drew) | exact HK.out)⟩
/-! ### impl_OrderOf: function 34 -/
def impl_OrderOf.f (k : Nat) (l0_0 : List Int) (a0_1 : Int) (l0_2 : List (S88)) : Option (List Int) := (impl_isGraph.f l0_0 a0_1 l0_2).bind fun t617 => (if t617 = true then (if 0 ≤ (l0_2.length : Int) then (if ((l0_2.length : Int) : Int).toNat ≤ 281474976710656 then ((impl_after.f k l0_0 a0_1 l0_2 0 (List.replicate ((l0_2.length : Int) : Int).toNat false) ([] : List Int)).bind fun bt621 => ((slices_Reverse_int64_int64.f k bt621.1).bind fun t625 => (some t625))) else (none)) else (none)) else (some ([] : List Int)))
theorem impl_OrderOf.mono : ∀ a0 a1 a2 k, LeO (impl_OrderOf.f k a0 a1 a2) (impl_OrderOf.f (k + 1) a0 a1 a2) := by
 intro a0 a1 a2 k
 unfold impl_OrderOf.f
 repeat' first
   | (with_reducible exact impl_after.mono _ _ _ _ _ _ _)
   | (with_reducible exact slices_Reverse_int64_int64.mono _ _)
   | (with_reducible exact LeO.refl _)
   | (with_reducible exact LeO.none _)
   | (with_reducible refine LeO.ite ?_ ?_)
   | (with_reducible refine LeO.bind ?_ (fun _ => ?_))
   | exact impl_after.mono _ _ _ _ _ _ _
   | exact slices_Reverse_int64_int64.mono _ _
   | exact LeO.none _
   | refine LeO.ite ?_ ?_
   | refine LeO.bind ?_ (fun _ => ?_)
set_option maxHeartbeats 8000000 in
set_option maxRecDepth 100000 in
theorem impl_OrderOf.calls (k : Nat) (A0_0 : Option Addr) (c0_0 : Nat) (l0_0 : List Int) (a0_1 : Int) (A0_2 : Option Addr) (c0_2 : Nat) (l0_2 : List (S88)) (r : List Int) (w : World) (hr0_0 : Kd.C (Kd.int .i64) w A0_0 l0_0.length l0_0) (hc0_0 : l0_0.length ≤ c0_0) (hr0_2 : Kd.C k88 w A0_2 l0_2.length l0_2) (hc0_2 : l0_2.length ≤ c0_2) (h : impl_OrderOf.f k l0_0 a0_1 l0_2 = some r) :
  Calls Try.prog 34 #[.agg #[.slice A0_0 l0_0.length c0_0, .int .i64 a0_1, .slice A0_2 l0_2.length c0_2]] w fun e w' => ∃ v0_ : Value, e = .returned (v0_) ∧ Kd.R (Kd.int .i64) 2 w' w.heap.size (fun _ => True) v0_ r ∧ Below w.heap.size w w' := by
 have hu41 := Try.underlying41
 have HR0_0 := Aside0.mk hr0_0
 have HC0_0 := Aside0.mk hc0_0
 clear hr0_0 hc0_0
 have HR0_2 := Aside0.mk hr0_2
 have HC0_2 := Aside0.mk hc0_2
 clear hr0_2 hc0_2
 have HB := Aside0.mk (Below.refl w.heap.size w)
 have H : ((impl_isGraph.f l0_0 a0_1 l0_2).bind fun t617 => (if t617 = true then (if 0 ≤ (l0_2.length : Int) then (if ((l0_2.length : Int) : Int).toNat ≤ 281474976710656 then ((impl_after.f k l0_0 a0_1 l0_2 0 (List.replicate ((l0_2.length : Int) : Int).toNat false) ([] : List Int)).bind fun bt621 => ((slices_Reverse_int64_int64.f k bt621.1).bind fun t625 => (some t625))) else (none)) else (none)) else (some ([] : List Int)))) = some r := h
 clear h
 replace H := Option.bind_eq_some_iff.mp H
 obtain ⟨t617, A20, H⟩ := H
 replace H : (if t617 = true then (if 0 ≤ (l0_2.length : Int) then (if ((l0_2.length : Int) : Int).toNat ≤ 281474976710656 then ((impl_after.f k l0_0 a0_1 l0_2 0 (List.replicate ((l0_2.length : Int) : Int).toNat false) ([] : List Int)).bind fun bt621 => ((slices_Reverse_int64_int64.f k bt621.1).bind fun t625 => (some t625))) else (none)) else (none)) else (some ([] : List Int))) = some r := H
 have A2 := Aside0.mk A20
 clear A20
 by_cases c3 : t617 = true
 ·subst c3
  have H1 := (if_pos rfl).symm.trans H
  clear H
  have H := H1
  clear H1
  by_cases c4 : 0 ≤ (l0_2.length : Int)
  ·rw [if_pos c4] at H
   have c4b0 := eq_true c4
   have c4b1 : decide (0 ≤ (l0_2.length : Int)) = true := decide_eq_true c4
   clear c4
   by_cases c5 : ((l0_2.length : Int) : Int).toNat ≤ 281474976710656
   ·rw [if_pos c5] at H
    have c5b0 := eq_true c5
    have c5b1 : decide (((l0_2.length : Int) : Int).toNat ≤ 281474976710656) = true := decide_eq_true c5
    clear c5
    obtain ⟨y618, hy618⟩ : ∃ y_ : List Bool, y_ = (List.replicate ((l0_2.length : Int) : Int).toNat false) := ⟨_, rfl⟩
    replace H : ((impl_after.f k l0_0 a0_1 l0_2 0 y618 ([] : List Int)).bind fun bt621 => ((slices_Reverse_int64_int64.f k bt621.1).bind fun t625 => (some t625))) = some r := by first | (rw [hy618]; with_reducible exact H) | (have H2_ := (Option.bind_some _ _).symm.trans H; rw [hy618]; with_reducible exact H2_) | (have H2_ := (Option.bind_some _ _).symm.trans H; with_reducible exact H2_) | with_reducible exact H | (rw [hy618]; exact H) | exact H
    have Ny618 := Aside0.mk hy618
    clear hy618
    replace H := Option.bind_eq_some_iff.mp H
    obtain ⟨⟨t621, t624⟩, A60, H⟩ := H
    replace H : ((slices_Reverse_int64_int64.f k t621).bind fun t625 => (some t625)) = some r := H
    have A6 := Aside0.mk A60
    clear A60
    replace H := Option.bind_eq_some_iff.mp H
    obtain ⟨t625, A70, H⟩ := H
    replace H : (some t625) = some r := H
    have A7 := Aside0.mk A70
    clear A70
    obtain rfl := Option.some.inj H
    go_enter Try.func34, Try.ntmps34
    try go_wp2_with (first | ((with_reducible refine gate_dst (N := 1) rfl ?_); refine box_event ?hg (N := 1) ?hd (cs := #[.slice A0_0 l0_0.length c0_0, .int .i64 a0_1, .slice A0_2 l0_2.length c0_2]) (t := 41) ?hr ?_; (case hd => rfl); (case hg => rfl); (case hr => first | (go_simp; done) | (go_simp; rfl)); intro gb616 hg w8 hbox hb; have n0_ := Aside0.mk (below_step hB_ hb); have n1_ := Aside0.mk (hbox); have n2_ := Aside0.mk ((sz_ hg (below_size hB_) : w.heap.size ≤ gb616)); have n3_ := Aside0.mk ((sz_ hg (below_size hB_) : w.heap.size ≤ gb616)); clear HB; have HB := n0_; have BK616 := n1_; have GW616 := n2_; have GE616 := n3_; clear n0_ n1_ n2_ n3_; clear hb hbox hg; obtain ⟨hcz9_0, hcz9_1, hcz9_2, hfz9_0, hfz9_1, hfz9_2⟩ := blkc3_ BK616.out) | ((with_reducible refine gate_callee (f := 73) rfl ?_); refine gL_ (some 5) Try.func73 #[.agg #[.slice A0_0 l0_0.length c0_0, .int .i64 a0_1, .slice A0_2 l0_2.length c0_2]] ?_; (with_reducible refine (impl_isGraph.calls _ _ l0_0 a0_1 _ _ l0_2 true _ ?side1 ?side2 ?side3 ?side4 A2.out).mono ?_); (case side1 => exact cHR0_0_); (case side2 => exact HC0_0.out); (case side3 => exact cHR0_2_); (case side4 => exact HC0_2.out); rintro e w10 ⟨rfl, hb⟩; refine ⟨_, rfl, ?_⟩; have n0_ := Aside0.mk (blk_below (g := gb616) (o := .cells #[.slice A0_0 l0_0.length c0_0, .int .i64 a0_1, .slice A0_2 l0_2.length c0_2] 41 (0, 0)) bK616_ hb); have n1_ := Aside0.mk (below_step hS_ hb); clear BK616; clear HB; have BK616 := n0_; have HB := n1_; clear n0_ n1_; (try clear hb); (try clear hb2); (try clear hk); (try clear hi)))
    have n0_ := Aside0.mk (blk_drew BK616.out)
    have n1_ := Aside0.mk (below_drew1 HB.out)
    clear BK616
    clear HB
    have BK616 := n0_
    have HB := n1_
    clear n0_ n1_
    refine start_ (n := 7) (S := fun w' => w'.cell? ⟨gb616, 0, none⟩ = some (.slice A0_0 l0_0.length c0_0) ∧ w'.cell? ⟨gb616, 1, none⟩ = some (.int .i64 a0_1) ∧ w'.cell? ⟨gb616, 2, none⟩ = some (.slice A0_2 l0_2.length c0_2)) (ds := []) #[false, false, false, false, false, false, false] (by kernel_rfl) rfl rfl ⟨(blk_cell BK616.out 0).trans rfl, (blk_cell BK616.out 1).trans rfl, (blk_cell BK616.out 2).trans rfl⟩ (fun hHeld => ?_)
    generalize w10.drew = w11 at BK616 HB hHeld ⊢
    refine pure_ (i := 1) (N := some 8) (v := ?_) (a' := ?_) #[false, true, false, false, false, false, false] rfl rfl (by kernel_rfl) (fun _ _ _ h => h) (Or.inl ⟨by rfl, ?_⟩) ?_ ?_
    rotate_left
    ·intro w'
     go_simp
     with_reducible rfl
    rotate_left
    ·simp only [Act.put, List.setIfInBounds_toArray, List.set_cons_zero, List.set_cons_succ, i64_w, i32_w]
     rfl
    refine take_ (i := 0) (N := some 7) (v := ?_) (a' := ?_) #[true, true, false, false, false, false, false] rfl rfl (by kernel_rfl) (fun _ _ _ h => h) (Or.inl ⟨by rfl, ?_⟩) hHeld ?_ ?_
    rotate_left
    ·rintro w' ⟨s0, s1, s2⟩
     go_simp
     with_reducible rfl
    rotate_left
    ·simp only [Act.put, List.setIfInBounds_toArray, List.set_cons_zero, List.set_cons_succ, i64_w, i32_w]
     rfl
    refine take_ (i := 2) (N := some 9) (v := ?_) (a' := ?_) #[true, true, true, false, false, false, false] rfl rfl (by kernel_rfl) (fun _ _ _ h => h) (Or.inl ⟨by rfl, ?_⟩) hHeld ?_ ?_
    rotate_left
    ·rintro w' ⟨s0, s1, s2⟩
     go_simp
     with_reducible rfl
    rotate_left
    ·simp only [Act.put, List.setIfInBounds_toArray, List.set_cons_zero, List.set_cons_succ, i64_w, i32_w]
     rfl
    refine pure_ (i := 3) (N := some 10) (v := ?_) (a' := ?_) #[true, true, true, true, false, false, false] rfl rfl (by kernel_rfl) (fun _ _ _ h => h) (Or.inl ⟨by rfl, ?_⟩) ?_ ?_
    rotate_left
    ·intro w'
     go_simp
     with_reducible rfl
    rotate_left
    ·simp only [Act.put, List.setIfInBounds_toArray, List.set_cons_zero, List.set_cons_succ, i64_w, i32_w]
     rfl
    refine one_ (i := 4) (N := some 11) #[true, true, true, true, true, false, false] rfl rfl (by kernel_rfl) (by decide) (fun K hK => ?_)
    refine Kd.R_make_step Kd.bool _ 4 (by rfl) (N := 11) rfl 76 _ _ rfl (l0_2.length : Int) rfl rfl Try.underlying76 (.bool false) 1 info4 rfl (by decide) (by omega) false (ok := fun _ => True) (okp := fun _ => True) rfl (fun _ hk => hk) trivial (oD_) (Nat.le_trans (Nat.mul_le_mul_right _ (oD_ : (l0_2.length : Int).toNat ≤ 281474976710656)) (by omega)) (Below.refl _ _) (Nat.le_refl _) ?_
    intro v619 w12 ho13 hb hg_ hnew_
    clear hg_ hnew_
    (first | rw [← Ny618.out] at ho13 | (simp only [Int.reduceToNat] at ho13; rw [← Ny618.out] at ho13))
    have n0_ := Aside0.mk (Kd.R_lower ho13 (below_size hS_))
    have n1_ := Aside0.mk (blk_below (g := gb616) (o := .cells #[.slice A0_0 l0_0.length c0_0, .int .i64 a0_1, .slice A0_2 l0_2.length c0_2] 41 (0, 0)) bK616_ hb)
    have n2_ := Aside0.mk (below_step hS_ hb)
    clear BK616
    clear HB
    have HO620 := n0_
    have BK616 := n1_
    have HB := n2_
    clear n0_ n1_ n2_
    clear hb ho13
    obtain ⟨Ao14, co14, eo14⟩ := Kd.R_slice HO620.out
    (first | subst eo14 | (injection eo14 with f1_ f2_ f3_; have f4_ := f1_.symm; have f5_ := f3_.symm; clear f1_ f2_ f3_; subst f4_; subst f5_))
    refine hK.out _ _ ⟨(blk_cell BK616.out 0).trans rfl, (blk_cell BK616.out 1).trans rfl, (blk_cell BK616.out 2).trans rfl⟩ (fun hHeld => ?_)
    clear hK K
    refine norm_ (a' := ?_) ?_ ?_
    rotate_left
    ·show Act.put _ (some 11) _ = _
     simp only [Act.put, List.setIfInBounds_toArray, List.set_cons_zero, List.set_cons_succ, i64_w, i32_w]
     rfl
    refine one_ (i := 5) (N := some 12) #[true, true, true, true, true, true, false] rfl rfl (by kernel_rfl) (by decide) (fun K hK => ?_)
    refine goes_ Try.func76 (by kernel_rfl) rfl #[.agg #[.slice A0_0 l0_0.length c0_0, .int .i64 a0_1, .slice A0_2 l0_2.length c0_2], .int .i64 0, .slice Ao14 y618.length co14, .slice none 0 0] (by rfl) rfl rfl (by (try simp only [List.map_toArray, List.map_cons, List.map_nil]); first | done | rfl | (simp only [List.length_drop, List.length_take]; rfl)) ?_
    refine (impl_after.calls k _ _ l0_0 a0_1 _ _ l0_2 0 (fun k_ => some k_ = (.slice Ao14 y618.length co14 : Value).ownBlock) (.slice Ao14 y618.length co14) y618 (fun k_ => some k_ = (.slice none 0 0 : Value).ownBlock) (.slice none 0 0) ([] : List Int) t621 t624 w _ ?side1 ?side2 ?side3 ?side4 ?side5 ?side6 ?side7 A6.out).mono ?_
    (case side1 => repeat (first | (with_reducible first | exact HB.out | apply below_alloc | apply pw_below_drewN | apply below_drew1 | refine below_set ?_ GE616.out) | exact HB.out))
    (case side2 => exact Kd.C_kept_came (Kd.heap_int .i64) HR0_0.out hS_ (fun k_ hs_ => Or.elim hs_ (fun e_ => (fun e_ => Kd.R_base HO620.out k_ e_.symm) e_) (fun e_ => (fun e_ => by simp [Value.ownBlock] at e_) e_)))
    (case side3 => exact HC0_0.out)
    (case side4 => exact Kd.C_kept_came k88_heap HR0_2.out hS_ (fun k_ hs_ => Or.elim hs_ (fun e_ => (fun e_ => Kd.R_base HO620.out k_ e_.symm) e_) (fun e_ => (fun e_ => by simp [Value.ownBlock] at e_) e_)))
    (case side5 => exact HC0_2.out)
    (case side6 => exact Kd.R_tight rfl HO620.out)
    (case side7 => exact Kd.R_nil _ _ _ _ _)
    rintro e w15 ⟨v622, rfl, ho0, hy0, hb, hkp⟩
    refine ⟨_, rfl, ?_⟩
    have n0_ := Aside0.mk (blk_kept bK616_ hkp (fun hs_ => Or.elim hs_ (fun e_ => (fun e_ => (Kd.R_ne HO620.out BK616.out (by decide)) e_) e_) (fun e_ => (fun e_ => by simp [Value.ownBlock] at e_) e_)))
    have n1_ := Aside0.mk (Kd.R_reok rfl hy0 (fun k_ e_ => HO620.out.1 k_ e_))
    have n2_ := Aside0.mk (Kd.R_mono (ok' := fun k_ => True) ho0 (fun k_ hk_ => trivial))
    have n3_ := Aside0.mk (hb)
    clear BK616
    clear HO620
    clear HB
    have BK616 := n0_
    have HO620 := n1_
    have HO623 := n2_
    have HB := n3_
    clear n0_ n1_ n2_ n3_
    (try clear hb)
    (try clear hkp)
    (try clear ho0)
    (try clear hy0)
    refine hK.out _ _ ⟨(blk_cell BK616.out 0).trans rfl, (blk_cell BK616.out 1).trans rfl, (blk_cell BK616.out 2).trans rfl⟩ (fun hHeld => ?_)
    clear hK K
    refine norm_ (a' := ?_) ?_ ?_
    rotate_left
    ·show Act.put _ (some 12) _ = _
     simp only [Act.put, List.setIfInBounds_toArray, List.set_cons_zero, List.set_cons_succ, i64_w, i32_w]
     rfl
    refine pure_ (i := 6) (N := some 3) (v := ?_) (a' := ?_) #[true, true, true, true, true, true, true] rfl rfl (by kernel_rfl) (fun _ _ _ h => h) (Or.inl ⟨by rfl, ?_⟩) ?_ ?_
    rotate_left
    ·intro w'
     go_simp
     with_reducible rfl
    rotate_left
    ·simp only [Act.put, List.setIfInBounds_toArray, List.set_cons_zero, List.set_cons_succ, i64_w, i32_w]
     rfl
    refine done_ (by kernel_rfl) ?_
    obtain ⟨Ao16, co16, eo16⟩ := Kd.R_slice HO623.out
    subst eo16
    try go_wp2_with (first | ((with_reducible refine gate_callee (f := 77) rfl ?_); refine gL_ (some 14) Try.func77 #[.slice Ao16 t621.length co16] ?_; (with_reducible refine (slices_Reverse_int64_int64.calls k (fun k_ => some k_ = (.slice Ao16 t621.length co16 : Value).ownBlock) (.slice Ao16 t621.length co16) t621 t625 w _ ?side1 ?side2 A7.out).mono ?_); (case side1 => repeat (first | (with_reducible first | exact HB.out | apply below_alloc | apply pw_below_drewN | apply below_drew1 | refine below_set ?_ GE616.out) | exact HB.out)); (case side2 => exact Kd.R_tight rfl HO623.out); rintro e w17 ⟨rfl, hy0, hb, hkp⟩; refine ⟨_, rfl, ?_⟩; have n0_ := Aside0.mk (blk_kept bK616_ hkp (fun hs_ => (fun e_ => (Kd.R_ne HO623.out BK616.out (by decide)) e_) hs_)); have n1_ := Aside0.mk (Kd.R_mono (ok' := fun k_ => True) (Kd.R_keptB ((Kd.R_apart' HO620.out (Kd.R_typed HO623.out) (by decide))) hkp (fun k_ hk_ hs_ => (hk_.2) hs_)) (fun k_ hk_ => trivial)); have n2_ := Aside0.mk (Kd.R_reok rfl hy0 (fun k_ e_ => HO623.out.1 k_ e_)); have n3_ := Aside0.mk (hb); clear BK616; clear HO620; clear HO623; clear HB; have BK616 := n0_; have HO620 := n1_; have HO623 := n2_; have HB := n3_; clear n0_ n1_ n2_ n3_; (try clear hb); (try clear hkp); (try clear hy0)))
    go_ret
    exact ⟨_, rG_, rHO623_, hS_⟩
   ·rw [if_neg c5] at H
    exact absurd H (by simp)
  ·rw [if_neg c4] at H
   exact absurd H (by simp)
 ·replace c3 := Bool.eq_false_iff.mpr c3
  subst c3
  have H1 := (if_neg (show ¬ (false = true) by decide)).symm.trans H
  clear H
  have H := H1
  clear H1
  obtain rfl := Option.some.inj H
  go_enter Try.func34, Try.ntmps34
  go_wp2_with (first | ((with_reducible refine gate_dst (N := 1) rfl ?_); refine box_event ?hg (N := 1) ?hd (cs := #[.slice A0_0 l0_0.length c0_0, .int .i64 a0_1, .slice A0_2 l0_2.length c0_2]) (t := 41) ?hr ?_; (case hd => rfl); (case hg => rfl); (case hr => first | (go_simp; done) | (go_simp; rfl)); intro gb616 hg w18 hbox hb; have n0_ := Aside0.mk (below_step hB_ hb); have n1_ := Aside0.mk (hbox); have n2_ := Aside0.mk ((sz_ hg (below_size hB_) : w.heap.size ≤ gb616)); have n3_ := Aside0.mk ((sz_ hg (below_size hB_) : w.heap.size ≤ gb616)); clear HB; have HB := n0_; have BK616 := n1_; have GW616 := n2_; have GE616 := n3_; clear n0_ n1_ n2_ n3_; clear hb hbox hg; obtain ⟨hcz19_0, hcz19_1, hcz19_2, hfz19_0, hfz19_1, hfz19_2⟩ := blkc3_ BK616.out) | ((with_reducible refine gate_callee (f := 73) rfl ?_); refine gL_ (some 5) Try.func73 #[.agg #[.slice A0_0 l0_0.length c0_0, .int .i64 a0_1, .slice A0_2 l0_2.length c0_2]] ?_; (with_reducible refine (impl_isGraph.calls _ _ l0_0 a0_1 _ _ l0_2 false _ ?side1 ?side2 ?side3 ?side4 A2.out).mono ?_); (case side1 => exact cHR0_0_); (case side2 => exact HC0_0.out); (case side3 => exact cHR0_2_); (case side4 => exact HC0_2.out); rintro e w20 ⟨rfl, hb⟩; refine ⟨_, rfl, ?_⟩; have n0_ := Aside0.mk (blk_below (g := gb616) (o := .cells #[.slice A0_0 l0_0.length c0_0, .int .i64 a0_1, .slice A0_2 l0_2.length c0_2] 41 (0, 0)) bK616_ hb); have n1_ := Aside0.mk (below_step hS_ hb); clear BK616; clear HB; have BK616 := n0_; have HB := n1_; clear n0_ n1_; (try clear hb); (try clear hb2); (try clear hk); (try clear hi)))
  go_ret
  exact ⟨_, rG_, by first | exact Kd.R_nil _ _ _ _ _ | exact Kd.N_nil _ _ _ _ _ | exact Kd.V_nil _ _ _ _ _ | exact Kd.Q_nil _ _ _ _ _ | exact Kd.S_nil _ _ _ _ _, hS_⟩
/-! ### laws_sameInts: function 35 -/
def laws_sameInts.l0 : Nat → List Int → List Int → Int → Option (Bool)
 | 0, _, _, _ => none
 | k + 1, x0, x1, x5 => if x5 < (x0.length : Int) then (if 0 ≤ x5 then (if x5 < (x1.length : Int) then (if (rd x0 x5) = (rd x1 x5) then (laws_sameInts.l0 k x0 x1 (wrap64 (x5 + 1))) else (some false)) else (none)) else (none)) else (some true)
def laws_sameInts.f (k : Nat) (l0 : List Int) (l1 : List Int) : Option (Bool) := if (l0.length : Int) = (l1.length : Int) then (laws_sameInts.l0 k l0 l1 0) else (some false)
theorem laws_sameInts.mono_l : ∀ k, (∀ y0 y1 y2, LeO (laws_sameInts.l0 k y0 y1 y2) (laws_sameInts.l0 (k + 1) y0 y1 y2))
 | 0 => fun _ _ _ r h => by simp [laws_sameInts.l0] at h
 | k + 1 => by
  have ih0 := laws_sameInts.mono_l k
  ·intro y0 y1 y2
   unfold laws_sameInts.l0
   repeat' first
   | (with_reducible exact ih0 _ _ _)
   | (with_reducible exact LeO.refl _)
   | (with_reducible exact LeO.none _)
   | (with_reducible refine LeO.ite ?_ ?_)
   | (with_reducible refine LeO.bind ?_ (fun _ => ?_))
   | exact ih0 _ _ _
   | exact LeO.none _
   | refine LeO.ite ?_ ?_
   | refine LeO.bind ?_ (fun _ => ?_)
theorem laws_sameInts.mono : ∀ a0 a1 k, LeO (laws_sameInts.f k a0 a1) (laws_sameInts.f (k + 1) a0 a1) := by
 intro a0 a1 k
 have ih0 := laws_sameInts.mono_l k
 unfold laws_sameInts.f
 repeat' first
   | (with_reducible exact ih0 _ _ _)
   | (with_reducible exact LeO.refl _)
   | (with_reducible exact LeO.none _)
   | (with_reducible refine LeO.ite ?_ ?_)
   | (with_reducible refine LeO.bind ?_ (fun _ => ?_))
   | exact ih0 _ _ _
   | exact LeO.none _
   | refine LeO.ite ?_ ?_
   | refine LeO.bind ?_ (fun _ => ?_)
set_option maxHeartbeats 8000000 in
set_option maxRecDepth 100000 in
theorem laws_sameInts.calls (k : Nat) (A0 : Option Addr) (c0 : Nat) (l0 : List Int) (A1 : Option Addr) (c1 : Nat) (l1 : List Int) (r : Bool) (w : World) (hr0 : Kd.C (Kd.int .i64) w A0 l0.length l0) (hc0 : l0.length ≤ c0) (hr1 : Kd.C (Kd.int .i64) w A1 l1.length l1) (hc1 : l1.length ≤ c1) (h : laws_sameInts.f k l0 l1 = some r) :
  Calls Try.prog 35 #[.slice A0 l0.length c0, .slice A1 l1.length c1] w fun e w' => e = .returned (.bool r) ∧ Drawn0 w w' := by
 have HR0 := Aside0.mk hr0
 have HC0 := Aside0.mk hc0
 clear hr0 hc0
 have HR1 := Aside0.mk hr1
 have HC1 := Aside0.mk hc1
 clear hr1 hc1
 have H : (if (l0.length : Int) = (l1.length : Int) then (laws_sameInts.l0 k l0 l1 0) else (some false)) = some r := h
 clear h
 by_cases c3 : (l0.length : Int) = (l1.length : Int)
 ·rw [if_pos c3] at H
  have c3b0 : ((l0.length : Int) == (l1.length : Int)) = true := beq_iff_eq.mpr c3
  have c3b1 : ((l0.length : Int) != (l1.length : Int)) = false := bne_eq_false_iff_eq.mpr c3
  have c3b2 : (l0.length == l1.length) = true := by first | simpa using c3 | (simp at c3 ⊢; omega)
  clear c3
  have H' := Aside0.mk H
  clear H
  go_enter Try.func35, Try.ntmps35
  go_wp2
  repeat (go_quiet (fail); try go_wp2)
  go_loopg [5] k (fun kq v5 w' => ∃ (x5_1 : Int), v5 = .int .i64 x5_1 ∧ Aside0 (laws_sameInts.l0 kq l0 l1 x5_1 = some r) ∧ Aside0 (kq ≤ k) ∧ Drawn0 w w')
  case atStart => exact ⟨(0), rF_, H', ⟨Nat.le_refl _⟩, by repeat (first | exact Drawn0.refl _ | apply Drawn0.step)⟩
  case round =>
   clear H'
   try clear c1
   try clear p2
   try clear c3
   try clear c3b0
   try clear c3b1
   try clear c3b2
   obtain ⟨x5_1, rfl, HA, HK1, ⟨m1, rfl⟩⟩ := hrel
   cases gk with
   | zero => exact absurd HA.out (by simp [laws_sameInts.l0])
   | succ k1 =>
    have H := HA.out
    clear HA
    simp only [laws_sameInts.l0] at H
    by_cases c4 : x5_1 < (l0.length : Int)
    ·rw [if_pos c4] at H
     have c4b0 : decide (x5_1 < (l0.length : Int)) = true := decide_eq_true c4
     clear c4
     by_cases c5 : 0 ≤ x5_1
     ·rw [if_pos c5] at H
      have c5b0 : decide (0 ≤ x5_1) = true := decide_eq_true c5
      clear c5
      by_cases c6 : x5_1 < (l1.length : Int)
      ·rw [if_pos c6] at H
       have c6b0 : decide (x5_1 < (l1.length : Int)) = true := decide_eq_true c6
       clear c6
       by_cases c7 : (rd l0 x5_1) = (rd l1 x5_1)
       ·rw [if_pos c7] at H
        have c7b0 : ((rd l0 x5_1) == (rd l1 x5_1)) = true := beq_iff_eq.mpr c7
        have c7b1 : ((rd l0 x5_1) != (rd l1 x5_1)) = false := bne_eq_false_iff_eq.mpr c7
        clear c7
        have H' := Aside0.mk H
        clear H
        have p626 : 0 ≤ (x5_1 : Int) := oD_
        have q626 : x5_1 < (l0.length : Int) := oD_
        obtain ⟨ad626, e626, hx626_0⟩ := Kd.at_int HR0.out x5_1 p626 q626
        cases e626
        replace p626 := eq_true p626
        replace q626 := eq_true q626
        have p627 : 0 ≤ (x5_1 : Int) := oD_
        have q627 : x5_1 < (l1.length : Int) := oD_
        obtain ⟨ad627, e627, hx627_0⟩ := Kd.at_int HR1.out x5_1 p627 q627
        cases e627
        replace p627 := eq_true p627
        replace q627 := eq_true q627
        go_wp2
        repeat (go_quiet (fail); try go_wp2)
        go_roundg k1
        case measure => have := HK1.out; omega
        case rel => exact ⟨(wrap64 (x5_1 + 1)), rF_, H', ⟨by have := HK1.out; omega⟩, by repeat (first | exact Drawn0.refl _ | apply Drawn0.step)⟩
       ·rw [if_neg c7] at H
        have c7b0 : ((rd l0 x5_1) == (rd l1 x5_1)) = false := beq_eq_false_iff_ne.mpr c7
        have c7b1 : ((rd l0 x5_1) != (rd l1 x5_1)) = true := bne_iff_ne.mpr c7
        obtain rfl := Option.some.inj H
        have p626 : 0 ≤ (x5_1 : Int) := oD_
        have q626 : x5_1 < (l0.length : Int) := oD_
        obtain ⟨ad626, e626, hx626_0⟩ := Kd.at_int HR0.out x5_1 p626 q626
        cases e626
        replace p626 := eq_true p626
        replace q626 := eq_true q626
        have p627 : 0 ≤ (x5_1 : Int) := oD_
        have q627 : x5_1 < (l1.length : Int) := oD_
        obtain ⟨ad627, e627, hx627_0⟩ := Kd.at_int HR1.out x5_1 p627 q627
        cases e627
        replace p627 := eq_true p627
        replace q627 := eq_true q627
        go_wp2
        repeat (go_quiet (fail); try go_wp2)
        go_ret
        exact ⟨rF_, by repeat (first | exact Drawn0.refl _ | apply Drawn0.step)⟩
      ·rw [if_neg c6] at H
       exact absurd H (by simp)
     ·rw [if_neg c5] at H
      exact absurd H (by simp)
    ·rw [if_neg c4] at H
     have c4b0 : decide (x5_1 < (l0.length : Int)) = false := decide_eq_false c4
     clear c4
     obtain rfl := Option.some.inj H
     go_wp2
     repeat (go_quiet (fail); try go_wp2)
     go_ret
     exact ⟨rF_, by repeat (first | exact Drawn0.refl _ | apply Drawn0.step)⟩
 ·rw [if_neg c3] at H
  have c3b0 : ((l0.length : Int) == (l1.length : Int)) = false := beq_eq_false_iff_ne.mpr c3
  have c3b1 : ((l0.length : Int) != (l1.length : Int)) = true := bne_iff_ne.mpr c3
  have c3b2 : (l0.length == l1.length) = false := by first | simpa using c3 | (simp at c3 ⊢; omega)
  obtain rfl := Option.some.inj H
  go_enter Try.func35, Try.ntmps35
  go_wp2
  repeat (go_quiet (fail); try go_wp2)
  go_ret
  exact ⟨rF_, by repeat (first | exact Drawn0.refl _ | apply Drawn0.step)⟩
/-! ### spec_l1In: function 57 -/
def spec_l1In.f (a0 : Int) (a1 : Int) (a2 : Int) : Option (Bool) := if a0 ≥ a1 then (some (decide (a0 ≤ a2))) else (some false)
set_option maxHeartbeats 8000000 in
set_option maxRecDepth 100000 in
theorem spec_l1In.calls (a0 : Int) (a1 : Int) (a2 : Int) (r : Bool) (w : World) (h : spec_l1In.f a0 a1 a2 = some r) :
  Calls Try.prog 57 #[.int .i64 a0, .int .i64 a1, .int .i64 a2] w fun e w' => e = .returned (.bool r) ∧ Drawn0 w w' := by
 have H : (if a0 ≥ a1 then (some (decide (a0 ≤ a2))) else (some false)) = some r := h
 clear h
 by_cases c4 : a0 ≥ a1
 ·rw [if_pos c4] at H
  have c4b0 : decide (a1 ≤ a0) = true := decide_eq_true c4
  clear c4
  obtain rfl := Option.some.inj H
  go_enter Try.func57, Try.ntmps57
  go_wp2
  go_ret
  exact ⟨rF_, by repeat (first | exact Drawn0.refl _ | apply Drawn0.step)⟩
 ·rw [if_neg c4] at H
  have c4b0 : decide (a1 ≤ a0) = false := decide_eq_false c4
  clear c4
  obtain rfl := Option.some.inj H
  go_enter Try.func57, Try.ntmps57
  go_wp2
  go_ret
  exact ⟨rF_, by repeat (first | exact Drawn0.refl _ | apply Drawn0.step)⟩
/-! ### spec_l3Succs: function 104 -/
def spec_l3Succs.f (l0_0 : List Int) (a0_1 : Int) (l0_2 : List (S88)) (a1 : Int) : Option (List Int) := if 0 ≤ a1 then (if a1 < (l0_2.length : Int) then (if ((rd_T88 l0_2 a1).f2.f0) = 2 then (some (([(rd_T88 l0_2 a1).f2.f2] : List Int))) else (if ((rd_T88 l0_2 a1).f2.f0) = 3 then (some (([(rd_T88 l0_2 a1).f2.f2, (rd_T88 l0_2 a1).f2.f3] : List Int))) else (some (([] : List Int))))) else (none)) else (none)
set_option maxHeartbeats 8000000 in
set_option maxRecDepth 100000 in
theorem spec_l3Succs.calls (A0_0 : Option Addr) (c0_0 : Nat) (l0_0 : List Int) (a0_1 : Int) (A0_2 : Option Addr) (c0_2 : Nat) (l0_2 : List (S88)) (a1 : Int) (r : List Int) (w : World) (hr0_0 : Kd.C (Kd.int .i64) w A0_0 l0_0.length l0_0) (hc0_0 : l0_0.length ≤ c0_0) (hr0_2 : Kd.C k88 w A0_2 l0_2.length l0_2) (hc0_2 : l0_2.length ≤ c0_2) (h : spec_l3Succs.f l0_0 a0_1 l0_2 a1 = some r) :
  Calls Try.prog 104 #[.agg #[.slice A0_0 l0_0.length c0_0, .int .i64 a0_1, .slice A0_2 l0_2.length c0_2], .int .i64 a1] w fun e w' => ∃ v0_ : Value, e = .returned (v0_) ∧ Kd.R (Kd.int .i64) 2 w' w.heap.size (fun _ => True) v0_ r ∧ Below w.heap.size w w' := by
 have hu41 := Try.underlying41
 have hu86 := Try.underlying86
 have HR0_0 := Aside0.mk hr0_0
 have HC0_0 := Aside0.mk hc0_0
 clear hr0_0 hc0_0
 have HR0_2 := Aside0.mk hr0_2
 have HC0_2 := Aside0.mk hc0_2
 clear hr0_2 hc0_2
 have HB := Aside0.mk (Below.refl w.heap.size w)
 have H : (if 0 ≤ a1 then (if a1 < (l0_2.length : Int) then (if ((rd_T88 l0_2 a1).f2.f0) = 2 then (some (([(rd_T88 l0_2 a1).f2.f2] : List Int))) else (if ((rd_T88 l0_2 a1).f2.f0) = 3 then (some (([(rd_T88 l0_2 a1).f2.f2, (rd_T88 l0_2 a1).f2.f3] : List Int))) else (some (([] : List Int))))) else (none)) else (none)) = some r := h
 clear h
 by_cases c3 : 0 ≤ a1
 ·rw [if_pos c3] at H
  have c3b0 : decide (0 ≤ a1) = true := decide_eq_true c3
  clear c3
  by_cases c4 : a1 < (l0_2.length : Int)
  ·rw [if_pos c4] at H
   have c4b0 : decide (a1 < (l0_2.length : Int)) = true := decide_eq_true c4
   clear c4
   by_cases c5 : ((rd_T88 l0_2 a1).f2.f0) = 2
   ·rw [if_pos c5] at H
    have c5b0 : (((rd_T88 l0_2 a1).f2.f0) == 2) = true := beq_iff_eq.mpr c5
    have c5b1 : (((rd_T88 l0_2 a1).f2.f0) != 2) = false := bne_eq_false_iff_eq.mpr c5
    clear c5
    obtain ⟨y397, hy397⟩ : ∃ y_ : List Int, y_ = (([(rd_T88 l0_2 a1).f2.f2] : List Int)) := ⟨_, rfl⟩
    replace H : (some y397) = some r := by first | (rw [hy397]; with_reducible exact H) | (have H2_ := (Option.bind_some _ _).symm.trans H; rw [hy397]; with_reducible exact H2_) | (have H2_ := (Option.bind_some _ _).symm.trans H; with_reducible exact H2_) | with_reducible exact H | (rw [hy397]; exact H) | exact H
    have Ny397 := Aside0.mk hy397
    clear hy397
    obtain rfl := Option.some.inj H
    go_enter Try.func104, Try.ntmps104
    go_wp2_with (first | ((with_reducible refine gate_dst (N := 2) rfl ?_); refine box_event ?hg (N := 2) ?hd (cs := #[.slice A0_0 l0_0.length c0_0, .int .i64 a0_1, .slice A0_2 l0_2.length c0_2]) (t := 41) ?hr ?_; (case hd => rfl); (case hg => rfl); (case hr => first | (go_simp; done) | (go_simp; rfl)); intro gb394 hg w6 hbox hb; have n0_ := Aside0.mk (below_step hB_ hb); have n1_ := Aside0.mk (hbox); have n2_ := Aside0.mk ((sz_ hg (below_size hB_) : w.heap.size ≤ gb394)); have n3_ := Aside0.mk ((sz_ hg (below_size hB_) : w.heap.size ≤ gb394)); clear HB; have HB := n0_; have BK394 := n1_; have GW394 := n2_; have GE394 := n3_; clear n0_ n1_ n2_ n3_; clear hb hbox hg; obtain ⟨hcz7_0, hcz7_1, hcz7_2, hfz7_0, hfz7_1, hfz7_2⟩ := blkc3_ BK394.out; have p395 : 0 ≤ (a1 : Int) := oD_; have q395 : a1 < (l0_2.length : Int) := oD_; obtain ⟨ad395, A395_0, c395_0, A395_1, c395_1, e395, hx395_0, hx395_1, hx395_2, hx395_3, hx395_4, hx395_5, hl395_0, hi395_0, hl395_1, hi395_1⟩ := at_T88 HR0_2.out a1 p395 q395; cases e395; replace hx395_0 := hx_ HB.out hx395_0; replace hx395_1 := hx_ HB.out hx395_1; replace hx395_2 := hx_ HB.out hx395_2; replace hx395_3 := hx_ HB.out hx395_3; replace hx395_4 := hx_ HB.out hx395_4; replace hx395_5 := hx_ HB.out hx395_5; have HR395_0 := Aside0.mk hi395_0; have HC395_0 := Aside0.mk hl395_0; clear hi395_0 hl395_0; have HR395_1 := Aside0.mk hi395_1; have HC395_1 := Aside0.mk hl395_1; clear hi395_1 hl395_1; replace p395 := eq_true p395; replace q395 := eq_true q395) | ((with_reducible refine gate_dst (N := 5) rfl ?_); refine box_event ?hg (N := 5) ?hd (cs := #[.int .i64 0, .int .i64 0, .int .i64 0, .int .i64 0]) (t := 86) ?hr ?_; (case hd => rfl); (case hg => rfl); (case hr => first | (go_simp; done) | (go_simp; rfl)); intro gb396 hg w8 hbox hb; have n0_ := Aside0.mk (blk_below (g := gb394) (o := .cells #[.slice A0_0 l0_0.length c0_0, .int .i64 a0_1, .slice (some ad395) l0_2.length c0_2] 41 (0, 0)) bK394_ hb); have n1_ := Aside0.mk (below_step hS_ hb); have n2_ := Aside0.mk (hbox); have n3_ := Aside0.mk ((sz_ hg (below_size hS_) : w.heap.size ≤ gb396)); have n4_ := Aside0.mk ((sz_ hg (below_size hS_) : w.heap.size ≤ gb396)); have n5_ := Aside0.mk ((by rw [hg]; exact Nat.ne_of_lt (blk_lt (g := gb394) (o := .cells #[.slice A0_0 l0_0.length c0_0, .int .i64 a0_1, .slice (some ad395) l0_2.length c0_2] 41 (0, 0)) bK394_) : gb394 ≠ gb396)); have n6_ := Aside0.mk ((by rw [hg]; exact Nat.ne_of_gt (blk_lt (g := gb394) (o := .cells #[.slice A0_0 l0_0.length c0_0, .int .i64 a0_1, .slice (some ad395) l0_2.length c0_2] 41 (0, 0)) bK394_) : gb396 ≠ gb394)); clear BK394; clear HB; have BK394 := n0_; have HB := n1_; have BK396 := n2_; have GW396 := n3_; have GE396 := n4_; have NB394_396 := n5_; have NB396_394 := n6_; clear n0_ n1_ n2_ n3_ n4_ n5_ n6_; clear hb hbox hg; have hnb9 := NB396_394.out; have hnc9 := NB394_396.out; obtain ⟨hcz10_0, hcz10_1, hcz10_2, hcz10_3, hfz10_0, hfz10_1, hfz10_2, hfz10_3⟩ := blkc4_ BK396.out) | ((with_reducible refine gate_dst (N := 18) rfl ?_); refine Kd.R_lit (Kd.int .i64) _ 2 ?hg (N := 18) ?hd (xs := ([(rd_T88 l0_2 a1).f2.f2] : List Int)) (inner := [.int .i64 ((rd_T88 l0_2 a1).f2.f2)]) (ok := fun _ => True) (okp := fun _ => True) ?hr ?hp (fun _ hk => hk) trivial (Below.refl _ _) (Nat.le_refl _) (by simp) ?_; (case hd => rfl); (case hg => rfl); (case hr => first | (go_simp; done) | (go_simp; rfl)); (case hp => exact (Reps.one (show Kd.M (Kd.int .i64) _ _ _ ((rd_T88 l0_2 a1).f2.f2) [.int .i64 ((rd_T88 l0_2 a1).f2.f2)] from rfl) (Reps.none _ _))); intro v398 w11 ho12 hb hg_ hnew_; clear hg_ hnew_; (first | rw [← Ny397.out] at ho12 | (simp only [Int.reduceToNat] at ho12; rw [← Ny397.out] at ho12)); have n0_ := Aside0.mk (Kd.R_lower ho12 (below_size hS_)); have n1_ := Aside0.mk (blk_below (g := gb394) (o := .cells #[.slice A0_0 l0_0.length c0_0, .int .i64 a0_1, .slice (some ad395) l0_2.length c0_2] 41 (0, 0)) fK394_ hb); have n2_ := Aside0.mk (blk_below (g := gb396) (o := .cells #[.int .i64 ((rd_T88 l0_2 a1).f2.f0), .int .i64 ((rd_T88 l0_2 a1).f2.f1), .int .i64 ((rd_T88 l0_2 a1).f2.f2), .int .i64 ((rd_T88 l0_2 a1).f2.f3)] 86 (0, 0)) (by (with_reducible repeat (first | refine blk_drewN ?_ _ | refine blk_drew ?_ | refine blk_alloc ?_ _)); refine blk_put (cs := #[.int .i64 ((rd_T88 l0_2 a1).f2.f0), .int .i64 ((rd_T88 l0_2 a1).f2.f1), .int .i64 ((rd_T88 l0_2 a1).f2.f2), .int .i64 0]) ?_ 3 _ rfl; (with_reducible repeat (first | refine blk_drewN ?_ _ | refine blk_drew ?_ | refine blk_alloc ?_ _)); refine blk_put (cs := #[.int .i64 ((rd_T88 l0_2 a1).f2.f0), .int .i64 ((rd_T88 l0_2 a1).f2.f1), .int .i64 0, .int .i64 0]) ?_ 2 _ rfl; (with_reducible repeat (first | refine blk_drewN ?_ _ | refine blk_drew ?_ | refine blk_alloc ?_ _)); refine blk_put (cs := #[.int .i64 ((rd_T88 l0_2 a1).f2.f0), .int .i64 0, .int .i64 0, .int .i64 0]) ?_ 1 _ rfl; (with_reducible repeat (first | refine blk_drewN ?_ _ | refine blk_drew ?_ | refine blk_alloc ?_ _)); refine blk_put (cs := #[.int .i64 0, .int .i64 0, .int .i64 0, .int .i64 0]) ?_ 0 _ rfl; (with_reducible repeat (first | refine blk_drewN ?_ _ | refine blk_drew ?_ | refine blk_alloc ?_ _)); exact BK396.out) hb); have n3_ := Aside0.mk (below_step hS_ hb); clear BK394; clear BK396; clear HB; have HO399 := n0_; have BK394 := n1_; have BK396 := n2_; have HB := n3_; clear n0_ n1_ n2_ n3_; clear hb ho12))
    go_ret
    exact ⟨_, rG_, rHO399_, hS_⟩
   ·rw [if_neg c5] at H
    have c5b0 : (((rd_T88 l0_2 a1).f2.f0) == 2) = false := beq_eq_false_iff_ne.mpr c5
    have c5b1 : (((rd_T88 l0_2 a1).f2.f0) != 2) = true := bne_iff_ne.mpr c5
    by_cases c13 : ((rd_T88 l0_2 a1).f2.f0) = 3
    ·rw [if_pos c13] at H
     have c13b0 : (((rd_T88 l0_2 a1).f2.f0) == 3) = true := beq_iff_eq.mpr c13
     have c13b1 : (((rd_T88 l0_2 a1).f2.f0) != 3) = false := bne_eq_false_iff_eq.mpr c13
     clear c13
     obtain ⟨y400, hy400⟩ : ∃ y_ : List Int, y_ = (([(rd_T88 l0_2 a1).f2.f2, (rd_T88 l0_2 a1).f2.f3] : List Int)) := ⟨_, rfl⟩
     replace H : (some y400) = some r := by first | (rw [hy400]; with_reducible exact H) | (have H2_ := (Option.bind_some _ _).symm.trans H; rw [hy400]; with_reducible exact H2_) | (have H2_ := (Option.bind_some _ _).symm.trans H; with_reducible exact H2_) | with_reducible exact H | (rw [hy400]; exact H) | exact H
     have Ny400 := Aside0.mk hy400
     clear hy400
     obtain rfl := Option.some.inj H
     go_enter Try.func104, Try.ntmps104
     go_wp2_with (first | ((with_reducible refine gate_dst (N := 2) rfl ?_); refine box_event ?hg (N := 2) ?hd (cs := #[.slice A0_0 l0_0.length c0_0, .int .i64 a0_1, .slice A0_2 l0_2.length c0_2]) (t := 41) ?hr ?_; (case hd => rfl); (case hg => rfl); (case hr => first | (go_simp; done) | (go_simp; rfl)); intro gb394 hg w14 hbox hb; have n0_ := Aside0.mk (below_step hB_ hb); have n1_ := Aside0.mk (hbox); have n2_ := Aside0.mk ((sz_ hg (below_size hB_) : w.heap.size ≤ gb394)); have n3_ := Aside0.mk ((sz_ hg (below_size hB_) : w.heap.size ≤ gb394)); clear HB; have HB := n0_; have BK394 := n1_; have GW394 := n2_; have GE394 := n3_; clear n0_ n1_ n2_ n3_; clear hb hbox hg; obtain ⟨hcz15_0, hcz15_1, hcz15_2, hfz15_0, hfz15_1, hfz15_2⟩ := blkc3_ BK394.out; have p395 : 0 ≤ (a1 : Int) := oD_; have q395 : a1 < (l0_2.length : Int) := oD_; obtain ⟨ad395, A395_0, c395_0, A395_1, c395_1, e395, hx395_0, hx395_1, hx395_2, hx395_3, hx395_4, hx395_5, hl395_0, hi395_0, hl395_1, hi395_1⟩ := at_T88 HR0_2.out a1 p395 q395; cases e395; replace hx395_0 := hx_ HB.out hx395_0; replace hx395_1 := hx_ HB.out hx395_1; replace hx395_2 := hx_ HB.out hx395_2; replace hx395_3 := hx_ HB.out hx395_3; replace hx395_4 := hx_ HB.out hx395_4; replace hx395_5 := hx_ HB.out hx395_5; have HR395_0 := Aside0.mk hi395_0; have HC395_0 := Aside0.mk hl395_0; clear hi395_0 hl395_0; have HR395_1 := Aside0.mk hi395_1; have HC395_1 := Aside0.mk hl395_1; clear hi395_1 hl395_1; replace p395 := eq_true p395; replace q395 := eq_true q395) | ((with_reducible refine gate_dst (N := 5) rfl ?_); refine box_event ?hg (N := 5) ?hd (cs := #[.int .i64 0, .int .i64 0, .int .i64 0, .int .i64 0]) (t := 86) ?hr ?_; (case hd => rfl); (case hg => rfl); (case hr => first | (go_simp; done) | (go_simp; rfl)); intro gb396 hg w16 hbox hb; have n0_ := Aside0.mk (blk_below (g := gb394) (o := .cells #[.slice A0_0 l0_0.length c0_0, .int .i64 a0_1, .slice (some ad395) l0_2.length c0_2] 41 (0, 0)) bK394_ hb); have n1_ := Aside0.mk (below_step hS_ hb); have n2_ := Aside0.mk (hbox); have n3_ := Aside0.mk ((sz_ hg (below_size hS_) : w.heap.size ≤ gb396)); have n4_ := Aside0.mk ((sz_ hg (below_size hS_) : w.heap.size ≤ gb396)); have n5_ := Aside0.mk ((by rw [hg]; exact Nat.ne_of_lt (blk_lt (g := gb394) (o := .cells #[.slice A0_0 l0_0.length c0_0, .int .i64 a0_1, .slice (some ad395) l0_2.length c0_2] 41 (0, 0)) bK394_) : gb394 ≠ gb396)); have n6_ := Aside0.mk ((by rw [hg]; exact Nat.ne_of_gt (blk_lt (g := gb394) (o := .cells #[.slice A0_0 l0_0.length c0_0, .int .i64 a0_1, .slice (some ad395) l0_2.length c0_2] 41 (0, 0)) bK394_) : gb396 ≠ gb394)); clear BK394; clear HB; have BK394 := n0_; have HB := n1_; have BK396 := n2_; have GW396 := n3_; have GE396 := n4_; have NB394_396 := n5_; have NB396_394 := n6_; clear n0_ n1_ n2_ n3_ n4_ n5_ n6_; clear hb hbox hg; have hnb17 := NB396_394.out; have hnc17 := NB394_396.out; obtain ⟨hcz18_0, hcz18_1, hcz18_2, hcz18_3, hfz18_0, hfz18_1, hfz18_2, hfz18_3⟩ := blkc4_ BK396.out) | ((with_reducible refine gate_dst (N := 25) rfl ?_); refine Kd.R_lit (Kd.int .i64) _ 2 ?hg (N := 25) ?hd (xs := ([(rd_T88 l0_2 a1).f2.f2, (rd_T88 l0_2 a1).f2.f3] : List Int)) (inner := [.int .i64 ((rd_T88 l0_2 a1).f2.f2), .int .i64 ((rd_T88 l0_2 a1).f2.f3)]) (ok := fun _ => True) (okp := fun _ => True) ?hr ?hp (fun _ hk => hk) trivial (Below.refl _ _) (Nat.le_refl _) (by simp) ?_; (case hd => rfl); (case hg => rfl); (case hr => first | (go_simp; done) | (go_simp; rfl)); (case hp => exact (Reps.one (show Kd.M (Kd.int .i64) _ _ _ ((rd_T88 l0_2 a1).f2.f2) [.int .i64 ((rd_T88 l0_2 a1).f2.f2)] from rfl) (Reps.one (show Kd.M (Kd.int .i64) _ _ _ ((rd_T88 l0_2 a1).f2.f3) [.int .i64 ((rd_T88 l0_2 a1).f2.f3)] from rfl) (Reps.none _ _)))); intro v401 w19 ho20 hb hg_ hnew_; clear hg_ hnew_; (first | rw [← Ny400.out] at ho20 | (simp only [Int.reduceToNat] at ho20; rw [← Ny400.out] at ho20)); have n0_ := Aside0.mk (Kd.R_lower ho20 (below_size hS_)); have n1_ := Aside0.mk (blk_below (g := gb394) (o := .cells #[.slice A0_0 l0_0.length c0_0, .int .i64 a0_1, .slice (some ad395) l0_2.length c0_2] 41 (0, 0)) fK394_ hb); have n2_ := Aside0.mk (blk_below (g := gb396) (o := .cells #[.int .i64 ((rd_T88 l0_2 a1).f2.f0), .int .i64 ((rd_T88 l0_2 a1).f2.f1), .int .i64 ((rd_T88 l0_2 a1).f2.f2), .int .i64 ((rd_T88 l0_2 a1).f2.f3)] 86 (0, 0)) (by (with_reducible repeat (first | refine blk_drewN ?_ _ | refine blk_drew ?_ | refine blk_alloc ?_ _)); refine blk_put (cs := #[.int .i64 ((rd_T88 l0_2 a1).f2.f0), .int .i64 ((rd_T88 l0_2 a1).f2.f1), .int .i64 ((rd_T88 l0_2 a1).f2.f2), .int .i64 0]) ?_ 3 _ rfl; (with_reducible repeat (first | refine blk_drewN ?_ _ | refine blk_drew ?_ | refine blk_alloc ?_ _)); refine blk_put (cs := #[.int .i64 ((rd_T88 l0_2 a1).f2.f0), .int .i64 ((rd_T88 l0_2 a1).f2.f1), .int .i64 0, .int .i64 0]) ?_ 2 _ rfl; (with_reducible repeat (first | refine blk_drewN ?_ _ | refine blk_drew ?_ | refine blk_alloc ?_ _)); refine blk_put (cs := #[.int .i64 ((rd_T88 l0_2 a1).f2.f0), .int .i64 0, .int .i64 0, .int .i64 0]) ?_ 1 _ rfl; (with_reducible repeat (first | refine blk_drewN ?_ _ | refine blk_drew ?_ | refine blk_alloc ?_ _)); refine blk_put (cs := #[.int .i64 0, .int .i64 0, .int .i64 0, .int .i64 0]) ?_ 0 _ rfl; (with_reducible repeat (first | refine blk_drewN ?_ _ | refine blk_drew ?_ | refine blk_alloc ?_ _)); exact BK396.out) hb); have n3_ := Aside0.mk (below_step hS_ hb); clear BK394; clear BK396; clear HB; have HO402 := n0_; have BK394 := n1_; have BK396 := n2_; have HB := n3_; clear n0_ n1_ n2_ n3_; clear hb ho20))
     go_ret
     exact ⟨_, rG_, rHO402_, hS_⟩
    ·rw [if_neg c13] at H
     have c13b0 : (((rd_T88 l0_2 a1).f2.f0) == 3) = false := beq_eq_false_iff_ne.mpr c13
     have c13b1 : (((rd_T88 l0_2 a1).f2.f0) != 3) = true := bne_iff_ne.mpr c13
     obtain ⟨y403, hy403⟩ : ∃ y_ : List Int, y_ = (([] : List Int)) := ⟨_, rfl⟩
     replace H : (some y403) = some r := by first | (rw [hy403]; with_reducible exact H) | (have H2_ := (Option.bind_some _ _).symm.trans H; rw [hy403]; with_reducible exact H2_) | (have H2_ := (Option.bind_some _ _).symm.trans H; with_reducible exact H2_) | with_reducible exact H | (rw [hy403]; exact H) | exact H
     have Ny403 := Aside0.mk hy403
     clear hy403
     obtain rfl := Option.some.inj H
     go_enter Try.func104, Try.ntmps104
     go_wp2_with (first | ((with_reducible refine gate_dst (N := 2) rfl ?_); refine box_event ?hg (N := 2) ?hd (cs := #[.slice A0_0 l0_0.length c0_0, .int .i64 a0_1, .slice A0_2 l0_2.length c0_2]) (t := 41) ?hr ?_; (case hd => rfl); (case hg => rfl); (case hr => first | (go_simp; done) | (go_simp; rfl)); intro gb394 hg w21 hbox hb; have n0_ := Aside0.mk (below_step hB_ hb); have n1_ := Aside0.mk (hbox); have n2_ := Aside0.mk ((sz_ hg (below_size hB_) : w.heap.size ≤ gb394)); have n3_ := Aside0.mk ((sz_ hg (below_size hB_) : w.heap.size ≤ gb394)); clear HB; have HB := n0_; have BK394 := n1_; have GW394 := n2_; have GE394 := n3_; clear n0_ n1_ n2_ n3_; clear hb hbox hg; obtain ⟨hcz22_0, hcz22_1, hcz22_2, hfz22_0, hfz22_1, hfz22_2⟩ := blkc3_ BK394.out; have p395 : 0 ≤ (a1 : Int) := oD_; have q395 : a1 < (l0_2.length : Int) := oD_; obtain ⟨ad395, A395_0, c395_0, A395_1, c395_1, e395, hx395_0, hx395_1, hx395_2, hx395_3, hx395_4, hx395_5, hl395_0, hi395_0, hl395_1, hi395_1⟩ := at_T88 HR0_2.out a1 p395 q395; cases e395; replace hx395_0 := hx_ HB.out hx395_0; replace hx395_1 := hx_ HB.out hx395_1; replace hx395_2 := hx_ HB.out hx395_2; replace hx395_3 := hx_ HB.out hx395_3; replace hx395_4 := hx_ HB.out hx395_4; replace hx395_5 := hx_ HB.out hx395_5; have HR395_0 := Aside0.mk hi395_0; have HC395_0 := Aside0.mk hl395_0; clear hi395_0 hl395_0; have HR395_1 := Aside0.mk hi395_1; have HC395_1 := Aside0.mk hl395_1; clear hi395_1 hl395_1; replace p395 := eq_true p395; replace q395 := eq_true q395) | ((with_reducible refine gate_dst (N := 5) rfl ?_); refine box_event ?hg (N := 5) ?hd (cs := #[.int .i64 0, .int .i64 0, .int .i64 0, .int .i64 0]) (t := 86) ?hr ?_; (case hd => rfl); (case hg => rfl); (case hr => first | (go_simp; done) | (go_simp; rfl)); intro gb396 hg w23 hbox hb; have n0_ := Aside0.mk (blk_below (g := gb394) (o := .cells #[.slice A0_0 l0_0.length c0_0, .int .i64 a0_1, .slice (some ad395) l0_2.length c0_2] 41 (0, 0)) bK394_ hb); have n1_ := Aside0.mk (below_step hS_ hb); have n2_ := Aside0.mk (hbox); have n3_ := Aside0.mk ((sz_ hg (below_size hS_) : w.heap.size ≤ gb396)); have n4_ := Aside0.mk ((sz_ hg (below_size hS_) : w.heap.size ≤ gb396)); have n5_ := Aside0.mk ((by rw [hg]; exact Nat.ne_of_lt (blk_lt (g := gb394) (o := .cells #[.slice A0_0 l0_0.length c0_0, .int .i64 a0_1, .slice (some ad395) l0_2.length c0_2] 41 (0, 0)) bK394_) : gb394 ≠ gb396)); have n6_ := Aside0.mk ((by rw [hg]; exact Nat.ne_of_gt (blk_lt (g := gb394) (o := .cells #[.slice A0_0 l0_0.length c0_0, .int .i64 a0_1, .slice (some ad395) l0_2.length c0_2] 41 (0, 0)) bK394_) : gb396 ≠ gb394)); clear BK394; clear HB; have BK394 := n0_; have HB := n1_; have BK396 := n2_; have GW396 := n3_; have GE396 := n4_; have NB394_396 := n5_; have NB396_394 := n6_; clear n0_ n1_ n2_ n3_ n4_ n5_ n6_; clear hb hbox hg; have hnb24 := NB396_394.out; have hnc24 := NB394_396.out; obtain ⟨hcz25_0, hcz25_1, hcz25_2, hcz25_3, hfz25_0, hfz25_1, hfz25_2, hfz25_3⟩ := blkc4_ BK396.out) | ((with_reducible refine gate_dst (N := 26) rfl ?_); refine Kd.R_lit (Kd.int .i64) _ 2 ?hg (N := 26) ?hd (xs := ([] : List Int)) (inner := []) (ok := fun _ => True) (okp := fun _ => True) ?hr ?hp (fun _ hk => hk) trivial (Below.refl _ _) (Nat.le_refl _) (by simp) ?_; (case hd => rfl); (case hg => rfl); (case hr => first | (go_simp; done) | (go_simp; rfl)); (case hp => exact (Reps.none _ _)); intro v404 w26 ho27 hb hg_ hnew_; clear hg_ hnew_; (first | rw [← Ny403.out] at ho27 | (simp only [Int.reduceToNat] at ho27; rw [← Ny403.out] at ho27)); have n0_ := Aside0.mk (Kd.R_lower ho27 (below_size hS_)); have n1_ := Aside0.mk (blk_below (g := gb394) (o := .cells #[.slice A0_0 l0_0.length c0_0, .int .i64 a0_1, .slice (some ad395) l0_2.length c0_2] 41 (0, 0)) fK394_ hb); have n2_ := Aside0.mk (blk_below (g := gb396) (o := .cells #[.int .i64 ((rd_T88 l0_2 a1).f2.f0), .int .i64 ((rd_T88 l0_2 a1).f2.f1), .int .i64 ((rd_T88 l0_2 a1).f2.f2), .int .i64 ((rd_T88 l0_2 a1).f2.f3)] 86 (0, 0)) (by (with_reducible repeat (first | refine blk_drewN ?_ _ | refine blk_drew ?_ | refine blk_alloc ?_ _)); refine blk_put (cs := #[.int .i64 ((rd_T88 l0_2 a1).f2.f0), .int .i64 ((rd_T88 l0_2 a1).f2.f1), .int .i64 ((rd_T88 l0_2 a1).f2.f2), .int .i64 0]) ?_ 3 _ rfl; (with_reducible repeat (first | refine blk_drewN ?_ _ | refine blk_drew ?_ | refine blk_alloc ?_ _)); refine blk_put (cs := #[.int .i64 ((rd_T88 l0_2 a1).f2.f0), .int .i64 ((rd_T88 l0_2 a1).f2.f1), .int .i64 0, .int .i64 0]) ?_ 2 _ rfl; (with_reducible repeat (first | refine blk_drewN ?_ _ | refine blk_drew ?_ | refine blk_alloc ?_ _)); refine blk_put (cs := #[.int .i64 ((rd_T88 l0_2 a1).f2.f0), .int .i64 0, .int .i64 0, .int .i64 0]) ?_ 1 _ rfl; (with_reducible repeat (first | refine blk_drewN ?_ _ | refine blk_drew ?_ | refine blk_alloc ?_ _)); refine blk_put (cs := #[.int .i64 0, .int .i64 0, .int .i64 0, .int .i64 0]) ?_ 0 _ rfl; (with_reducible repeat (first | refine blk_drewN ?_ _ | refine blk_drew ?_ | refine blk_alloc ?_ _)); exact BK396.out) hb); have n3_ := Aside0.mk (below_step hS_ hb); clear BK394; clear BK396; clear HB; have HO405 := n0_; have BK394 := n1_; have BK396 := n2_; have HB := n3_; clear n0_ n1_ n2_ n3_; clear hb ho27))
     go_ret
     exact ⟨_, rG_, rHO405_, hS_⟩
  ·rw [if_neg c4] at H
   exact absurd H (by simp)
 ·rw [if_neg c3] at H
  exact absurd H (by simp)
/-! ### spec_l3There: function 71 -/
mutual
def spec_l3There.l0 : Nat → Int → Int → Int → List Int → Int → List (S88) → Option (Bool)
 | 0, _, _, _, _, _, _ => none
 | k + 1, x1, x5, x6, x407000, x407001, x407002 => if x6 < x5 then ((spec_l3Succs.f x407000 x407001 x407002 x6).bind fun t408 => (spec_l3There.l1 k x1 x5 x6 t408 0 x407000 x407001 x407002)) else ((spec_l1In.f x1 0 (wrap64 (x5 - 1))).bind fun t407 => (if t407 = true then (some (decide (x5 ≤ 10))) else (some false)))
def spec_l3There.l1 : Nat → Int → Int → Int → List Int → Int → List Int → Int → List (S88) → Option (Bool)
 | 0, _, _, _, _, _, _, _, _ => none
 | k + 1, x1, x5, x6, x7, x8, x407000, x407001, x407002 => if x8 < (x7.length : Int) then (if 0 ≤ x8 then ((spec_l1In.f (rd x7 x8) 0 (wrap64 (x5 - 1))).bind fun t412 => (if t412 = true then (spec_l3There.l1 k x1 x5 x6 x7 (wrap64 (x8 + 1)) x407000 x407001 x407002) else (some false))) else (none)) else (spec_l3There.l0 k x1 x5 (wrap64 (x6 + 1)) x407000 x407001 x407002)
end
def spec_l3There.f (k : Nat) (l0_0 : List Int) (a0_1 : Int) (l0_2 : List (S88)) (a1 : Int) : Option (Bool) := spec_l3There.l0 k a1 (l0_2.length : Int) 0 l0_0 a0_1 l0_2
theorem spec_l3There.mono_l : ∀ k, (∀ y0 y1 y2 y3 y4 y5, LeO (spec_l3There.l0 k y0 y1 y2 y3 y4 y5) (spec_l3There.l0 (k + 1) y0 y1 y2 y3 y4 y5)) ∧ (∀ y0 y1 y2 y3 y4 y5 y6 y7, LeO (spec_l3There.l1 k y0 y1 y2 y3 y4 y5 y6 y7) (spec_l3There.l1 (k + 1) y0 y1 y2 y3 y4 y5 y6 y7))
 | 0 => ⟨fun _ _ _ _ _ _ r h => by simp [spec_l3There.l0] at h, fun _ _ _ _ _ _ _ _ r h => by simp [spec_l3There.l1] at h⟩
 | k + 1 => by
  obtain ⟨ih0, ih1⟩ := spec_l3There.mono_l k
  refine ⟨?_, ?_⟩
  ·intro y0 y1 y2 y3 y4 y5
   unfold spec_l3There.l0
   repeat' first
   | (with_reducible exact ih0 _ _ _ _ _ _)
   | (with_reducible exact ih1 _ _ _ _ _ _ _ _)
   | (with_reducible exact LeO.refl _)
   | (with_reducible exact LeO.none _)
   | (with_reducible refine LeO.ite ?_ ?_)
   | (with_reducible refine LeO.bind ?_ (fun _ => ?_))
   | exact ih0 _ _ _ _ _ _
   | exact ih1 _ _ _ _ _ _ _ _
   | exact LeO.none _
   | refine LeO.ite ?_ ?_
   | refine LeO.bind ?_ (fun _ => ?_)
  ·intro y0 y1 y2 y3 y4 y5 y6 y7
   unfold spec_l3There.l1
   repeat' first
   | (with_reducible exact ih0 _ _ _ _ _ _)
   | (with_reducible exact ih1 _ _ _ _ _ _ _ _)
   | (with_reducible exact LeO.refl _)
   | (with_reducible exact LeO.none _)
   | (with_reducible refine LeO.ite ?_ ?_)
   | (with_reducible refine LeO.bind ?_ (fun _ => ?_))
   | exact ih0 _ _ _ _ _ _
   | exact ih1 _ _ _ _ _ _ _ _
   | exact LeO.none _
   | refine LeO.ite ?_ ?_
   | refine LeO.bind ?_ (fun _ => ?_)
theorem spec_l3There.mono : ∀ a0 a1 a2 a3 k, LeO (spec_l3There.f k a0 a1 a2 a3) (spec_l3There.f (k + 1) a0 a1 a2 a3) := by
 intro a0 a1 a2 a3 k
 obtain ⟨ih0, ih1⟩ := spec_l3There.mono_l k
 unfold spec_l3There.f
 repeat' first
   | (with_reducible exact ih0 _ _ _ _ _ _)
   | (with_reducible exact ih1 _ _ _ _ _ _ _ _)
   | (with_reducible exact LeO.refl _)
   | (with_reducible exact LeO.none _)
   | (with_reducible refine LeO.ite ?_ ?_)
   | (with_reducible refine LeO.bind ?_ (fun _ => ?_))
   | exact ih0 _ _ _ _ _ _
   | exact ih1 _ _ _ _ _ _ _ _
   | exact LeO.none _
   | refine LeO.ite ?_ ?_
   | refine LeO.bind ?_ (fun _ => ?_)
set_option maxHeartbeats 8000000 in
set_option maxRecDepth 100000 in
theorem spec_l3There.calls (k : Nat) (A0_0 : Option Addr) (c0_0 : Nat) (l0_0 : List Int) (a0_1 : Int) (A0_2 : Option Addr) (c0_2 : Nat) (l0_2 : List (S88)) (a1 : Int) (r : Bool) (w : World) (hr0_0 : Kd.C (Kd.int .i64) w A0_0 l0_0.length l0_0) (hc0_0 : l0_0.length ≤ c0_0) (hr0_2 : Kd.C k88 w A0_2 l0_2.length l0_2) (hc0_2 : l0_2.length ≤ c0_2) (h : spec_l3There.f k l0_0 a0_1 l0_2 a1 = some r) :
  Calls Try.prog 71 #[.agg #[.slice A0_0 l0_0.length c0_0, .int .i64 a0_1, .slice A0_2 l0_2.length c0_2], .int .i64 a1] w fun e w' => e = .returned (.bool r) ∧ Below w.heap.size w w' := by
 have hu41 := Try.underlying41
 have HR0_0 := Aside0.mk hr0_0
 have HC0_0 := Aside0.mk hc0_0
 clear hr0_0 hc0_0
 have HR0_2 := Aside0.mk hr0_2
 have HC0_2 := Aside0.mk hc0_2
 clear hr0_2 hc0_2
 have HB := Aside0.mk (Below.refl w.heap.size w)
 have H : (spec_l3There.l0 k a1 (l0_2.length : Int) 0 l0_0 a0_1 l0_2) = some r := h
 clear h
 have H' := Aside0.mk H
 clear H
 go_enter Try.func71, Try.ntmps71
 go_wp2_with (first | ((with_reducible refine gate_dst (N := 2) rfl ?_); refine box_event ?hg (N := 2) ?hd (cs := #[.slice A0_0 l0_0.length c0_0, .int .i64 a0_1, .slice A0_2 l0_2.length c0_2]) (t := 41) ?hr ?_; (case hd => rfl); (case hg => rfl); (case hr => first | (go_simp; done) | (go_simp; rfl)); intro gb406 hg w3 hbox hb; have n0_ := Aside0.mk (below_step hB_ hb); have n1_ := Aside0.mk (hbox); have n2_ := Aside0.mk ((sz_ hg (below_size hB_) : w.heap.size ≤ gb406)); have n3_ := Aside0.mk ((sz_ hg (below_size hB_) : w.heap.size ≤ gb406)); clear HB; have HB := n0_; have BK406 := n1_; have GW406 := n2_; have GE406 := n3_; clear n0_ n1_ n2_ n3_; clear hb hbox hg; obtain ⟨hcz4_0, hcz4_1, hcz4_2, hfz4_0, hfz4_1, hfz4_2⟩ := blkc3_ BK406.out))
 go_loopg [6] k (fun kq v6 w' => ∃ (x6_1 : Int), v6 = .int .i64 x6_1 ∧ Aside0 (spec_l3There.l0 kq a1 (l0_2.length : Int) x6_1 l0_0 a0_1 l0_2 = some r) ∧ Aside0 (kq ≤ k) ∧ Aside0 (w'.heap[gb406]? = some (.cells #[(.slice A0_0 l0_0.length c0_0), .int .i64 a0_1, (.slice A0_2 l0_2.length c0_2)] 41 (0, 0))) ∧ Aside0 (Below w.heap.size w w'))
 case atStart => exact ⟨(0), rF_, H', ⟨Nat.le_refl _⟩, ⟨bK406_⟩, ⟨hS_⟩⟩
 case round =>
  clear H'
  try clear p2
  try clear hcz4_0 hcz4_1 hcz4_2 hfz4_0 hfz4_1 hfz4_2
  obtain ⟨x6_1, rfl, HA, HK1, BK406, HB⟩ := hrel
  cases gk with
  | zero => exact absurd HA.out (by simp [spec_l3There.l0])
  | succ k1 =>
   have H := HA.out
   clear HA
   simp only [spec_l3There.l0] at H
   by_cases c5 : x6_1 < (l0_2.length : Int)
   ·rw [if_pos c5] at H
    have c5b0 : decide (x6_1 < (l0_2.length : Int)) = true := decide_eq_true c5
    clear c5
    replace H := Option.bind_eq_some_iff.mp H
    obtain ⟨t408, A60, H⟩ := H
    replace H : (spec_l3There.l1 k1 a1 (l0_2.length : Int) x6_1 t408 0 l0_0 a0_1 l0_2) = some r := H
    have A6 := Aside0.mk A60
    clear A60
    have H' := Aside0.mk H
    clear H
    obtain ⟨hcz7_0, hcz7_1, hcz7_2, hfz7_0, hfz7_1, hfz7_2⟩ := blkc3_ BK406.out
    go_wp2_with (first | ((with_reducible refine gate_callee (f := 104) rfl ?_); refine gL_ (some 19) Try.func104 #[.agg #[.slice A0_0 l0_0.length c0_0, .int .i64 a0_1, .slice A0_2 l0_2.length c0_2], .int .i64 x6_1] ?_; (with_reducible refine (spec_l3Succs.calls _ _ l0_0 a0_1 _ _ l0_2 x6_1 t408 _ ?side1 ?side2 ?side3 ?side4 A6.out).mono ?_); (case side1 => exact cHR0_0_); (case side2 => exact HC0_0.out); (case side3 => exact cHR0_2_); (case side4 => exact HC0_2.out); rintro e w8 ⟨v409, rfl, ho0, hb⟩; refine ⟨_, rfl, ?_⟩; have n0_ := Aside0.mk (Kd.R_lower ho0 (below_size hS_)); have n1_ := Aside0.mk (blk_below (g := gb406) (o := .cells #[.slice A0_0 l0_0.length c0_0, .int .i64 a0_1, .slice A0_2 l0_2.length c0_2] 41 (0, 0)) bK406_ hb); have n2_ := Aside0.mk (below_step hS_ hb); clear BK406; clear HB; have HO410 := n0_; have BK406 := n1_; have HB := n2_; clear n0_ n1_ n2_; (try clear hb); (try clear hb2); (try clear hk); (try clear hi); (try clear ho0)))
    go_loopg [8] k1 (fun kq v8 w' => ∃ (x8_2 : Int), v8 = .int .i64 x8_2 ∧ Aside0 (spec_l3There.l1 kq a1 (l0_2.length : Int) x6_1 t408 x8_2 l0_0 a0_1 l0_2 = some r) ∧ Aside0 (kq ≤ k1) ∧ Aside0 (Kd.R (Kd.int .i64) 2 w' w.heap.size (fun _ => True) v409 t408) ∧ Aside0 (w'.heap[gb406]? = some (.cells #[(.slice A0_0 l0_0.length c0_0), .int .i64 a0_1, (.slice A0_2 l0_2.length c0_2)] 41 (0, 0))) ∧ Aside0 (Below w.heap.size w w'))
    case atStart => exact ⟨(0), rF_, H', ⟨Nat.le_refl _⟩, ⟨rHO410_⟩, ⟨bK406_⟩, ⟨hS_⟩⟩
    case round =>
     clear H'
     try clear c1
     try clear p2
     try clear c5
     try clear c5b0
     try clear c7
     try clear hcz4_0 hcz4_1 hcz4_2 hfz4_0 hfz4_1 hfz4_2
     try clear hcz7_0 hcz7_1 hcz7_2 hfz7_0 hfz7_1 hfz7_2
     try clear p2
     obtain ⟨x8_2, rfl, HA, HK2, HO_7, BK406, HB⟩ := hrel
     cases gk with
     | zero => exact absurd HA.out (by simp [spec_l3There.l1])
     | succ k2 =>
      have H := HA.out
      clear HA
      simp only [spec_l3There.l1] at H
      by_cases c9 : x8_2 < (t408.length : Int)
      ·rw [if_pos c9] at H
       have c9b0 : decide (x8_2 < (t408.length : Int)) = true := decide_eq_true c9
       clear c9
       by_cases c10 : 0 ≤ x8_2
       ·rw [if_pos c10] at H
        have c10b0 : decide (0 ≤ x8_2) = true := decide_eq_true c10
        clear c10
        replace H := Option.bind_eq_some_iff.mp H
        obtain ⟨t412, A110, H⟩ := H
        replace H : (if t412 = true then (spec_l3There.l1 k2 a1 (l0_2.length : Int) x6_1 t408 (wrap64 (x8_2 + 1)) l0_0 a0_1 l0_2) else (some false)) = some r := H
        have A11 := Aside0.mk A110
        clear A110
        by_cases c12 : t412 = true
        ·subst c12
         have H1 := (if_pos rfl).symm.trans H
         clear H
         have H := H1
         clear H1
         have H' := Aside0.mk H
         clear H
         obtain ⟨Ao13, co13, eo13⟩ := Kd.R_slice HO_7.out
         subst eo13
         have p411 : 0 ≤ (x8_2 : Int) := oD_
         have q411 : x8_2 < (t408.length : Int) := oD_
         obtain ⟨ad411, e411, hx411_0⟩ := Kd.at_int (Kd.R_reads' HO_7.out).2.2 x8_2 p411 q411
         cases e411
         replace p411 := eq_true p411
         replace q411 := eq_true q411
         go_wp2_with (first | ((with_reducible refine gate_callee (f := 57) rfl ?_); refine gL_ (some 32) Try.func57 #[.int .i64 (rd t408 x8_2), .int .i64 0, .int .i64 (wrap64 ((l0_2.length : Int) - 1))] ?_; (with_reducible refine (spec_l1In.calls (rd t408 x8_2) 0 (wrap64 ((l0_2.length : Int) - 1)) true _ A11.out).mono ?_); rintro e w' ⟨rfl, ⟨nd, rfl⟩⟩; refine ⟨_, rfl, ?_⟩))
         go_roundg k2
         case measure => have := HK1.out; have := HK2.out; omega
         case rel => exact ⟨(wrap64 (x8_2 + 1)), rF_, H', ⟨by have := HK1.out; have := HK2.out; omega⟩, ⟨rHO_7_⟩, ⟨bK406_⟩, ⟨hS_⟩⟩
        ·replace c12 := Bool.eq_false_iff.mpr c12
         subst c12
         have H1 := (if_neg (show ¬ (false = true) by decide)).symm.trans H
         clear H
         have H := H1
         clear H1
         obtain rfl := Option.some.inj H
         obtain ⟨Ao14, co14, eo14⟩ := Kd.R_slice HO_7.out
         subst eo14
         have p411 : 0 ≤ (x8_2 : Int) := oD_
         have q411 : x8_2 < (t408.length : Int) := oD_
         obtain ⟨ad411, e411, hx411_0⟩ := Kd.at_int (Kd.R_reads' HO_7.out).2.2 x8_2 p411 q411
         cases e411
         replace p411 := eq_true p411
         replace q411 := eq_true q411
         go_wp2_with (first | ((with_reducible refine gate_callee (f := 57) rfl ?_); refine gL_ (some 32) Try.func57 #[.int .i64 (rd t408 x8_2), .int .i64 0, .int .i64 (wrap64 ((l0_2.length : Int) - 1))] ?_; (with_reducible refine (spec_l1In.calls (rd t408 x8_2) 0 (wrap64 ((l0_2.length : Int) - 1)) false _ A11.out).mono ?_); rintro e w' ⟨rfl, ⟨nd, rfl⟩⟩; refine ⟨_, rfl, ?_⟩))
         go_ret
         exact ⟨rG_, hS_⟩
       ·rw [if_neg c10] at H
        exact absurd H (by simp)
      ·rw [if_neg c9] at H
       have c9b0 : decide (x8_2 < (t408.length : Int)) = false := decide_eq_false c9
       clear c9
       have H' := Aside0.mk H
       clear H
       obtain ⟨Ao15, co15, eo15⟩ := Kd.R_slice HO_7.out
       subst eo15
       go_wp2
       go_roundg k2
       case measure => have := HK1.out; have := HK2.out; omega
       case rel => exact ⟨(wrap64 (x6_1 + 1)), rF_, H', ⟨by have := HK1.out; have := HK2.out; omega⟩, ⟨bK406_⟩, ⟨hS_⟩⟩
   ·rw [if_neg c5] at H
    have c5b0 : decide (x6_1 < (l0_2.length : Int)) = false := decide_eq_false c5
    clear c5
    replace H := Option.bind_eq_some_iff.mp H
    obtain ⟨t407, A160, H⟩ := H
    replace H : (if t407 = true then (some (decide ((l0_2.length : Int) ≤ 10))) else (some false)) = some r := H
    have A16 := Aside0.mk A160
    clear A160
    by_cases c17 : t407 = true
    ·subst c17
     have H1 := (if_pos rfl).symm.trans H
     clear H
     have H := H1
     clear H1
     obtain rfl := Option.some.inj H
     go_wp2_with (first | ((with_reducible refine gate_callee (f := 57) rfl ?_); refine gL_ (some 37) Try.func57 #[.int .i64 a1, .int .i64 0, .int .i64 (wrap64 ((l0_2.length : Int) - 1))] ?_; (with_reducible refine (spec_l1In.calls a1 0 (wrap64 ((l0_2.length : Int) - 1)) true _ A16.out).mono ?_); rintro e w' ⟨rfl, ⟨nd, rfl⟩⟩; refine ⟨_, rfl, ?_⟩))
     go_ret
     exact ⟨rG_, hS_⟩
    ·replace c17 := Bool.eq_false_iff.mpr c17
     subst c17
     have H1 := (if_neg (show ¬ (false = true) by decide)).symm.trans H
     clear H
     have H := H1
     clear H1
     obtain rfl := Option.some.inj H
     go_wp2_with (first | ((with_reducible refine gate_callee (f := 57) rfl ?_); refine gL_ (some 37) Try.func57 #[.int .i64 a1, .int .i64 0, .int .i64 (wrap64 ((l0_2.length : Int) - 1))] ?_; (with_reducible refine (spec_l1In.calls a1 0 (wrap64 ((l0_2.length : Int) - 1)) false _ A16.out).mono ?_); rintro e w' ⟨rfl, ⟨nd, rfl⟩⟩; refine ⟨_, rfl, ?_⟩))
     go_ret
     exact ⟨rG_, hS_⟩
/-! ### spec_l1Has: function 105 -/
def spec_l1Has.l0 : Nat → List Int → Int → Int → Option (Bool)
 | 0, _, _, _ => none
 | k + 1, x0, x1, x5 => if x5 < (x0.length : Int) then (if 0 ≤ x5 then (if (rd x0 x5) = x1 then (some true) else (spec_l1Has.l0 k x0 x1 (wrap64 (x5 + 1)))) else (none)) else (some false)
def spec_l1Has.f (k : Nat) (l0 : List Int) (a1 : Int) : Option (Bool) := spec_l1Has.l0 k l0 a1 0
theorem spec_l1Has.mono_l : ∀ k, (∀ y0 y1 y2, LeO (spec_l1Has.l0 k y0 y1 y2) (spec_l1Has.l0 (k + 1) y0 y1 y2))
 | 0 => fun _ _ _ r h => by simp [spec_l1Has.l0] at h
 | k + 1 => by
  have ih0 := spec_l1Has.mono_l k
  ·intro y0 y1 y2
   unfold spec_l1Has.l0
   repeat' first
   | (with_reducible exact ih0 _ _ _)
   | (with_reducible exact LeO.refl _)
   | (with_reducible exact LeO.none _)
   | (with_reducible refine LeO.ite ?_ ?_)
   | (with_reducible refine LeO.bind ?_ (fun _ => ?_))
   | exact ih0 _ _ _
   | exact LeO.none _
   | refine LeO.ite ?_ ?_
   | refine LeO.bind ?_ (fun _ => ?_)
theorem spec_l1Has.mono : ∀ a0 a1 k, LeO (spec_l1Has.f k a0 a1) (spec_l1Has.f (k + 1) a0 a1) := by
 intro a0 a1 k
 have ih0 := spec_l1Has.mono_l k
 unfold spec_l1Has.f
 repeat' first
   | (with_reducible exact ih0 _ _ _)
   | (with_reducible exact LeO.refl _)
   | (with_reducible exact LeO.none _)
   | (with_reducible refine LeO.ite ?_ ?_)
   | (with_reducible refine LeO.bind ?_ (fun _ => ?_))
   | exact ih0 _ _ _
   | exact LeO.none _
   | refine LeO.ite ?_ ?_
   | refine LeO.bind ?_ (fun _ => ?_)
set_option maxHeartbeats 8000000 in
set_option maxRecDepth 100000 in
theorem spec_l1Has.calls (k : Nat) (A0 : Option Addr) (c0 : Nat) (l0 : List Int) (a1 : Int) (r : Bool) (w : World) (hr0 : Kd.C (Kd.int .i64) w A0 l0.length l0) (hc0 : l0.length ≤ c0) (h : spec_l1Has.f k l0 a1 = some r) :
  Calls Try.prog 105 #[.slice A0 l0.length c0, .int .i64 a1] w fun e w' => e = .returned (.bool r) ∧ Drawn0 w w' := by
 have HR0 := Aside0.mk hr0
 have HC0 := Aside0.mk hc0
 clear hr0 hc0
 have H : (spec_l1Has.l0 k l0 a1 0) = some r := h
 clear h
 have H' := Aside0.mk H
 clear H
 go_enter Try.func105, Try.ntmps105
 go_wp2
 go_loopg [5] k (fun kq v5 w' => ∃ (x5_1 : Int), v5 = .int .i64 x5_1 ∧ Aside0 (spec_l1Has.l0 kq l0 a1 x5_1 = some r) ∧ Aside0 (kq ≤ k) ∧ Drawn0 w w')
 case atStart => exact ⟨(0), rF_, H', ⟨Nat.le_refl _⟩, by repeat (first | exact Drawn0.refl _ | apply Drawn0.step)⟩
 case round =>
  clear H'
  try clear c1
  try clear p2
  obtain ⟨x5_1, rfl, HA, HK1, ⟨m1, rfl⟩⟩ := hrel
  cases gk with
  | zero => exact absurd HA.out (by simp [spec_l1Has.l0])
  | succ k1 =>
   have H := HA.out
   clear HA
   simp only [spec_l1Has.l0] at H
   by_cases c3 : x5_1 < (l0.length : Int)
   ·rw [if_pos c3] at H
    have c3b0 : decide (x5_1 < (l0.length : Int)) = true := decide_eq_true c3
    clear c3
    by_cases c4 : 0 ≤ x5_1
    ·rw [if_pos c4] at H
     have c4b0 : decide (0 ≤ x5_1) = true := decide_eq_true c4
     clear c4
     by_cases c5 : (rd l0 x5_1) = a1
     ·rw [if_pos c5] at H
      have c5b0 : ((rd l0 x5_1) == a1) = true := beq_iff_eq.mpr c5
      have c5b1 : ((rd l0 x5_1) != a1) = false := bne_eq_false_iff_eq.mpr c5
      clear c5
      obtain rfl := Option.some.inj H
      have p413 : 0 ≤ (x5_1 : Int) := oD_
      have q413 : x5_1 < (l0.length : Int) := oD_
      obtain ⟨ad413, e413, hx413_0⟩ := Kd.at_int HR0.out x5_1 p413 q413
      cases e413
      replace p413 := eq_true p413
      replace q413 := eq_true q413
      go_wp2
      go_ret
      exact ⟨rF_, by repeat (first | exact Drawn0.refl _ | apply Drawn0.step)⟩
     ·rw [if_neg c5] at H
      have c5b0 : ((rd l0 x5_1) == a1) = false := beq_eq_false_iff_ne.mpr c5
      have c5b1 : ((rd l0 x5_1) != a1) = true := bne_iff_ne.mpr c5
      have H' := Aside0.mk H
      clear H
      have p413 : 0 ≤ (x5_1 : Int) := oD_
      have q413 : x5_1 < (l0.length : Int) := oD_
      obtain ⟨ad413, e413, hx413_0⟩ := Kd.at_int HR0.out x5_1 p413 q413
      cases e413
      replace p413 := eq_true p413
      replace q413 := eq_true q413
      go_wp2
      go_roundg k1
      case measure => have := HK1.out; omega
      case rel => exact ⟨(wrap64 (x5_1 + 1)), rF_, H', ⟨by have := HK1.out; omega⟩, by repeat (first | exact Drawn0.refl _ | apply Drawn0.step)⟩
    ·rw [if_neg c4] at H
     exact absurd H (by simp)
   ·rw [if_neg c3] at H
    have c3b0 : decide (x5_1 < (l0.length : Int)) = false := decide_eq_false c3
    clear c3
    obtain rfl := Option.some.inj H
    go_wp2
    go_ret
    exact ⟨rF_, by repeat (first | exact Drawn0.refl _ | apply Drawn0.step)⟩
/-! ### spec_l1Put: function 112 -/
def spec_l1Put.l0 : Nat → List Int → Int → Int → Option (List Int)
 | 0, _, _, _ => none
 | k + 1, x0, x1, x5 => if x5 < (x0.length : Int) then (if 0 ≤ x5 then (if (rd x0 x5) < x1 then (spec_l1Put.l0 k x0 x1 (wrap64 (x5 + 1))) else (if (rd x0 x5) = x1 then (some x0) else ((some (([] : List Int) : List Int)).bind fun y416 => (if x5 ≤ (x0.length : Int) then ((some (x0.take (x5 : Int).toNat : List Int)).bind fun y419 => (if y416.length + y419.length < 17592186044416 then ((some (y416 ++ y419 : List Int)).bind fun y423 => (if y423.length < 17592186044416 then ((some (y423 ++ [x1] : List Int)).bind fun y426 => ((some (x0.drop (x5 : Int).toNat : List Int)).bind fun y429 => (if y426.length + y429.length < 17592186044416 then (some (y426 ++ y429)) else (none)))) else (none))) else (none))) else (none))))) else (none)) else ((some (([] : List Int) : List Int)).bind fun y436 => (if 0 ≤ x5 then (if x5 ≤ (x0.length : Int) then ((some (x0.take (x5 : Int).toNat : List Int)).bind fun y439 => (if y436.length + y439.length < 17592186044416 then ((some (y436 ++ y439 : List Int)).bind fun y443 => (if y443.length < 17592186044416 then ((some (y443 ++ [x1] : List Int)).bind fun y446 => ((some (x0.drop (x5 : Int).toNat : List Int)).bind fun y449 => (if y446.length + y449.length < 17592186044416 then (some (y446 ++ y449)) else (none)))) else (none))) else (none))) else (none)) else (none)))
def spec_l1Put.f (k : Nat) (l0 : List Int) (a1 : Int) : Option (List Int) := spec_l1Put.l0 k l0 a1 0
theorem spec_l1Put.mono_l : ∀ k, (∀ y0 y1 y2, LeO (spec_l1Put.l0 k y0 y1 y2) (spec_l1Put.l0 (k + 1) y0 y1 y2))
 | 0 => fun _ _ _ r h => by simp [spec_l1Put.l0] at h
 | k + 1 => by
  have ih0 := spec_l1Put.mono_l k
  ·intro y0 y1 y2
   unfold spec_l1Put.l0
   repeat' first
   | (with_reducible exact ih0 _ _ _)
   | (with_reducible exact LeO.refl _)
   | (with_reducible exact LeO.none _)
   | (with_reducible refine LeO.ite ?_ ?_)
   | (with_reducible refine LeO.bind ?_ (fun _ => ?_))
   | exact ih0 _ _ _
   | exact LeO.none _
   | refine LeO.ite ?_ ?_
   | refine LeO.bind ?_ (fun _ => ?_)
theorem spec_l1Put.mono : ∀ a0 a1 k, LeO (spec_l1Put.f k a0 a1) (spec_l1Put.f (k + 1) a0 a1) := by
 intro a0 a1 k
 have ih0 := spec_l1Put.mono_l k
 unfold spec_l1Put.f
 repeat' first
   | (with_reducible exact ih0 _ _ _)
   | (with_reducible exact LeO.refl _)
   | (with_reducible exact LeO.none _)
   | (with_reducible refine LeO.ite ?_ ?_)
   | (with_reducible refine LeO.bind ?_ (fun _ => ?_))
   | exact ih0 _ _ _
   | exact LeO.none _
   | refine LeO.ite ?_ ?_
   | refine LeO.bind ?_ (fun _ => ?_)
set_option maxHeartbeats 8000000 in
set_option maxRecDepth 100000 in
theorem spec_l1Put.calls (k : Nat) (P0_ : Nat → Prop) (u9000_ : Value) (l0 : List Int) (a1 : Int) (r : List Int) (w0 w : World) (hB : Below w0.heap.size w0 w) (ho0 : Kd.R (Kd.int .i64) 2 w w0.heap.size P0_ u9000_ l0) (h : spec_l1Put.f k l0 a1 = some r) :
  Calls Try.prog 112 #[u9000_, .int .i64 a1] w fun e w' => ∃ v0_ : Value, e = .returned (v0_) ∧ Kd.R (Kd.int .i64) 2 w' w0.heap.size (fun k_ => (P0_ k_ ∨ w.heap.size ≤ k_)) v0_ r ∧ Below w0.heap.size w0 w' ∧ Kept w w' (fun k_ => P0_ k_) := by
 have HO0 := Aside0.mk (show Kd.R (Kd.int .i64) 2 w w0.heap.size (fun k_ => (P0_ k_ ∨ w.heap.size ≤ k_)) u9000_ l0 from Kd.R_mono ho0 (fun k_ hk => (.inl hk)))
 have HK := Aside0.mk (Kept.refl w (fun k_ => P0_ k_))
 have HW0 := Aside0.mk hB.size
 have HB := Aside0.mk hB
 clear hB
 have H : (spec_l1Put.l0 k l0 a1 0) = some r := h
 clear h
 have H' := Aside0.mk H
 clear H
 go_enter Try.func112, Try.ntmps112
 go_wp2
 go_loopg [5] k (fun kq v5 w' => ∃ (x5_1 : Int), v5 = .int .i64 x5_1 ∧ Aside0 (spec_l1Put.l0 kq l0 a1 x5_1 = some r) ∧ Aside0 (kq ≤ k) ∧ Aside0 (Kd.R (Kd.int .i64) 2 w' w0.heap.size (fun k_ => (P0_ k_ ∨ w.heap.size ≤ k_)) u9000_ l0) ∧ Aside0 (Kept w w' (fun k_ => P0_ k_)) ∧ Aside0 (Below w0.heap.size w0 w'))
 case atStart => exact ⟨(0), rF_, H', ⟨Nat.le_refl _⟩, ⟨rHO0_⟩, ⟨by repeat (first | (with_reducible first | exact HK.out | apply Kept.alloc | apply Kept.drewN | apply Kept.drew) | exact HK.out)⟩, ⟨hB_⟩⟩
 case round =>
  clear H'
  try clear c1
  try clear p2
  obtain ⟨x5_1, rfl, HA, HK1, HO_0, HK, HB⟩ := hrel
  cases gk with
  | zero => exact absurd HA.out (by simp [spec_l1Put.l0])
  | succ k1 =>
   have H := HA.out
   clear HA
   simp only [spec_l1Put.l0] at H
   by_cases c3 : x5_1 < (l0.length : Int)
   ·rw [if_pos c3] at H
    have c3b0 : decide (x5_1 < (l0.length : Int)) = true := decide_eq_true c3
    clear c3
    by_cases c4 : 0 ≤ x5_1
    ·rw [if_pos c4] at H
     have c4b0 : decide (0 ≤ x5_1) = true := decide_eq_true c4
     clear c4
     by_cases c5 : (rd l0 x5_1) < a1
     ·rw [if_pos c5] at H
      have c5b0 : decide ((rd l0 x5_1) < a1) = true := decide_eq_true c5
      clear c5
      have H' := Aside0.mk H
      clear H
      obtain ⟨Ao6, co6, eo6⟩ := Kd.R_slice HO_0.out
      subst eo6
      have p414 : 0 ≤ (x5_1 : Int) := oD_
      have q414 : x5_1 < (l0.length : Int) := oD_
      obtain ⟨ad414, e414, hx414_0⟩ := Kd.at_int (Kd.R_reads' HO_0.out).2.2 x5_1 p414 q414
      cases e414
      replace p414 := eq_true p414
      replace q414 := eq_true q414
      go_wp2
      go_roundg k1
      case measure => have := HK1.out; omega
      case rel => exact ⟨(wrap64 (x5_1 + 1)), rF_, H', ⟨by have := HK1.out; omega⟩, ⟨rHO_0_⟩, ⟨by repeat (first | (with_reducible first | exact HK.out | apply Kept.alloc | apply Kept.drewN | apply Kept.drew) | exact HK.out)⟩, ⟨hB_⟩⟩
     ·rw [if_neg c5] at H
      have c5b0 : decide ((rd l0 x5_1) < a1) = false := decide_eq_false c5
      clear c5
      by_cases c7 : (rd l0 x5_1) = a1
      ·rw [if_pos c7] at H
       have c7b0 : ((rd l0 x5_1) == a1) = true := beq_iff_eq.mpr c7
       have c7b1 : ((rd l0 x5_1) != a1) = false := bne_eq_false_iff_eq.mpr c7
       clear c7
       obtain rfl := Option.some.inj H
       obtain ⟨Ao8, co8, eo8⟩ := Kd.R_slice HO_0.out
       subst eo8
       have p414 : 0 ≤ (x5_1 : Int) := oD_
       have q414 : x5_1 < (l0.length : Int) := oD_
       obtain ⟨ad414, e414, hx414_0⟩ := Kd.at_int (Kd.R_reads' HO_0.out).2.2 x5_1 p414 q414
       cases e414
       replace p414 := eq_true p414
       replace q414 := eq_true q414
       have p415 : 0 ≤ (x5_1 : Int) := oD_
       have q415 : x5_1 < (l0.length : Int) := oD_
       obtain ⟨ad415, e415, hx415_0⟩ := Kd.at_int (Kd.R_reads' HO_0.out).2.2 x5_1 p415 q415
       obtain rfl : ad414 = ad415 := (by injection e415)
       replace p415 := eq_true p415
       replace q415 := eq_true q415
       go_wp2
       go_ret
       exact ⟨_, rG_, rHO_0_, hB_, by repeat (first | (with_reducible first | exact HK.out | apply Kept.alloc | apply Kept.drewN | apply Kept.drew) | exact HK.out)⟩
      ·rw [if_neg c7] at H
       have c7b0 : ((rd l0 x5_1) == a1) = false := beq_eq_false_iff_ne.mpr c7
       have c7b1 : ((rd l0 x5_1) != a1) = true := bne_iff_ne.mpr c7
       obtain ⟨y416, hy416⟩ : ∃ y_ : List Int, y_ = (([] : List Int)) := ⟨_, rfl⟩
       replace H : (if x5_1 ≤ (l0.length : Int) then ((some (l0.take (x5_1 : Int).toNat : List Int)).bind fun y419 => (if y416.length + y419.length < 17592186044416 then ((some (y416 ++ y419 : List Int)).bind fun y423 => (if y423.length < 17592186044416 then ((some (y423 ++ [a1] : List Int)).bind fun y426 => ((some (l0.drop (x5_1 : Int).toNat : List Int)).bind fun y429 => (if y426.length + y429.length < 17592186044416 then (some (y426 ++ y429)) else (none)))) else (none))) else (none))) else (none)) = some r := by first | (rw [hy416]; with_reducible exact H) | (have H2_ := (Option.bind_some _ _).symm.trans H; rw [hy416]; with_reducible exact H2_) | (have H2_ := (Option.bind_some _ _).symm.trans H; with_reducible exact H2_) | with_reducible exact H | (rw [hy416]; exact H) | exact H
       have Ny416 := Aside0.mk hy416
       clear hy416
       have c9b0 := eq_true (oD_ : 0 ≤ x5_1)
       by_cases c10 : x5_1 ≤ (l0.length : Int)
       ·rw [if_pos c10] at H
        have c10b0 := eq_true c10
        have c10b1 : decide (x5_1 ≤ (l0.length : Int)) = true := decide_eq_true c10
        clear c10
        obtain ⟨y419, hy419⟩ : ∃ y_ : List Int, y_ = (l0.take (x5_1 : Int).toNat) := ⟨_, rfl⟩
        replace H : (if y416.length + y419.length < 17592186044416 then ((some (y416 ++ y419 : List Int)).bind fun y423 => (if y423.length < 17592186044416 then ((some (y423 ++ [a1] : List Int)).bind fun y426 => ((some (l0.drop (x5_1 : Int).toNat : List Int)).bind fun y429 => (if y426.length + y429.length < 17592186044416 then (some (y426 ++ y429)) else (none)))) else (none))) else (none)) = some r := by first | (rw [hy419]; with_reducible exact H) | (have H2_ := (Option.bind_some _ _).symm.trans H; rw [hy419]; with_reducible exact H2_) | (have H2_ := (Option.bind_some _ _).symm.trans H; with_reducible exact H2_) | with_reducible exact H | (rw [hy419]; exact H) | exact H
        have Ny419 := Aside0.mk hy419
        clear hy419
        by_cases c11 : y416.length + y419.length < 17592186044416
        ·rw [if_pos c11] at H
         have LMc11 := Aside0.mk c11
         clear c11
         obtain ⟨y423, hy423⟩ : ∃ y_ : List Int, y_ = (y416 ++ y419) := ⟨_, rfl⟩
         replace H : (if y423.length < 17592186044416 then ((some (y423 ++ [a1] : List Int)).bind fun y426 => ((some (l0.drop (x5_1 : Int).toNat : List Int)).bind fun y429 => (if y426.length + y429.length < 17592186044416 then (some (y426 ++ y429)) else (none)))) else (none)) = some r := by first | (rw [hy423]; with_reducible exact H) | (have H2_ := (Option.bind_some _ _).symm.trans H; rw [hy423]; with_reducible exact H2_) | (have H2_ := (Option.bind_some _ _).symm.trans H; with_reducible exact H2_) | with_reducible exact H | (rw [hy423]; exact H) | exact H
         have Ny423 := Aside0.mk hy423
         clear hy423
         by_cases c12 : y423.length < 17592186044416
         ·rw [if_pos c12] at H
          have LMc12 := Aside0.mk c12
          clear c12
          obtain ⟨y426, hy426⟩ : ∃ y_ : List Int, y_ = (y423 ++ [a1]) := ⟨_, rfl⟩
          replace H : ((some (l0.drop (x5_1 : Int).toNat : List Int)).bind fun y429 => (if y426.length + y429.length < 17592186044416 then (some (y426 ++ y429)) else (none))) = some r := by first | (rw [hy426]; with_reducible exact H) | (have H2_ := (Option.bind_some _ _).symm.trans H; rw [hy426]; with_reducible exact H2_) | (have H2_ := (Option.bind_some _ _).symm.trans H; with_reducible exact H2_) | with_reducible exact H | (rw [hy426]; exact H) | exact H
          have Ny426 := Aside0.mk hy426
          clear hy426
          have c13b0 := eq_true (oD_ : 0 ≤ x5_1)
          have c14b0 := eq_true (oD_ : x5_1 ≤ (l0.length : Int))
          obtain ⟨y429, hy429⟩ : ∃ y_ : List Int, y_ = (l0.drop (x5_1 : Int).toNat) := ⟨_, rfl⟩
          replace H : (if y426.length + y429.length < 17592186044416 then (some (y426 ++ y429)) else (none)) = some r := by first | (rw [hy429]; with_reducible exact H) | (have H2_ := (Option.bind_some _ _).symm.trans H; rw [hy429]; with_reducible exact H2_) | (have H2_ := (Option.bind_some _ _).symm.trans H; with_reducible exact H2_) | with_reducible exact H | (rw [hy429]; exact H) | exact H
          have Ny429 := Aside0.mk hy429
          clear hy429
          by_cases c15 : y426.length + y429.length < 17592186044416
          ·rw [if_pos c15] at H
           have LMc15 := Aside0.mk c15
           clear c15
           obtain ⟨y433, hy433⟩ : ∃ y_ : List Int, y_ = (y426 ++ y429) := ⟨_, rfl⟩
           replace H : (some y433) = some r := by first | (rw [hy433]; with_reducible exact H) | (have H2_ := (Option.bind_some _ _).symm.trans H; rw [hy433]; with_reducible exact H2_) | (have H2_ := (Option.bind_some _ _).symm.trans H; with_reducible exact H2_) | with_reducible exact H | (rw [hy433]; exact H) | exact H
           have Ny433 := Aside0.mk hy433
           clear hy433
           obtain rfl := Option.some.inj H
           obtain ⟨Ao16, co16, eo16⟩ := Kd.R_slice HO_0.out
           subst eo16
           have p414 : 0 ≤ (x5_1 : Int) := oD_
           have q414 : x5_1 < (l0.length : Int) := oD_
           obtain ⟨ad414, e414, hx414_0⟩ := Kd.at_int (Kd.R_reads' HO_0.out).2.2 x5_1 p414 q414
           cases e414
           replace p414 := eq_true p414
           replace q414 := eq_true q414
           have p415 : 0 ≤ (x5_1 : Int) := oD_
           have q415 : x5_1 < (l0.length : Int) := oD_
           obtain ⟨ad415, e415, hx415_0⟩ := Kd.at_int (Kd.R_reads' HO_0.out).2.2 x5_1 p415 q415
           obtain rfl : ad414 = ad415 := (by injection e415)
           replace p415 := eq_true p415
           replace q415 := eq_true q415
           go_wp2_with (first | ((with_reducible refine gate_dst (N := 34) rfl ?_); refine Kd.R_lit (Kd.int .i64) _ 2 ?hg (N := 34) ?hd (xs := ([] : List Int)) (inner := []) (ok := fun _ => True) (okp := fun _ => True) ?hr ?hp (fun _ hk => hk) trivial (Below.refl _ _) (Nat.le_refl _) (by simp) ?_; (case hd => rfl); (case hg => rfl); (case hr => first | (go_simp; done) | (go_simp; rfl)); (case hp => exact (Reps.none _ _)); intro v417 w17 ho18 hb hg_ hnew_; clear hg_ hnew_; (first | rw [← Ny416.out] at ho18 | (simp only [Int.reduceToNat] at ho18; rw [← Ny416.out] at ho18)); have n0_ := Aside0.mk (Kd.R_elder' rHO_0_ (Kd.R_base ho18) hb); have n1_ := Aside0.mk (Kd.R_lower (Kd.R_new' (Kd.R_newM (M := fun k_ => (P0_ k_ ∨ w.heap.size ≤ k_)) ho18 (by first | exact HK.out.1 | exact (show Kept w _ (fun k_ => P0_ k_) from by repeat (first | (with_reducible first | exact HK.out | apply Kept.alloc | apply Kept.drewN | apply Kept.drew) | exact HK.out)).1) (fun k_ h_ => .inr h_)) (Kd.R_lt rHO_0_)) (below_size hB_)); have n2_ := Aside0.mk (Kept.below (S := (fun k_ => P0_ k_)) (by repeat (first | (with_reducible first | exact HK.out | apply Kept.alloc | apply Kept.drewN | apply Kept.drew) | exact HK.out)) hb); have n3_ := Aside0.mk (below_step hB_ hb); clear HO_0; clear HK; clear HB; have HO_0 := n0_; have HO418 := n1_; have HK := n2_; have HB := n3_; clear n0_ n1_ n2_ n3_; clear hb ho18; have q19 : (x5_1 : Int) ≤ ((l0.length : Int) : Int) := oD_; obtain ⟨i019, hi019, _, hsz19, _⟩ := info_parts info2; have hroom19 : l0.length ≤ co16 := (Kd.R_reads' HO_0.out).2.1; have hC19 : Kd.C (Kd.int .i64) _ (some ad414) l0.length l0 := (Kd.R_reads' HO_0.out).2.2; have hcut19 := cut_to (P := Try.prog) 22 2 .i64 Try.underlying22 hi019 (some ad414) l0.length co16 x5_1 (oD_) q19 hroom19; have hr19 := Kd.C_take (m := (x5_1 : Int).toNat) hC19 (by omega); have hy19 : y419.length = (x5_1 : Int).toNat := (by rw [Ny419.out, List.length_take]; omega); rw [← Ny419.out] at hr19; rw [← hy19] at hcut19; have HR422 := Aside0.mk hr19; have HC422 := Aside0.mk (show y419.length ≤ co16 from by omega); clear hr19 hC19 hroom19 hi019 hsz19; have KY19 := Aside0.mk hy19; clear hy19; have KL19 := Aside0.mk (show (x5_1 : Int).toNat ≤ l0.length from by omega); replace q19 := eq_true q19) | ((with_reducible refine gate_builtin (b := .append) (xs := #[.tmp 34, .tmp 37]) rfl ?_); at_builtin; refine Kd.R_append_rows (Kd.int .i64) (w0 := w0) w0.heap.size rfl (.tmp 34) (.tmp 37) 22 2 (.int .i64 0) 8 rfl Try.underlying22 info2 rfl (by decide) (by omega) v417 y416 y419 _ _ _ (fun k_ => (P0_ k_ ∨ w.heap.size ≤ k_) ∧ some k_ ≠ (.slice (some ad414) l0.length co16 : Value).ownBlock) (fun _ => False) rfl rfl ?aO ?aR (fun _ _ h => h) (fun _ h => h.elim) ?aF ?aB ?aS ?aL ?_; (case aR => repeat (first | exact (by repeat (first | (with_reducible exact HR422.out) | (with_reducible refine Kd.C_alloc ?_ _) | (with_reducible refine Kd.C_drewN ?_ _) | (with_reducible refine Kd.C_drew ?_) | exact HR422.out)) | (with_reducible refine Kd.C_alloc ?_ _) | (with_reducible refine Kd.C_drewN ?_ _) | (with_reducible refine Kd.C_drew ?_))); (case aB => exact hB_); (case aF => exact (fun k_ hk => ⟨(.inr (Nat.le_trans (by first | exact HK.out.1 | exact (show Kept w _ (fun k_ => P0_ k_) from by repeat (first | (with_reducible first | exact HK.out | apply Kept.alloc | apply Kept.drewN | apply Kept.drew) | exact HK.out)).1) hk)), Kd.fresh' (Kd.R_lt rHO_0_) k_ hk⟩)); (case aO => exact (by (with_reducible repeat (first | apply Kd.R_alloc | apply Kd.R_drewN | apply Kd.R_drew)); exact Kd.R_mono HO418.out (fun _ hk => ⟨hk.1.1, hk.2⟩))); (case aS => exact (below_size hB_)); (case aL => have := LMc11.out; omega); intro v424 w20 ho hb hg hat; rw [← Ny423.out] at ho; have n0_ := Aside0.mk (Kd.R_after (ok := (fun k_ => (P0_ k_ ∨ w.heap.size ≤ k_))) rHO_0_ hg hat); have n1_ := Aside0.mk (hb); have n2_ := Aside0.mk (Kept.of_grown (S := (fun k_ => P0_ k_)) hg (by repeat (first | (with_reducible first | exact HK.out | apply Kept.alloc | apply Kept.drewN | apply Kept.drew) | exact HK.out)) (fun k_ e_ => (HO418.out.1 k_ e_).1.1)); have n3_ := Aside0.mk ((show Kd.C (Kd.int .i64) w20 (some ad414) y419.length y419 from by rw [Ny419.out]; exact Kd.C_take (m := (x5_1 : Int).toNat) ((Kd.R_reads' (Kd.R_after (ok := (fun k_ => (P0_ k_ ∨ w.heap.size ≤ k_))) rHO_0_ hg hat)).2.2) KL19.out)); have n4_ := Aside0.mk (ho); clear HO_0; clear HB; clear HK; clear HR422; clear HO418; have HO_0 := n0_; have HB := n1_; have HK := n2_; have HR422 := n3_; have HO425 := n4_; clear n0_ n1_ n2_ n3_ n4_; clear ho hb hg hat) | ((with_reducible refine gate_builtin (b := .append) (xs := #[.tmp 39, .tmp 41]) rfl ?_); at_builtin; refine Kd.R_append (Kd.int .i64) (w0 := w0) w0.heap.size rfl (.tmp 39) (.tmp 41) 22 2 (.int .i64 0) 8 rfl Try.underlying22 info2 rfl (by decide) (by omega) v424 y423 a1 [.int .i64 a1] (fun k_ => (P0_ k_ ∨ w.heap.size ≤ k_) ∧ some k_ ≠ (.slice (some ad414) l0.length co16 : Value).ownBlock) (fun _ => False) rfl rfl ?aP (fun _ hk => hk.elim) ?aF ?aO ?aB ?aS ?aL ?_; (case aP => exact rfl); (case aB => exact hB_); (case aF => exact (fun k_ hk => ⟨(.inr (Nat.le_trans (by first | exact HK.out.1 | exact (show Kept w _ (fun k_ => P0_ k_) from by repeat (first | (with_reducible first | exact HK.out | apply Kept.alloc | apply Kept.drewN | apply Kept.drew) | exact HK.out)).1) hk)), Kd.fresh' (Kd.R_lt rHO_0_) k_ hk⟩)); (case aO => exact rHO425_); (case aS => exact (below_size hB_)); (case aL => have := LMc12.out; omega); intro v427 w21 ho hb hg hat; rw [← Ny426.out] at ho; have n0_ := Aside0.mk (Kd.R_after (ok := (fun k_ => (P0_ k_ ∨ w.heap.size ≤ k_))) rHO_0_ hg hat); have n1_ := Aside0.mk (hb); have n2_ := Aside0.mk (Kept.of_grown (S := (fun k_ => P0_ k_)) hg (by repeat (first | (with_reducible first | exact HK.out | apply Kept.alloc | apply Kept.drewN | apply Kept.drew) | exact HK.out)) (fun k_ e_ => (HO425.out.1 k_ e_).1)); have n3_ := Aside0.mk ((show Kd.C (Kd.int .i64) w21 (some ad414) y419.length y419 from by rw [Ny419.out]; exact Kd.C_take (m := (x5_1 : Int).toNat) ((Kd.R_reads' (Kd.R_after (ok := (fun k_ => (P0_ k_ ∨ w.heap.size ≤ k_))) rHO_0_ hg hat)).2.2) KL19.out)); have n4_ := Aside0.mk (ho); clear HO_0; clear HB; clear HK; clear HR422; clear HO425; have HO_0 := n0_; have HB := n1_; have HK := n2_; have HR422 := n3_; have HO428 := n4_; clear n0_ n1_ n2_ n3_ n4_; clear ho hb hg hat; have q22 : (x5_1 : Int) ≤ ((l0.length : Int) : Int) := oD_; obtain ⟨i022, hi022, _, hsz22, _⟩ := info_parts info2; have hroom22 : l0.length ≤ co16 := (Kd.R_reads' HO_0.out).2.1; have hC22 : Kd.C (Kd.int .i64) _ (some ad414) l0.length l0 := (Kd.R_reads' HO_0.out).2.2; have q022 : (0 : Int) ≤ (x5_1 : Int) := oD_; have hcut22 := cut_from (P := Try.prog) 22 2 .i64 Try.underlying22 hi022 1 hsz22 (some ad414) l0.length co16 x5_1 q022 q22; have hr22 := Kd.C_drop (m := (x5_1 : Int).toNat) (c := co16) hC22 (by omega) hroom22; obtain ⟨A22, hA22⟩ : ∃ A1, A1 = (if co16 = (x5_1 : Int).toNat then (some ad414) else ((some ad414) : Option Addr).map (·.add ((x5_1 : Int).toNat * 1))) := ⟨_, rfl⟩; obtain ⟨c22, hc22⟩ : ∃ c1, c1 = co16 - (x5_1 : Int).toNat := ⟨_, rfl⟩; have hy22 : y429.length = l0.length - (x5_1 : Int).toNat := (by rw [Ny429.out, List.length_drop] <;> omega); rw [show (l0).drop (x5_1 : Int).toNat = y429 from Ny429.out.symm] at hr22; replace hr22 : Kd.C (Kd.int .i64) _ A22 y429.length y429 := (by rw [hA22]; exact hr22); rw [← hy22, ← hA22, ← hc22] at hcut22; have HR432 := Aside0.mk hr22; have HC432 := Aside0.mk (show y429.length ≤ c22 from by rw [hy22, hc22]; exact Nat.sub_le_sub_right hroom22 _); clear hr22 hC22 hroom22 hi022 hsz22 hc22; have KY22 := Aside0.mk hy22; have KA22 := Aside0.mk hA22; clear hy22 hA22; have KL22 := Aside0.mk (show (x5_1 : Int).toNat ≤ l0.length from by omega); replace q22 := eq_true q22) | ((with_reducible refine gate_builtin (b := .append) (xs := #[.tmp 43, .tmp 46]) rfl ?_); at_builtin; refine Kd.R_append_rows (Kd.int .i64) (w0 := w0) w0.heap.size rfl (.tmp 43) (.tmp 46) 22 2 (.int .i64 0) 8 rfl Try.underlying22 info2 rfl (by decide) (by omega) v427 y426 y429 _ _ _ (fun k_ => (P0_ k_ ∨ w.heap.size ≤ k_) ∧ some k_ ≠ (.slice (some ad414) l0.length co16 : Value).ownBlock) (fun _ => False) rfl rfl ?aO ?aR (fun _ _ h => h) (fun _ h => h.elim) ?aF ?aB ?aS ?aL ?_; (case aR => repeat (first | exact (by repeat (first | (with_reducible exact HR432.out) | (with_reducible refine Kd.C_alloc ?_ _) | (with_reducible refine Kd.C_drewN ?_ _) | (with_reducible refine Kd.C_drew ?_) | exact HR432.out)) | (with_reducible refine Kd.C_alloc ?_ _) | (with_reducible refine Kd.C_drewN ?_ _) | (with_reducible refine Kd.C_drew ?_))); (case aB => exact hB_); (case aF => exact (fun k_ hk => ⟨(.inr (Nat.le_trans (by first | exact HK.out.1 | exact (show Kept w _ (fun k_ => P0_ k_) from by repeat (first | (with_reducible first | exact HK.out | apply Kept.alloc | apply Kept.drewN | apply Kept.drew) | exact HK.out)).1) hk)), Kd.fresh' (Kd.R_lt rHO_0_) k_ hk⟩)); (case aO => exact rHO428_); (case aS => exact (below_size hB_)); (case aL => have := LMc15.out; omega); intro v434 w23 ho hb hg hat; rw [← Ny433.out] at ho; have n0_ := Aside0.mk (Kd.R_after (ok := (fun k_ => (P0_ k_ ∨ w.heap.size ≤ k_))) rHO_0_ hg hat); have n1_ := Aside0.mk (hb); have n2_ := Aside0.mk (Kept.of_grown (S := (fun k_ => P0_ k_)) hg (by repeat (first | (with_reducible first | exact HK.out | apply Kept.alloc | apply Kept.drewN | apply Kept.drew) | exact HK.out)) (fun k_ e_ => (HO428.out.1 k_ e_).1)); have n3_ := Aside0.mk ((show Kd.C (Kd.int .i64) w23 (some ad414) y419.length y419 from by rw [Ny419.out]; exact Kd.C_take (m := (x5_1 : Int).toNat) ((Kd.R_reads' (Kd.R_after (ok := (fun k_ => (P0_ k_ ∨ w.heap.size ≤ k_))) rHO_0_ hg hat)).2.2) KL19.out)); have n4_ := Aside0.mk ((show Kd.C (Kd.int .i64) w23 A22 y429.length y429 from by rw [Ny429.out, KA22.out]; exact Kd.C_drop (m := (x5_1 : Int).toNat) (c := co16) ((Kd.R_reads' (Kd.R_after (ok := (fun k_ => (P0_ k_ ∨ w.heap.size ≤ k_))) rHO_0_ hg hat)).2.2) KL22.out ((Kd.R_reads' (Kd.R_after (ok := (fun k_ => (P0_ k_ ∨ w.heap.size ≤ k_))) rHO_0_ hg hat)).2.1))); have n5_ := Aside0.mk (ho); clear HO_0; clear HB; clear HK; clear HR422; clear HR432; clear HO428; have HO_0 := n0_; have HB := n1_; have HK := n2_; have HR422 := n3_; have HR432 := n4_; have HO435 := n5_; clear n0_ n1_ n2_ n3_ n4_ n5_; clear ho hb hg hat))
           go_ret
           exact ⟨_, rG_, by (with_reducible repeat (first | apply Kd.R_alloc | apply Kd.R_drewN | apply Kd.R_drew)); exact Kd.R_mono HO435.out (fun _ hk => hk.1), hB_, by repeat (first | (with_reducible first | exact HK.out | apply Kept.alloc | apply Kept.drewN | apply Kept.drew) | exact HK.out)⟩
          ·rw [if_neg c15] at H
           exact absurd H (by simp)
         ·rw [if_neg c12] at H
          exact absurd H (by simp)
        ·rw [if_neg c11] at H
         exact absurd H (by simp)
       ·rw [if_neg c10] at H
        exact absurd H (by simp)
    ·rw [if_neg c4] at H
     exact absurd H (by simp)
   ·rw [if_neg c3] at H
    have c3b0 : decide (x5_1 < (l0.length : Int)) = false := decide_eq_false c3
    clear c3
    obtain ⟨y436, hy436⟩ : ∃ y_ : List Int, y_ = (([] : List Int)) := ⟨_, rfl⟩
    replace H : (if 0 ≤ x5_1 then (if x5_1 ≤ (l0.length : Int) then ((some (l0.take (x5_1 : Int).toNat : List Int)).bind fun y439 => (if y436.length + y439.length < 17592186044416 then ((some (y436 ++ y439 : List Int)).bind fun y443 => (if y443.length < 17592186044416 then ((some (y443 ++ [a1] : List Int)).bind fun y446 => ((some (l0.drop (x5_1 : Int).toNat : List Int)).bind fun y449 => (if y446.length + y449.length < 17592186044416 then (some (y446 ++ y449)) else (none)))) else (none))) else (none))) else (none)) else (none)) = some r := by first | (rw [hy436]; with_reducible exact H) | (have H2_ := (Option.bind_some _ _).symm.trans H; rw [hy436]; with_reducible exact H2_) | (have H2_ := (Option.bind_some _ _).symm.trans H; with_reducible exact H2_) | with_reducible exact H | (rw [hy436]; exact H) | exact H
    have Ny436 := Aside0.mk hy436
    clear hy436
    by_cases c24 : 0 ≤ x5_1
    ·rw [if_pos c24] at H
     have c24b0 := eq_true c24
     have c24b1 : decide (0 ≤ x5_1) = true := decide_eq_true c24
     clear c24
     by_cases c25 : x5_1 ≤ (l0.length : Int)
     ·rw [if_pos c25] at H
      have c25b0 := eq_true c25
      have c25b1 : decide (x5_1 ≤ (l0.length : Int)) = true := decide_eq_true c25
      clear c25
      obtain ⟨y439, hy439⟩ : ∃ y_ : List Int, y_ = (l0.take (x5_1 : Int).toNat) := ⟨_, rfl⟩
      replace H : (if y436.length + y439.length < 17592186044416 then ((some (y436 ++ y439 : List Int)).bind fun y443 => (if y443.length < 17592186044416 then ((some (y443 ++ [a1] : List Int)).bind fun y446 => ((some (l0.drop (x5_1 : Int).toNat : List Int)).bind fun y449 => (if y446.length + y449.length < 17592186044416 then (some (y446 ++ y449)) else (none)))) else (none))) else (none)) = some r := by first | (rw [hy439]; with_reducible exact H) | (have H2_ := (Option.bind_some _ _).symm.trans H; rw [hy439]; with_reducible exact H2_) | (have H2_ := (Option.bind_some _ _).symm.trans H; with_reducible exact H2_) | with_reducible exact H | (rw [hy439]; exact H) | exact H
      have Ny439 := Aside0.mk hy439
      clear hy439
      by_cases c26 : y436.length + y439.length < 17592186044416
      ·rw [if_pos c26] at H
       have LMc26 := Aside0.mk c26
       clear c26
       obtain ⟨y443, hy443⟩ : ∃ y_ : List Int, y_ = (y436 ++ y439) := ⟨_, rfl⟩
       replace H : (if y443.length < 17592186044416 then ((some (y443 ++ [a1] : List Int)).bind fun y446 => ((some (l0.drop (x5_1 : Int).toNat : List Int)).bind fun y449 => (if y446.length + y449.length < 17592186044416 then (some (y446 ++ y449)) else (none)))) else (none)) = some r := by first | (rw [hy443]; with_reducible exact H) | (have H2_ := (Option.bind_some _ _).symm.trans H; rw [hy443]; with_reducible exact H2_) | (have H2_ := (Option.bind_some _ _).symm.trans H; with_reducible exact H2_) | with_reducible exact H | (rw [hy443]; exact H) | exact H
       have Ny443 := Aside0.mk hy443
       clear hy443
       by_cases c27 : y443.length < 17592186044416
       ·rw [if_pos c27] at H
        have LMc27 := Aside0.mk c27
        clear c27
        obtain ⟨y446, hy446⟩ : ∃ y_ : List Int, y_ = (y443 ++ [a1]) := ⟨_, rfl⟩
        replace H : ((some (l0.drop (x5_1 : Int).toNat : List Int)).bind fun y449 => (if y446.length + y449.length < 17592186044416 then (some (y446 ++ y449)) else (none))) = some r := by first | (rw [hy446]; with_reducible exact H) | (have H2_ := (Option.bind_some _ _).symm.trans H; rw [hy446]; with_reducible exact H2_) | (have H2_ := (Option.bind_some _ _).symm.trans H; with_reducible exact H2_) | with_reducible exact H | (rw [hy446]; exact H) | exact H
        have Ny446 := Aside0.mk hy446
        clear hy446
        have c28b0 := eq_true (oD_ : 0 ≤ x5_1)
        have c29b0 := eq_true (oD_ : x5_1 ≤ (l0.length : Int))
        obtain ⟨y449, hy449⟩ : ∃ y_ : List Int, y_ = (l0.drop (x5_1 : Int).toNat) := ⟨_, rfl⟩
        replace H : (if y446.length + y449.length < 17592186044416 then (some (y446 ++ y449)) else (none)) = some r := by first | (rw [hy449]; with_reducible exact H) | (have H2_ := (Option.bind_some _ _).symm.trans H; rw [hy449]; with_reducible exact H2_) | (have H2_ := (Option.bind_some _ _).symm.trans H; with_reducible exact H2_) | with_reducible exact H | (rw [hy449]; exact H) | exact H
        have Ny449 := Aside0.mk hy449
        clear hy449
        by_cases c30 : y446.length + y449.length < 17592186044416
        ·rw [if_pos c30] at H
         have LMc30 := Aside0.mk c30
         clear c30
         obtain ⟨y453, hy453⟩ : ∃ y_ : List Int, y_ = (y446 ++ y449) := ⟨_, rfl⟩
         replace H : (some y453) = some r := by first | (rw [hy453]; with_reducible exact H) | (have H2_ := (Option.bind_some _ _).symm.trans H; rw [hy453]; with_reducible exact H2_) | (have H2_ := (Option.bind_some _ _).symm.trans H; with_reducible exact H2_) | with_reducible exact H | (rw [hy453]; exact H) | exact H
         have Ny453 := Aside0.mk hy453
         clear hy453
         obtain rfl := Option.some.inj H
         obtain ⟨Ao31, co31, eo31⟩ := Kd.R_slice HO_0.out
         subst eo31
         go_wp2_with (first | ((with_reducible refine gate_dst (N := 34) rfl ?_); refine Kd.R_lit (Kd.int .i64) _ 2 ?hg (N := 34) ?hd (xs := ([] : List Int)) (inner := []) (ok := fun _ => True) (okp := fun _ => True) ?hr ?hp (fun _ hk => hk) trivial (Below.refl _ _) (Nat.le_refl _) (by simp) ?_; (case hd => rfl); (case hg => rfl); (case hr => first | (go_simp; done) | (go_simp; rfl)); (case hp => exact (Reps.none _ _)); intro v437 w32 ho33 hb hg_ hnew_; clear hg_ hnew_; (first | rw [← Ny436.out] at ho33 | (simp only [Int.reduceToNat] at ho33; rw [← Ny436.out] at ho33)); have n0_ := Aside0.mk (Kd.R_elder' rHO_0_ (Kd.R_base ho33) hb); have n1_ := Aside0.mk (Kd.R_lower (Kd.R_new' (Kd.R_newM (M := fun k_ => (P0_ k_ ∨ w.heap.size ≤ k_)) ho33 (by first | exact HK.out.1 | exact (show Kept w _ (fun k_ => P0_ k_) from by repeat (first | (with_reducible first | exact HK.out | apply Kept.alloc | apply Kept.drewN | apply Kept.drew) | exact HK.out)).1) (fun k_ h_ => .inr h_)) (Kd.R_lt rHO_0_)) (below_size hB_)); have n2_ := Aside0.mk (Kept.below (S := (fun k_ => P0_ k_)) (by repeat (first | (with_reducible first | exact HK.out | apply Kept.alloc | apply Kept.drewN | apply Kept.drew) | exact HK.out)) hb); have n3_ := Aside0.mk (below_step hB_ hb); clear HO_0; clear HK; clear HB; have HO_0 := n0_; have HO438 := n1_; have HK := n2_; have HB := n3_; clear n0_ n1_ n2_ n3_; clear hb ho33; have q34 : (x5_1 : Int) ≤ ((l0.length : Int) : Int) := oD_; obtain ⟨i034, hi034, _, hsz34, _⟩ := info_parts info2; have hroom34 : l0.length ≤ co31 := (Kd.R_reads' HO_0.out).2.1; have hC34 : Kd.C (Kd.int .i64) _ Ao31 l0.length l0 := (Kd.R_reads' HO_0.out).2.2; have hcut34 := cut_to (P := Try.prog) 22 2 .i64 Try.underlying22 hi034 Ao31 l0.length co31 x5_1 (oD_) q34 hroom34; have hr34 := Kd.C_take (m := (x5_1 : Int).toNat) hC34 (by omega); have hy34 : y439.length = (x5_1 : Int).toNat := (by rw [Ny439.out, List.length_take]; omega); rw [← Ny439.out] at hr34; rw [← hy34] at hcut34; have HR442 := Aside0.mk hr34; have HC442 := Aside0.mk (show y439.length ≤ co31 from by omega); clear hr34 hC34 hroom34 hi034 hsz34; have KY34 := Aside0.mk hy34; clear hy34; have KL34 := Aside0.mk (show (x5_1 : Int).toNat ≤ l0.length from by omega); replace q34 := eq_true q34) | ((with_reducible refine gate_builtin (b := .append) (xs := #[.tmp 34, .tmp 37]) rfl ?_); at_builtin; refine Kd.R_append_rows (Kd.int .i64) (w0 := w0) w0.heap.size rfl (.tmp 34) (.tmp 37) 22 2 (.int .i64 0) 8 rfl Try.underlying22 info2 rfl (by decide) (by omega) v437 y436 y439 _ _ _ (fun k_ => (P0_ k_ ∨ w.heap.size ≤ k_) ∧ some k_ ≠ (.slice Ao31 l0.length co31 : Value).ownBlock) (fun _ => False) rfl rfl ?aO ?aR (fun _ _ h => h) (fun _ h => h.elim) ?aF ?aB ?aS ?aL ?_; (case aR => repeat (first | exact (by repeat (first | (with_reducible exact HR442.out) | (with_reducible refine Kd.C_alloc ?_ _) | (with_reducible refine Kd.C_drewN ?_ _) | (with_reducible refine Kd.C_drew ?_) | exact HR442.out)) | (with_reducible refine Kd.C_alloc ?_ _) | (with_reducible refine Kd.C_drewN ?_ _) | (with_reducible refine Kd.C_drew ?_))); (case aB => exact hB_); (case aF => exact (fun k_ hk => ⟨(.inr (Nat.le_trans (by first | exact HK.out.1 | exact (show Kept w _ (fun k_ => P0_ k_) from by repeat (first | (with_reducible first | exact HK.out | apply Kept.alloc | apply Kept.drewN | apply Kept.drew) | exact HK.out)).1) hk)), Kd.fresh' (Kd.R_lt rHO_0_) k_ hk⟩)); (case aO => exact (by (with_reducible repeat (first | apply Kd.R_alloc | apply Kd.R_drewN | apply Kd.R_drew)); exact Kd.R_mono HO438.out (fun _ hk => ⟨hk.1.1, hk.2⟩))); (case aS => exact (below_size hB_)); (case aL => have := LMc26.out; omega); intro v444 w35 ho hb hg hat; rw [← Ny443.out] at ho; have n0_ := Aside0.mk (Kd.R_after (ok := (fun k_ => (P0_ k_ ∨ w.heap.size ≤ k_))) rHO_0_ hg hat); have n1_ := Aside0.mk (hb); have n2_ := Aside0.mk (Kept.of_grown (S := (fun k_ => P0_ k_)) hg (by repeat (first | (with_reducible first | exact HK.out | apply Kept.alloc | apply Kept.drewN | apply Kept.drew) | exact HK.out)) (fun k_ e_ => (HO438.out.1 k_ e_).1.1)); have n3_ := Aside0.mk ((show Kd.C (Kd.int .i64) w35 Ao31 y439.length y439 from by rw [Ny439.out]; exact Kd.C_take (m := (x5_1 : Int).toNat) ((Kd.R_reads' (Kd.R_after (ok := (fun k_ => (P0_ k_ ∨ w.heap.size ≤ k_))) rHO_0_ hg hat)).2.2) KL34.out)); have n4_ := Aside0.mk (ho); clear HO_0; clear HB; clear HK; clear HR442; clear HO438; have HO_0 := n0_; have HB := n1_; have HK := n2_; have HR442 := n3_; have HO445 := n4_; clear n0_ n1_ n2_ n3_ n4_; clear ho hb hg hat) | ((with_reducible refine gate_builtin (b := .append) (xs := #[.tmp 39, .tmp 41]) rfl ?_); at_builtin; refine Kd.R_append (Kd.int .i64) (w0 := w0) w0.heap.size rfl (.tmp 39) (.tmp 41) 22 2 (.int .i64 0) 8 rfl Try.underlying22 info2 rfl (by decide) (by omega) v444 y443 a1 [.int .i64 a1] (fun k_ => (P0_ k_ ∨ w.heap.size ≤ k_) ∧ some k_ ≠ (.slice Ao31 l0.length co31 : Value).ownBlock) (fun _ => False) rfl rfl ?aP (fun _ hk => hk.elim) ?aF ?aO ?aB ?aS ?aL ?_; (case aP => exact rfl); (case aB => exact hB_); (case aF => exact (fun k_ hk => ⟨(.inr (Nat.le_trans (by first | exact HK.out.1 | exact (show Kept w _ (fun k_ => P0_ k_) from by repeat (first | (with_reducible first | exact HK.out | apply Kept.alloc | apply Kept.drewN | apply Kept.drew) | exact HK.out)).1) hk)), Kd.fresh' (Kd.R_lt rHO_0_) k_ hk⟩)); (case aO => exact rHO445_); (case aS => exact (below_size hB_)); (case aL => have := LMc27.out; omega); intro v447 w36 ho hb hg hat; rw [← Ny446.out] at ho; have n0_ := Aside0.mk (Kd.R_after (ok := (fun k_ => (P0_ k_ ∨ w.heap.size ≤ k_))) rHO_0_ hg hat); have n1_ := Aside0.mk (hb); have n2_ := Aside0.mk (Kept.of_grown (S := (fun k_ => P0_ k_)) hg (by repeat (first | (with_reducible first | exact HK.out | apply Kept.alloc | apply Kept.drewN | apply Kept.drew) | exact HK.out)) (fun k_ e_ => (HO445.out.1 k_ e_).1)); have n3_ := Aside0.mk ((show Kd.C (Kd.int .i64) w36 Ao31 y439.length y439 from by rw [Ny439.out]; exact Kd.C_take (m := (x5_1 : Int).toNat) ((Kd.R_reads' (Kd.R_after (ok := (fun k_ => (P0_ k_ ∨ w.heap.size ≤ k_))) rHO_0_ hg hat)).2.2) KL34.out)); have n4_ := Aside0.mk (ho); clear HO_0; clear HB; clear HK; clear HR442; clear HO445; have HO_0 := n0_; have HB := n1_; have HK := n2_; have HR442 := n3_; have HO448 := n4_; clear n0_ n1_ n2_ n3_ n4_; clear ho hb hg hat; have q37 : (x5_1 : Int) ≤ ((l0.length : Int) : Int) := oD_; obtain ⟨i037, hi037, _, hsz37, _⟩ := info_parts info2; have hroom37 : l0.length ≤ co31 := (Kd.R_reads' HO_0.out).2.1; have hC37 : Kd.C (Kd.int .i64) _ Ao31 l0.length l0 := (Kd.R_reads' HO_0.out).2.2; have q037 : (0 : Int) ≤ (x5_1 : Int) := oD_; have hcut37 := cut_from (P := Try.prog) 22 2 .i64 Try.underlying22 hi037 1 hsz37 Ao31 l0.length co31 x5_1 q037 q37; have hr37 := Kd.C_drop (m := (x5_1 : Int).toNat) (c := co31) hC37 (by omega) hroom37; obtain ⟨A37, hA37⟩ : ∃ A1, A1 = (if co31 = (x5_1 : Int).toNat then Ao31 else (Ao31 : Option Addr).map (·.add ((x5_1 : Int).toNat * 1))) := ⟨_, rfl⟩; obtain ⟨c37, hc37⟩ : ∃ c1, c1 = co31 - (x5_1 : Int).toNat := ⟨_, rfl⟩; have hy37 : y449.length = l0.length - (x5_1 : Int).toNat := (by rw [Ny449.out, List.length_drop] <;> omega); rw [show (l0).drop (x5_1 : Int).toNat = y449 from Ny449.out.symm] at hr37; replace hr37 : Kd.C (Kd.int .i64) _ A37 y449.length y449 := (by rw [hA37]; exact hr37); rw [← hy37, ← hA37, ← hc37] at hcut37; have HR452 := Aside0.mk hr37; have HC452 := Aside0.mk (show y449.length ≤ c37 from by rw [hy37, hc37]; exact Nat.sub_le_sub_right hroom37 _); clear hr37 hC37 hroom37 hi037 hsz37 hc37; have KY37 := Aside0.mk hy37; have KA37 := Aside0.mk hA37; clear hy37 hA37; have KL37 := Aside0.mk (show (x5_1 : Int).toNat ≤ l0.length from by omega); replace q37 := eq_true q37) | ((with_reducible refine gate_builtin (b := .append) (xs := #[.tmp 43, .tmp 46]) rfl ?_); at_builtin; refine Kd.R_append_rows (Kd.int .i64) (w0 := w0) w0.heap.size rfl (.tmp 43) (.tmp 46) 22 2 (.int .i64 0) 8 rfl Try.underlying22 info2 rfl (by decide) (by omega) v447 y446 y449 _ _ _ (fun k_ => (P0_ k_ ∨ w.heap.size ≤ k_) ∧ some k_ ≠ (.slice Ao31 l0.length co31 : Value).ownBlock) (fun _ => False) rfl rfl ?aO ?aR (fun _ _ h => h) (fun _ h => h.elim) ?aF ?aB ?aS ?aL ?_; (case aR => repeat (first | exact (by repeat (first | (with_reducible exact HR452.out) | (with_reducible refine Kd.C_alloc ?_ _) | (with_reducible refine Kd.C_drewN ?_ _) | (with_reducible refine Kd.C_drew ?_) | exact HR452.out)) | (with_reducible refine Kd.C_alloc ?_ _) | (with_reducible refine Kd.C_drewN ?_ _) | (with_reducible refine Kd.C_drew ?_))); (case aB => exact hB_); (case aF => exact (fun k_ hk => ⟨(.inr (Nat.le_trans (by first | exact HK.out.1 | exact (show Kept w _ (fun k_ => P0_ k_) from by repeat (first | (with_reducible first | exact HK.out | apply Kept.alloc | apply Kept.drewN | apply Kept.drew) | exact HK.out)).1) hk)), Kd.fresh' (Kd.R_lt rHO_0_) k_ hk⟩)); (case aO => exact rHO448_); (case aS => exact (below_size hB_)); (case aL => have := LMc30.out; omega); intro v454 w38 ho hb hg hat; rw [← Ny453.out] at ho; have n0_ := Aside0.mk (Kd.R_after (ok := (fun k_ => (P0_ k_ ∨ w.heap.size ≤ k_))) rHO_0_ hg hat); have n1_ := Aside0.mk (hb); have n2_ := Aside0.mk (Kept.of_grown (S := (fun k_ => P0_ k_)) hg (by repeat (first | (with_reducible first | exact HK.out | apply Kept.alloc | apply Kept.drewN | apply Kept.drew) | exact HK.out)) (fun k_ e_ => (HO448.out.1 k_ e_).1)); have n3_ := Aside0.mk ((show Kd.C (Kd.int .i64) w38 Ao31 y439.length y439 from by rw [Ny439.out]; exact Kd.C_take (m := (x5_1 : Int).toNat) ((Kd.R_reads' (Kd.R_after (ok := (fun k_ => (P0_ k_ ∨ w.heap.size ≤ k_))) rHO_0_ hg hat)).2.2) KL34.out)); have n4_ := Aside0.mk ((show Kd.C (Kd.int .i64) w38 A37 y449.length y449 from by rw [Ny449.out, KA37.out]; exact Kd.C_drop (m := (x5_1 : Int).toNat) (c := co31) ((Kd.R_reads' (Kd.R_after (ok := (fun k_ => (P0_ k_ ∨ w.heap.size ≤ k_))) rHO_0_ hg hat)).2.2) KL37.out ((Kd.R_reads' (Kd.R_after (ok := (fun k_ => (P0_ k_ ∨ w.heap.size ≤ k_))) rHO_0_ hg hat)).2.1))); have n5_ := Aside0.mk (ho); clear HO_0; clear HB; clear HK; clear HR442; clear HR452; clear HO448; have HO_0 := n0_; have HB := n1_; have HK := n2_; have HR442 := n3_; have HR452 := n4_; have HO455 := n5_; clear n0_ n1_ n2_ n3_ n4_ n5_; clear ho hb hg hat))
         go_ret
         exact ⟨_, rG_, by (with_reducible repeat (first | apply Kd.R_alloc | apply Kd.R_drewN | apply Kd.R_drew)); exact Kd.R_mono HO455.out (fun _ hk => hk.1), hB_, by repeat (first | (with_reducible first | exact HK.out | apply Kept.alloc | apply Kept.drewN | apply Kept.drew) | exact HK.out)⟩
        ·rw [if_neg c30] at H
         exact absurd H (by simp)
       ·rw [if_neg c27] at H
        exact absurd H (by simp)
      ·rw [if_neg c26] at H
       exact absurd H (by simp)
     ·rw [if_neg c25] at H
      exact absurd H (by simp)
    ·rw [if_neg c24] at H
     exact absurd H (by simp)
end Go.Proofs.Ytjkbafcepblacaa.X
