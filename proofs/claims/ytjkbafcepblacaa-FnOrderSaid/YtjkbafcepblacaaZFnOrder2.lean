/- PROVED HERE: what the functions that the law FnOrder reaches do in memory, each as a plain Lean function, and what these tell: part 3 of 5 of the proof of that law; no condition beyond those written out at each theorem. -/
import Derived.Test.YtjkbafcepblacaaZFnOrder0
import Derived.Test.YtjkbafcepblacaaZFnOrder1
namespace Go.Proofs.Ytjkbafcepblacaa.X
open Go.RowKit Go.Proofs.YtjkbafcepblacaaW.PrintWords Go.Proofs.YtjkbafcepblacaaW.PrintLast Go.Proofs.YtjkbafcepblacaaW.PrintMore
theorem pl_ {p : Prop} (h : p := by first | exact hk_ | exact hk_.1 | exact hk_.2 | exact hk_.1.1 | exact hk_.1.2 | exact hk_.2.1 | exact hk_.2.2 | exact hk_.1.1.1 | exact hk_.1.1.2 | exact hk_.1.2.1 | exact hk_.1.2.2 | exact hk_.2.1.1 | exact hk_.2.1.2 | exact hk_.2.2.1 | exact hk_.2.2.2 | exact hk_.1.1.1.1 | exact hk_.1.1.1.2 | exact hk_.1.1.2.1 | exact hk_.1.1.2.2 | exact hk_.1.2.1.1 | exact hk_.1.2.1.2 | exact hk_.1.2.2.1 | exact hk_.1.2.2.2 | exact hk_.2.1.1.1 | exact hk_.2.1.1.2 | exact hk_.2.1.2.1 | exact hk_.2.1.2.2 | exact hk_.2.2.1.1 | exact hk_.2.2.1.2 | exact hk_.2.2.2.1 | exact hk_.2.2.2.2 | exact hk_.1.1.1.1.1 | exact hk_.1.1.1.1.2 | exact hk_.1.1.1.2.1 | exact hk_.1.1.1.2.2 | exact hk_.1.1.2.1.1 | exact hk_.1.1.2.1.2 | exact hk_.1.1.2.2.1 | exact hk_.1.1.2.2.2 | exact hk_.1.2.1.1.1 | exact hk_.1.2.1.1.2 | exact hk_.1.2.1.2.1 | exact hk_.1.2.1.2.2 | exact hk_.1.2.2.1.1 | exact hk_.1.2.2.1.2 | exact hk_.1.2.2.2.1 | exact hk_.1.2.2.2.2 | exact hk_.2.1.1.1.1 | exact hk_.2.1.1.1.2 | exact hk_.2.1.1.2.1 | exact hk_.2.1.1.2.2 | exact hk_.2.1.2.1.1 | exact hk_.2.1.2.1.2 | exact hk_.2.1.2.2.1 | exact hk_.2.1.2.2.2 | exact hk_.2.2.1.1.1 | exact hk_.2.2.1.1.2 | exact hk_.2.2.1.2.1 | exact hk_.2.2.1.2.2 | exact hk_.2.2.2.1.1 | exact hk_.2.2.2.1.2 | exact hk_.2.2.2.2.1 | exact hk_.2.2.2.2.2 | exact hk_.1.1.1.1.1.2 | exact hk_.1.1.1.1.1.1.2 | exact hk_.1.1.1.1.1.1.1.2 | exact hk_.1.1.1.1.1.1.1.1.2 | exact hk_.1.1.1.1.1.1.1.1.1.2 | exact hk_.1.1.1.1.1.1.1.1.1.1.2 | exact hk_.1.1.1.1.1.1.1.1.1.1.1.2 | exact hk_.1.1.1.1.1.1.1.1.1.1.1.1.2 | exact hk_.1.1.1.1.1.1.1.1.1.1.1.1.1.2) : p := h
attribute [local go_sem] max2_int min2_int max_two min_two max_three min_three max_four min_four   -- for this text's walks alone
set_option linter.unusedVariables false
set_option linter.unusedSimpArgs false
/-! ### spec_l3Post: function 78 -/
mutual
def spec_l3Post.l0 : Nat → Int → List Int → List Int → List Int → Int → List Int → Int → List (S88) → Option (List Int × List Int)
 | 0, _, _, _, _, _, _, _, _ => none
 | k + 1, x1, x2, x3, x10, x11, x629000, x629001, x629002 => if x11 < (x10.length : Int) then (if 0 ≤ x11 then ((spec_l1Has.f k x2 (rd x10 x11)).bind fun t639 => (if t639 = true then (spec_l3Post.l0 k x1 x2 x3 x10 (wrap64 (x11 + 1)) x629000 x629001 x629002) else ((spec_l3Post.f k x629000 x629001 x629002 (rd x10 x11) x2 x3).bind fun bt641 => (spec_l3Post.l0 k x1 bt641.1 bt641.2 x10 (wrap64 (x11 + 1)) x629000 x629001 x629002)))) else (none)) else (if x3.length < 17592186044416 then (some (x2, (x3 ++ [x1]))) else (none))
def spec_l3Post.f : Nat → List Int → Int → List (S88) → Int → List Int → List Int → Option (List Int × List Int)
 | 0, _, _, _, _, _, _ => none
 | k + 1, l0_0, a0_1, l0_2, a1, l2, l3 => (spec_l1Put.f k l2 a1).bind fun t629 => ((spec_l3Succs.f l0_0 a0_1 l0_2 a1).bind fun t632 => (spec_l3Post.l0 k a1 t629 l3 t632 0 l0_0 a0_1 l0_2))
end
theorem spec_l3Post.mono_l : ∀ k, (∀ y0 y1 y2 y3 y4 y5, LeO (spec_l3Post.f k y0 y1 y2 y3 y4 y5) (spec_l3Post.f (k + 1) y0 y1 y2 y3 y4 y5)) ∧ (∀ y0 y1 y2 y3 y4 y5 y6 y7, LeO (spec_l3Post.l0 k y0 y1 y2 y3 y4 y5 y6 y7) (spec_l3Post.l0 (k + 1) y0 y1 y2 y3 y4 y5 y6 y7))
 | 0 => ⟨fun _ _ _ _ _ _ r h => by simp [spec_l3Post.f] at h, fun _ _ _ _ _ _ _ _ r h => by simp [spec_l3Post.l0] at h⟩
 | k + 1 => by
  obtain ⟨ih0, ih1⟩ := spec_l3Post.mono_l k
  refine ⟨?_, ?_⟩
  ·intro y0 y1 y2 y3 y4 y5
   unfold spec_l3Post.f
   repeat' first
   | (with_reducible exact ih0 _ _ _ _ _ _)
   | (with_reducible exact ih1 _ _ _ _ _ _ _ _)
   | (with_reducible exact spec_l1Has.mono _ _ _)
   | (with_reducible exact spec_l1Put.mono _ _ _)
   | (with_reducible exact LeO.refl _)
   | (with_reducible exact LeO.none _)
   | (with_reducible refine LeO.ite ?_ ?_)
   | (with_reducible refine LeO.bind ?_ (fun _ => ?_))
   | exact ih0 _ _ _ _ _ _
   | exact ih1 _ _ _ _ _ _ _ _
   | exact spec_l1Has.mono _ _ _
   | exact spec_l1Put.mono _ _ _
   | exact LeO.none _
   | refine LeO.ite ?_ ?_
   | refine LeO.bind ?_ (fun _ => ?_)
  ·intro y0 y1 y2 y3 y4 y5 y6 y7
   unfold spec_l3Post.l0
   repeat' first
   | (with_reducible exact ih0 _ _ _ _ _ _)
   | (with_reducible exact ih1 _ _ _ _ _ _ _ _)
   | (with_reducible exact spec_l1Has.mono _ _ _)
   | (with_reducible exact spec_l1Put.mono _ _ _)
   | (with_reducible exact LeO.refl _)
   | (with_reducible exact LeO.none _)
   | (with_reducible refine LeO.ite ?_ ?_)
   | (with_reducible refine LeO.bind ?_ (fun _ => ?_))
   | exact ih0 _ _ _ _ _ _
   | exact ih1 _ _ _ _ _ _ _ _
   | exact spec_l1Has.mono _ _ _
   | exact spec_l1Put.mono _ _ _
   | exact LeO.none _
   | refine LeO.ite ?_ ?_
   | refine LeO.bind ?_ (fun _ => ?_)
theorem spec_l3Post.mono : ∀ a0 a1 a2 a3 a4 a5 k, LeO (spec_l3Post.f k a0 a1 a2 a3 a4 a5) (spec_l3Post.f (k + 1) a0 a1 a2 a3 a4 a5) := by
 intro a0 a1 a2 a3 a4 a5 k
 obtain ⟨ih0, ih1⟩ := spec_l3Post.mono_l k
 exact ih0 a0 a1 a2 a3 a4 a5
def spec_l3Post.T7 : Bool × List (List Nat × List Nat) := (true, [([], []), ([], []), ([], []), ([1, 2], [1, 2]), ([3], [3]), ([], []), ([], []), ([0, 4, 5, 6], [0, 4, 5, 6]), ([7], [7]), ([8], [8]), ([8], [8]), ([9, 7, 0, 1, 2, 3, 4, 5, 6, 7, 8, 9], [5, 9]), ([10, 11, 0, 1, 2, 3, 4, 5, 6, 7, 8, 9, 10, 11], [6, 10])])
def spec_l3Post.B7 : List Nat := [0, 0, 0, 6, 14, 0, 0, 127, 255, 511, 511, 1023, 4095]
theorem spec_l3Post.tab7 : rtab .any (opsOf Try.f78 7) = spec_l3Post.T7 := by kernel_rfl
theorem spec_l3Post.bits7 : waitsOk spec_l3Post.T7.2 spec_l3Post.B7 = true := by kernel_rfl
set_option maxHeartbeats 8000000 in
set_option maxRecDepth 100000 in
theorem spec_l3Post.calls (k : Nat) : ∀ (A0_0 : Option Addr) (c0_0 : Nat) (l0_0 : List Int) (a0_1 : Int) (A0_2 : Option Addr) (c0_2 : Nat) (l0_2 : List (S88)) (a1 : Int) (P2_ : Nat → Prop) (u9000_ : Value) (l2 : List Int) (P3_ : Nat → Prop) (u9001_ : Value) (l3 : List Int) (r1 : List Int) (r2 : List Int) (w0 w : World) (hB : Below w0.heap.size w0 w) (hr0_0 : ∀ W_, Kept w W_ (fun k_ => P2_ k_ ∨ P3_ k_) → Kd.C (Kd.int .i64) W_ A0_0 l0_0.length l0_0) (hc0_0 : l0_0.length ≤ c0_0) (hr0_2 : ∀ W_, Kept w W_ (fun k_ => P2_ k_ ∨ P3_ k_) → Kd.C k88 W_ A0_2 l0_2.length l0_2) (hc0_2 : l0_2.length ≤ c0_2) (ho2 : Kd.R (Kd.int .i64) 2 w w0.heap.size P2_ u9000_ l2) (hp2_3 : ∀ k_, P2_ k_ → ¬ P3_ k_) (ho3 : Kd.R (Kd.int .i64) 2 w w0.heap.size P3_ u9001_ l3) (hp3_2 : ∀ k_, P3_ k_ → ¬ P2_ k_) (h : spec_l3Post.f k l0_0 a0_1 l0_2 a1 l2 l3 = some (r1, r2)),
  Calls Try.prog 78 #[.agg #[.slice A0_0 l0_0.length c0_0, .int .i64 a0_1, .slice A0_2 l0_2.length c0_2], .int .i64 a1, u9000_, u9001_] w fun e w' => ∃ v0_ v1_ : Value, e = .returned (.tuple #[v0_, v1_]) ∧ Kd.R (Kd.int .i64) 2 w' w0.heap.size (fun k_ => ((P2_ k_ ∨ P3_ k_) ∨ w.heap.size ≤ k_) ∧ some k_ ≠ (v1_ : Value).ownBlock) v0_ r1 ∧ Kd.R (Kd.int .i64) 2 w' w0.heap.size (fun k_ => ((P2_ k_ ∨ P3_ k_) ∨ w.heap.size ≤ k_) ∧ some k_ ≠ (v0_ : Value).ownBlock) v1_ r2 ∧ Below w0.heap.size w0 w' ∧ Kept w w' (fun k_ => P2_ k_ ∨ P3_ k_) := by
 induction k using Nat.strongRecOn with
 | _ k ih =>
 intro A0_0 c0_0 l0_0 a0_1 A0_2 c0_2 l0_2 a1 P2_ u9000_ l2 P3_ u9001_ l3 r1 r2 w0 w hB hr0_0 hc0_0 hr0_2 hc0_2 ho2 hp2_3 ho3 hp3_2 h
 cases k with
 | zero => exact absurd h (by simp [spec_l3Post.f])
 | succ k =>
 simp only [spec_l3Post.f] at h
 have hu41 := Try.underlying41
 have HR0_0 := Aside0.mk hr0_0
 have HC0_0 := Aside0.mk hc0_0
 clear hr0_0 hc0_0
 have HR0_2 := Aside0.mk hr0_2
 have HC0_2 := Aside0.mk hc0_2
 clear hr0_2 hc0_2
 have HO2 := Aside0.mk (show Kd.R (Kd.int .i64) 2 w w0.heap.size (fun k_ => ((P2_ k_ ∨ P3_ k_) ∨ w.heap.size ≤ k_) ∧ some k_ ≠ (u9001_ : Value).ownBlock) u9000_ l2 from Kd.R_mono ho2 (fun k_ hk => ⟨(.inl (.inl hk)), fun e_ => hp2_3 k_ hk (ho3.1 k_ e_.symm)⟩))
 have HO3 := Aside0.mk (show Kd.R (Kd.int .i64) 2 w w0.heap.size (fun k_ => ((P2_ k_ ∨ P3_ k_) ∨ w.heap.size ≤ k_) ∧ some k_ ≠ (u9000_ : Value).ownBlock) u9001_ l3 from Kd.R_mono ho3 (fun k_ hk => ⟨(.inl (.inr hk)), fun e_ => hp3_2 k_ hk (ho2.1 k_ e_.symm)⟩))
 have HK := Aside0.mk (Kept.refl w (fun k_ => P2_ k_ ∨ P3_ k_))
 have HW0 := Aside0.mk hB.size
 have HB := Aside0.mk hB
 clear hB
 have H : ((spec_l1Put.f k l2 a1).bind fun t629 => ((spec_l3Succs.f l0_0 a0_1 l0_2 a1).bind fun t632 => (spec_l3Post.l0 k a1 t629 l3 t632 0 l0_0 a0_1 l0_2))) = some (r1, r2) := h
 clear h
 replace H := Option.bind_eq_some_iff.mp H
 obtain ⟨t629, A50, H⟩ := H
 replace H : ((spec_l3Succs.f l0_0 a0_1 l0_2 a1).bind fun t632 => (spec_l3Post.l0 k a1 t629 l3 t632 0 l0_0 a0_1 l0_2)) = some (r1, r2) := H
 have A5 := Aside0.mk A50
 clear A50
 replace H := Option.bind_eq_some_iff.mp H
 obtain ⟨t632, A60, H⟩ := H
 replace H : (spec_l3Post.l0 k a1 t629 l3 t632 0 l0_0 a0_1 l0_2) = some (r1, r2) := H
 have A6 := Aside0.mk A60
 clear A60
 have H' := Aside0.mk H
 clear H
 go_enter Try.func78, Try.ntmps78
 go_wp2_with (first | ((with_reducible refine gate_dst (N := 4) rfl ?_); refine box_event ?hg (N := 4) ?hd (cs := #[.slice A0_0 l0_0.length c0_0, .int .i64 a0_1, .slice A0_2 l0_2.length c0_2]) (t := 41) ?hr ?_; (case hd => rfl); (case hg => rfl); (case hr => first | (go_simp; done) | (go_simp; rfl)); intro gb628 hg w7 hbox hb; have n0_ := Aside0.mk (Kd.R_below rHO2_ hb); have n1_ := Aside0.mk (Kd.R_below rHO3_ hb); have n2_ := Aside0.mk (Kept.below (S := (fun k_ => P2_ k_ ∨ P3_ k_)) (by repeat (first | (with_reducible first | exact HK.out | apply Kept.alloc | apply Kept.drewN | apply Kept.drew) | exact HK.out)) hb); have n3_ := Aside0.mk (below_step hB_ hb); have n4_ := Aside0.mk (hbox); have n5_ := Aside0.mk ((by rw [hg]; exact (by first | exact HK.out.1 | exact (show Kept w _ (fun k_ => P2_ k_ ∨ P3_ k_) from by repeat (first | (with_reducible first | exact HK.out | apply Kept.alloc | apply Kept.drewN | apply Kept.drew) | exact HK.out)).1) : w.heap.size ≤ gb628)); have n6_ := Aside0.mk ((by rw [hg]; exact (below_size hB_) : w0.heap.size ≤ gb628)); clear HO2; clear HO3; clear HK; clear HB; have HO2 := n0_; have HO3 := n1_; have HK := n2_; have HB := n3_; have BK628 := n4_; have GW628 := n5_; have GE628 := n6_; clear n0_ n1_ n2_ n3_ n4_ n5_ n6_; clear hb hbox hg; obtain ⟨Ao8, co8, eo8⟩ := Kd.R_slice HO2.out; subst eo8) | ((with_reducible refine gate_callee (f := 112) rfl ?_); refine gL_ (some 14) Try.func112 #[.slice Ao8 l2.length co8, .int .i64 a1] ?_; (with_reducible refine (spec_l1Put.calls k (fun k_ => some k_ = (.slice Ao8 l2.length co8 : Value).ownBlock) (.slice Ao8 l2.length co8) l2 a1 t629 w0 _ ?side1 ?side2 A5.out).mono ?_); (case side1 => repeat (first | (with_reducible first | exact HB.out | apply below_alloc | apply pw_below_drewN | apply below_drew1 | refine below_set ?_ GE628.out) | exact HB.out)); (case side2 => exact Kd.R_tight rfl HO2.out); rintro e w9 ⟨v630, rfl, ho0, hb, hkp⟩; refine ⟨_, rfl, ?_⟩; have n0_ := Aside0.mk (Kd.R_mono (ok' := fun k_ => ((P2_ k_ ∨ P3_ k_) ∨ w.heap.size ≤ k_) ∧ some k_ ≠ (v630 : Value).ownBlock) (Kd.R_keptB (HO3.out) hkp (fun k_ hk_ hs_ => (hk_.2) hs_)) (fun k_ hk_ => ⟨hk_.1.1, fun e_ => Or.elim (ho0.1 k_ e_.symm) (fun hs_ => hk_.2.1 hs_) (fun hn_ => Nat.not_le.2 hk_.2.2 hn_)⟩)); have n1_ := Aside0.mk (blk_kept bK628_ hkp (fun hs_ => (fun e_ => (Kd.R_ne HO2.out BK628.out (by decide)) e_) hs_)); have n2_ := Aside0.mk (Kd.R_mono (ok' := fun k_ => ((P2_ k_ ∨ P3_ k_) ∨ w.heap.size ≤ k_) ∧ some k_ ≠ (u9001_ : Value).ownBlock) ho0 (fun k_ hk_ => ⟨Or.elim hk_ (fun hs_ => (HO2.out.1 k_ (hs_).symm).1) (fun hn_ => (.inr (Nat.le_trans (by first | exact HK.out.1 | exact (show Kept w _ (fun k_ => P2_ k_ ∨ P3_ k_) from by repeat (first | (with_reducible first | exact HK.out | apply Kept.alloc | apply Kept.drewN | apply Kept.drew | refine Kept.setCell ?_ (.inr GW628.out) _) | exact HK.out)).1) hn_))), Or.elim hk_ (fun hs_ => fun e_ => (((HO3.out).1 k_ e_.symm).2) hs_) (fun hn_ => (Kd.fresh' (Kd.R_lt rHO3_) k_ hn_))⟩)); have n3_ := Aside0.mk (Kept.then_ (S := (fun k_ => P2_ k_ ∨ P3_ k_)) (by repeat (first | (with_reducible first | exact HK.out | apply Kept.alloc | apply Kept.drewN | apply Kept.drew | refine Kept.setCell ?_ (.inr GW628.out) _) | exact HK.out)) hkp (fun k_ hs_ => (fun e_ => (HO2.out.1 k_ e_.symm).1) hs_)); have n4_ := Aside0.mk (hb); clear HO3; clear BK628; clear HK; clear HB; clear HO2; have HO3 := n0_; have BK628 := n1_; have HO631 := n2_; have HK := n3_; have HB := n4_; clear n0_ n1_ n2_ n3_ n4_; (try clear hb); (try clear hkp); (try clear ho0); obtain ⟨hcz10_0, hcz10_1, hcz10_2, hfz10_0, hfz10_1, hfz10_2⟩ := blkc3_ BK628.out) | ((with_reducible refine gate_callee (f := 104) rfl ?_); refine gL_ (some 17) Try.func104 #[.agg #[.slice A0_0 l0_0.length c0_0, .int .i64 a0_1, .slice A0_2 l0_2.length c0_2], .int .i64 a1] ?_; (with_reducible refine (spec_l3Succs.calls _ _ l0_0 a0_1 _ _ l0_2 a1 t632 _ ?side1 ?side2 ?side3 ?side4 A6.out).mono ?_); (case side1 => exact Kd.C_kept_now HR0_0.out (by repeat (first | (with_reducible first | exact HK.out | apply Kept.alloc | apply Kept.drewN | apply Kept.drew | refine Kept.setCell ?_ (.inr GW628.out) _) | exact HK.out))); (case side2 => exact HC0_0.out); (case side3 => exact Kd.C_kept_now HR0_2.out (by repeat (first | (with_reducible first | exact HK.out | apply Kept.alloc | apply Kept.drewN | apply Kept.drew | refine Kept.setCell ?_ (.inr GW628.out) _) | exact HK.out))); (case side4 => exact HC0_2.out); rintro e w11 ⟨v633, rfl, ho0, hb⟩; refine ⟨_, rfl, ?_⟩; have n0_ := Aside0.mk (Kd.R_elder' rHO3_ (Kd.R_base ho0) hb); have n1_ := Aside0.mk (Kd.R_elder' rHO631_ (Kd.R_base ho0) hb); have n2_ := Aside0.mk (Kd.R_lower (Kd.R_new' (Kd.R_new' (Kd.R_newM (M := fun k_ => ((P2_ k_ ∨ P3_ k_) ∨ w.heap.size ≤ k_)) ho0 (by first | exact HK.out.1 | exact (show Kept w _ (fun k_ => P2_ k_ ∨ P3_ k_) from by repeat (first | (with_reducible first | exact HK.out | apply Kept.alloc | apply Kept.drewN | apply Kept.drew | refine Kept.setCell ?_ (.inr GW628.out) _) | exact HK.out)).1) (fun k_ h_ => .inr h_)) (Kd.R_lt rHO3_)) (Kd.R_lt rHO631_)) (below_size hS_)); have n3_ := Aside0.mk (blk_below (g := gb628) (o := .cells #[.slice A0_0 l0_0.length c0_0, .int .i64 a0_1, .slice A0_2 l0_2.length c0_2] 41 (0, 0)) bK628_ hb); have n4_ := Aside0.mk (Kept.below (S := (fun k_ => P2_ k_ ∨ P3_ k_)) (by repeat (first | (with_reducible first | exact HK.out | apply Kept.alloc | apply Kept.drewN | apply Kept.drew | refine Kept.setCell ?_ (.inr GW628.out) _) | exact HK.out)) hb); have n5_ := Aside0.mk (below_step hS_ hb); clear HO3; clear HO631; clear BK628; clear HK; clear HB; have HO3 := n0_; have HO631 := n1_; have HO634 := n2_; have BK628 := n3_; have HK := n4_; have HB := n5_; clear n0_ n1_ n2_ n3_ n4_ n5_; (try clear hb); (try clear hb2); (try clear hk); (try clear hi); (try clear ho0)))
 go_loopg [2, 3, 11] k (fun kq v2 v3 v11 w' => ∃ (x2_1 : List Int) (x3_1 : List Int) (x11_1 : Int), v11 = .int .i64 x11_1 ∧ Aside0 (spec_l3Post.l0 kq a1 x2_1 x3_1 t632 x11_1 l0_0 a0_1 l0_2 = some (r1, r2)) ∧ Aside0 (kq ≤ k) ∧ Aside0 (Kd.R (Kd.int .i64) 2 w' w0.heap.size (fun k_ => ((P2_ k_ ∨ P3_ k_) ∨ w.heap.size ≤ k_) ∧ some k_ ≠ (v3 : Value).ownBlock ∧ some k_ ≠ (v633 : Value).ownBlock) v2 x2_1) ∧ Aside0 (Kd.R (Kd.int .i64) 2 w' w0.heap.size (fun k_ => ((P2_ k_ ∨ P3_ k_) ∨ w.heap.size ≤ k_) ∧ some k_ ≠ (v2 : Value).ownBlock ∧ some k_ ≠ (v633 : Value).ownBlock) v3 x3_1) ∧ Aside0 (Kd.R (Kd.int .i64) 2 w' w0.heap.size (fun k_ => ((P2_ k_ ∨ P3_ k_) ∨ w.heap.size ≤ k_) ∧ some k_ ≠ (v2 : Value).ownBlock ∧ some k_ ≠ (v3 : Value).ownBlock) v633 t632) ∧ Aside0 (w'.heap[gb628]? = some (.cells #[(.slice A0_0 l0_0.length c0_0), .int .i64 a0_1, (.slice A0_2 l0_2.length c0_2)] 41 (0, 0))) ∧ Aside0 (Kept w w' (fun k_ => P2_ k_ ∨ P3_ k_)) ∧ Aside0 (Below w0.heap.size w0 w'))
 case atStart => exact ⟨(t629), (l3), (0), rF_, H', ⟨Nat.le_refl _⟩, ⟨by (with_reducible repeat (first | apply Kd.R_alloc | apply Kd.R_drewN | apply Kd.R_drew)); exact Kd.R_mono HO631.out (fun _ hk => ⟨hk.1.1, ⟨hk.1.2, hk.2⟩⟩)⟩, ⟨by (with_reducible repeat (first | apply Kd.R_alloc | apply Kd.R_drewN | apply Kd.R_drew)); exact Kd.R_mono HO3.out (fun _ hk => ⟨hk.1.1, ⟨hk.1.2, hk.2⟩⟩)⟩, ⟨by (with_reducible repeat (first | apply Kd.R_alloc | apply Kd.R_drewN | apply Kd.R_drew)); exact Kd.R_mono HO634.out (fun _ hk => ⟨hk.1.1.1, ⟨hk.2, hk.1.2⟩⟩)⟩, ⟨bK628_⟩, ⟨by repeat (first | (with_reducible first | exact HK.out | apply Kept.alloc | apply Kept.drewN | apply Kept.drew | refine Kept.setCell ?_ (.inr GW628.out) _) | exact HK.out)⟩, ⟨hS_⟩⟩
 case round =>
  clear H'
  try clear c1
  try clear p2
  try clear p3
  try clear c7
  try clear c10
  try clear c11
  try clear hcz10_0 hcz10_1 hcz10_2 hfz10_0 hfz10_1 hfz10_2
  obtain ⟨x2_1, x3_1, x11_1, rfl, HA, HK1, HO_2, HO_3, HO_10, BK628, HK, HB⟩ := hrel
  cases gk with
  | zero => exact absurd HA.out (by simp [spec_l3Post.l0])
  | succ k1 =>
   have H := HA.out
   clear HA
   simp only [spec_l3Post.l0] at H
   by_cases c12 : x11_1 < (t632.length : Int)
   ·rw [if_pos c12] at H
    have c12b0 : decide (x11_1 < (t632.length : Int)) = true := decide_eq_true c12
    clear c12
    by_cases c13 : 0 ≤ x11_1
    ·rw [if_pos c13] at H
     have c13b0 : decide (0 ≤ x11_1) = true := decide_eq_true c13
     clear c13
     replace H := Option.bind_eq_some_iff.mp H
     obtain ⟨t639, A140, H⟩ := H
     replace H : (if t639 = true then (spec_l3Post.l0 k1 a1 x2_1 x3_1 t632 (wrap64 (x11_1 + 1)) l0_0 a0_1 l0_2) else ((spec_l3Post.f k1 l0_0 a0_1 l0_2 (rd t632 x11_1) x2_1 x3_1).bind fun bt641 => (spec_l3Post.l0 k1 a1 bt641.1 bt641.2 t632 (wrap64 (x11_1 + 1)) l0_0 a0_1 l0_2))) = some (r1, r2) := H
     have A14 := Aside0.mk A140
     clear A140
     by_cases c15 : t639 = true
     ·subst c15
      have H1 := (if_pos rfl).symm.trans H
      clear H
      have H := H1
      clear H1
      have H' := Aside0.mk H
      clear H
      obtain ⟨Ao16, co16, eo16⟩ := Kd.R_slice HO_10.out
      subst eo16
      have p638 : 0 ≤ (x11_1 : Int) := oD_
      have q638 : x11_1 < (t632.length : Int) := oD_
      obtain ⟨ad638, e638, hx638_0⟩ := Kd.at_int (Kd.R_reads' HO_10.out).2.2 x11_1 p638 q638
      cases e638
      replace p638 := eq_true p638
      replace q638 := eq_true q638
      obtain ⟨Ao17, co17, eo17⟩ := Kd.R_slice HO_2.out
      subst eo17
      go_wp2_with (first | ((with_reducible refine gate_callee (f := 105) rfl ?_); refine gL_ (some 29) Try.func105 #[.slice Ao17 x2_1.length co17, .int .i64 (rd t632 x11_1)] ?_; (with_reducible refine (spec_l1Has.calls k1 _ _ x2_1 (rd t632 x11_1) true _ ?side1 ?side2 A14.out).mono ?_); (case side1 => repeat (first | exact (Kd.R_reads' HO_2.out).2.2 | (with_reducible refine Kd.C_alloc ?_ _) | (with_reducible refine Kd.C_drewN ?_ _) | (with_reducible refine Kd.C_drew ?_))); (case side2 => exact (Kd.R_reads' HO_2.out).2.1); rintro e w' ⟨rfl, ⟨nd, rfl⟩⟩; refine ⟨_, rfl, ?_⟩))
      go_roundg k1
      case measure => have := HK1.out; omega
      case rel => exact ⟨(x2_1), (x3_1), (wrap64 (x11_1 + 1)), rF_, H', ⟨by have := HK1.out; omega⟩, ⟨rHO_2_⟩, ⟨rHO_3_⟩, ⟨rHO_10_⟩, ⟨bK628_⟩, ⟨by repeat (first | (with_reducible first | exact HK.out | apply Kept.alloc | apply Kept.drewN | apply Kept.drew | refine Kept.setCell ?_ (.inr GW628.out) _) | exact HK.out)⟩, ⟨hS_⟩⟩
     ·replace c15 := Bool.eq_false_iff.mpr c15
      subst c15
      have H1 := (if_neg (show ¬ (false = true) by decide)).symm.trans H
      clear H
      have H := H1
      clear H1
      replace H := Option.bind_eq_some_iff.mp H
      obtain ⟨⟨t641, t644⟩, A180, H⟩ := H
      replace H : (spec_l3Post.l0 k1 a1 t641 t644 t632 (wrap64 (x11_1 + 1)) l0_0 a0_1 l0_2) = some (r1, r2) := H
      have A18 := Aside0.mk A180
      clear A180
      have H' := Aside0.mk H
      clear H
      obtain ⟨Ao19, co19, eo19⟩ := Kd.R_slice HO_10.out
      subst eo19
      have p638 : 0 ≤ (x11_1 : Int) := oD_
      have q638 : x11_1 < (t632.length : Int) := oD_
      obtain ⟨ad638, e638, hx638_0⟩ := Kd.at_int (Kd.R_reads' HO_10.out).2.2 x11_1 p638 q638
      cases e638
      replace p638 := eq_true p638
      replace q638 := eq_true q638
      obtain ⟨Ao20, co20, eo20⟩ := Kd.R_slice HO_2.out
      subst eo20
      try go_wp2_with (first | ((with_reducible refine gate_callee (f := 105) rfl ?_); refine gL_ (some 29) Try.func105 #[.slice Ao20 x2_1.length co20, .int .i64 (rd t632 x11_1)] ?_; (with_reducible refine (spec_l1Has.calls k1 _ _ x2_1 (rd t632 x11_1) false _ ?side1 ?side2 A14.out).mono ?_); (case side1 => repeat (first | exact (Kd.R_reads' HO_2.out).2.2 | (with_reducible refine Kd.C_alloc ?_ _) | (with_reducible refine Kd.C_drewN ?_ _) | (with_reducible refine Kd.C_drew ?_))); (case side2 => exact (Kd.R_reads' HO_2.out).2.1); rintro e w' ⟨rfl, ⟨nd, rfl⟩⟩; refine ⟨_, rfl, ?_⟩))
      (try (rw [drewN_self wr]; generalize hq_ : World.drewN wr _ = wr; have n0_ : Aside0 (Kd.R (Kd.int .i64) 2 wr w0.heap.size (fun k_ => ((P2_ k_ ∨ P3_ k_) ∨ w.heap.size ≤ k_) ∧ some k_ ≠ (.slice Ao20 x2_1.length co20 : Value).ownBlock ∧ some k_ ≠ (u3 : Value).ownBlock) (.slice (some ad638) t632.length co19) t632) := ⟨by rw [← hq_]; exact rHO_10_⟩; have n1_ : Aside0 (Kd.R (Kd.int .i64) 2 wr w0.heap.size (fun k_ => ((P2_ k_ ∨ P3_ k_) ∨ w.heap.size ≤ k_) ∧ some k_ ≠ (.slice (some ad638) t632.length co19 : Value).ownBlock ∧ some k_ ≠ (u3 : Value).ownBlock) (.slice Ao20 x2_1.length co20) x2_1) := ⟨by rw [← hq_]; exact (by (with_reducible repeat (first | apply Kd.R_alloc | apply Kd.R_drewN | apply Kd.R_drew)); exact Kd.R_mono HO_2.out (fun _ hk => ⟨hk.1, ⟨hk.2.2, hk.2.1⟩⟩))⟩; have n2_ : Aside0 (Kd.R (Kd.int .i64) 2 wr w0.heap.size (fun k_ => ((P2_ k_ ∨ P3_ k_) ∨ w.heap.size ≤ k_) ∧ some k_ ≠ (.slice (some ad638) t632.length co19 : Value).ownBlock ∧ some k_ ≠ (.slice Ao20 x2_1.length co20 : Value).ownBlock) u3 x3_1) := ⟨by rw [← hq_]; exact (by (with_reducible repeat (first | apply Kd.R_alloc | apply Kd.R_drewN | apply Kd.R_drew)); exact Kd.R_mono HO_3.out (fun _ hk => ⟨hk.1, ⟨hk.2.2, hk.2.1⟩⟩))⟩; have n3_ : Aside0 (wr.heap[gb628]? = some (.cells #[.slice A0_0 l0_0.length c0_0, .int .i64 a0_1, .slice A0_2 l0_2.length c0_2] 41 (0, 0))) := ⟨by rw [← hq_]; exact bK628_⟩; have n4_ : Aside0 (Kept w wr (fun k_ => P2_ k_ ∨ P3_ k_)) := ⟨by rw [← hq_]; exact (by repeat (first | (with_reducible first | exact HK.out | apply Kept.alloc | apply Kept.drewN | apply Kept.drew | refine Kept.setCell ?_ (.inr GW628.out) _) | exact HK.out))⟩; have n5_ : Aside0 (Below w0.heap.size w0 wr) := ⟨by rw [← hq_]; exact hS_⟩; clear HO_10 HO_2 HO_3 BK628 HK HB hq_; have HO_10 := n0_; have HO_2 := n1_; have HO_3 := n2_; have BK628 := n3_; have HK := n4_; have HB := n5_; clear n0_ n1_ n2_ n3_ n4_ n5_))
      have n0_ := Aside0.mk (Kd.R_drew HO_2.out)
      have n1_ := Aside0.mk (Kd.R_drew HO_3.out)
      have n2_ := Aside0.mk (Kd.R_drew HO_10.out)
      have n3_ := Aside0.mk (blk_drew BK628.out)
      have n4_ := Aside0.mk (Kept.drew HK.out)
      have n5_ := Aside0.mk (below_drew1 HB.out)
      clear HO_2
      clear HO_3
      clear HO_10
      clear BK628
      clear HK
      clear HB
      have HO_2 := n0_
      have HO_3 := n1_
      have HO_10 := n2_
      have BK628 := n3_
      have HK := n4_
      have HB := n5_
      clear n0_ n1_ n2_ n3_ n4_ n5_
      have p640 : 0 ≤ (x11_1 : Int) := oD_
      have q640 : x11_1 < (t632.length : Int) := oD_
      obtain ⟨ad640, e640, hx640_0⟩ := Kd.at_int (Kd.R_reads' HO_10.out).2.2 x11_1 p640 q640
      obtain rfl : ad638 = ad640 := (by injection e640)
      replace p640 := eq_true p640
      replace q640 := eq_true q640
      obtain ⟨Ao22, co22, eo22⟩ := Kd.R_slice HO_3.out
      (first | subst eo22 | (injection eo22 with f1_ f2_ f3_; have f4_ := f1_.symm; have f5_ := f3_.symm; clear f1_ f2_ f3_; subst f4_; subst f5_))
      refine start_ (n := 13) (S := fun w' => w'.cell? ⟨gb628, 0, none⟩ = some (.slice A0_0 l0_0.length c0_0) ∧ w'.cell? ⟨gb628, 1, none⟩ = some (.int .i64 a0_1) ∧ w'.cell? ⟨gb628, 2, none⟩ = some (.slice A0_2 l0_2.length c0_2) ∧ w'.cell? (ad638.add (x11_1).toNat) = some (.int .i64 (rd t632 x11_1))) (ds := []) #[false, false, false, false, false, false, false, false, false, false, false, false, false] (by kernel_rfl) rfl rfl ⟨(blk_cell BK628.out 0).trans rfl, (blk_cell BK628.out 1).trans rfl, (blk_cell BK628.out 2).trans rfl, hx640_0⟩ (fun hHeld => ?_); refine with_tabW spec_l3Post.tab7 spec_l3Post.bits7 (fun HT_ HW_ => ?_)
      generalize wr.drew = w21 at HO_2 HO_3 HO_10 BK628 HK HB hx640_0 hHeld ⊢
      refine pure_ (i := 1) (N := some 33) (v := ?_) (a' := ?_) #[false, true, false, false, false, false, false, false, false, false, false, false, false] rfl rfl (any_of HT_.out (by kernel_rfl)) (fun _ _ _ h => h) (Or.inl ⟨by rfl, ?_⟩) ?_ ?_
      rotate_left
      ·intro w'
       go_simp
       with_reducible rfl
      rotate_left
      ·simp only [Act.put, List.setIfInBounds_toArray, List.set_cons_zero, List.set_cons_succ, i64_w, i32_w]
       rfl
      refine pure_ (i := 2) (N := some 34) (v := ?_) (a' := ?_) #[false, true, true, false, false, false, false, false, false, false, false, false, false] rfl rfl (any_of HT_.out (by kernel_rfl)) (fun _ _ _ h => h) (Or.inl ⟨by rfl, ?_⟩) ?_ ?_
      rotate_left
      ·intro w'
       go_simp
       with_reducible rfl
      rotate_left
      ·simp only [Act.put, List.setIfInBounds_toArray, List.set_cons_zero, List.set_cons_succ, i64_w, i32_w]
       rfl
      refine pure_ (i := 3) (N := some 35) (v := ?_) (a' := ?_) #[false, true, true, true, false, false, false, false, false, false, false, false, false] rfl rfl (any_of HT_.out (by kernel_rfl)) (fun _ _ _ h => h) (Or.inl ⟨by rfl, ?_⟩) ?_ ?_
      rotate_left
      ·intro w'
       go_simp
       with_reducible rfl
      rotate_left
      ·simp only [Act.put, List.setIfInBounds_toArray, List.set_cons_zero, List.set_cons_succ, i64_w, i32_w]
       rfl
      refine pure_ (i := 5) (N := some 37) (v := ?_) (a' := ?_) #[false, true, true, true, false, true, false, false, false, false, false, false, false] rfl rfl (any_of HT_.out (by kernel_rfl)) (fun _ _ _ h => h) (Or.inl ⟨by rfl, ?_⟩) ?_ ?_
      rotate_left
      ·intro w'
       go_simp
       with_reducible rfl
      rotate_left
      ·simp only [Act.put, List.setIfInBounds_toArray, List.set_cons_zero, List.set_cons_succ, i64_w, i32_w]
       rfl
      refine pure_ (i := 6) (N := some 38) (v := ?_) (a' := ?_) #[false, true, true, true, false, true, true, false, false, false, false, false, false] rfl rfl (any_of HT_.out (by kernel_rfl)) (fun _ _ _ h => h) (Or.inl ⟨by rfl, ?_⟩) ?_ ?_
      rotate_left
      ·intro w'
       go_simp
       with_reducible rfl
      rotate_left
      ·simp only [Act.put, List.setIfInBounds_toArray, List.set_cons_zero, List.set_cons_succ, i64_w, i32_w]
       rfl
      refine take_ (i := 0) (N := some 32) (v := ?_) (a' := ?_) #[true, true, true, true, false, true, true, false, false, false, false, false, false] rfl rfl (take_ofW HT_.out HW_.out (by kernel_rfl)) (fun _ _ _ h => h) (Or.inl ⟨by rfl, ?_⟩) hHeld ?_ ?_
      rotate_left
      ·rintro w' ⟨s0, s1, s2, s3⟩
       go_simp
       with_reducible rfl
      rotate_left
      ·simp only [Act.put, List.setIfInBounds_toArray, List.set_cons_zero, List.set_cons_succ, i64_w, i32_w]
       rfl
      refine take_ (i := 4) (N := some 36) (v := ?_) (a' := ?_) #[true, true, true, true, true, true, true, false, false, false, false, false, false] rfl rfl (take_ofW HT_.out HW_.out (by kernel_rfl)) (fun _ _ _ h => h) (Or.inl ⟨by rfl, ?_⟩) hHeld ?_ ?_
      rotate_left
      ·rintro w' ⟨s0, s1, s2, s3⟩
       go_simp
       with_reducible rfl
      rotate_left
      ·simp only [Act.put, List.setIfInBounds_toArray, List.set_cons_zero, List.set_cons_succ, i64_w, i32_w]
       rfl
      refine one_ (i := 7) (N := some 39) #[true, true, true, true, true, true, true, true, false, false, false, false, false] rfl rfl (one_of HT_.out (by kernel_rfl)) (by decide) (fun K hK => ?_)
      refine goes_ Try.func78 (by kernel_rfl) rfl #[.agg #[.slice A0_0 l0_0.length c0_0, .int .i64 a0_1, .slice A0_2 l0_2.length c0_2], .int .i64 (rd t632 x11_1), .slice Ao20 x2_1.length co20, .slice Ao22 x3_1.length co22] (by rfl) rfl rfl (by (try simp only [List.map_toArray, List.map_cons, List.map_nil]); first | done | rfl | (simp only [List.length_drop, List.length_take]; rfl)) ?_
      with_reducible refine (ih k1 (by have := HK1.out; omega) _ _ l0_0 a0_1 _ _ l0_2 (rd t632 x11_1) (fun k_ => some k_ = (.slice Ao20 x2_1.length co20 : Value).ownBlock) (.slice Ao20 x2_1.length co20) x2_1 (fun k_ => some k_ = (.slice Ao22 x3_1.length co22 : Value).ownBlock) (.slice Ao22 x3_1.length co22) x3_1 t641 t644 w0 _ ?side1 ?side2 ?side3 ?side4 ?side5 ?side6 ?side7 ?side8 ?side9 A18.out).mono ?_
      (case side1 => repeat (first | (with_reducible first | exact HB.out | apply below_alloc | apply pw_below_drewN | apply below_drew1 | refine below_set ?_ GE628.out) | exact HB.out))
      (case side2 => exact Kd.C_kept_call HR0_0.out (by repeat (first | (with_reducible first | exact HK.out | apply Kept.alloc | apply Kept.drewN | apply Kept.drew | refine Kept.setCell ?_ (.inr GW628.out) _) | exact HK.out)) (fun k_ hs_ => Or.elim hs_ (fun e_ => (fun e_ => (HO_2.out.1 k_ e_.symm).1) e_) (fun e_ => (fun e_ => (HO_3.out.1 k_ e_.symm).1) e_)))
      (case side3 => exact HC0_0.out)
      (case side4 => exact Kd.C_kept_call HR0_2.out (by repeat (first | (with_reducible first | exact HK.out | apply Kept.alloc | apply Kept.drewN | apply Kept.drew | refine Kept.setCell ?_ (.inr GW628.out) _) | exact HK.out)) (fun k_ hs_ => Or.elim hs_ (fun e_ => (fun e_ => (HO_2.out.1 k_ e_.symm).1) e_) (fun e_ => (fun e_ => (HO_3.out.1 k_ e_.symm).1) e_)))
      (case side5 => exact HC0_2.out)
      (case side6 => exact Kd.R_tight rfl HO_2.out)
      (case side7 => exact fun k_ e_ => (fun hk_ => pl_) (HO_2.out.1 k_ e_.symm))
      (case side8 => exact Kd.R_tight rfl HO_3.out)
      (case side9 => exact fun k_ e_ => (fun hk_ => pl_) (HO_3.out.1 k_ e_.symm))
      rintro e w23 ⟨v642, v645, rfl, ho0, ho1, hb, hkp⟩
      have HS3_ := cell_kept (hHeld.2.2.2) hkp (by first | (rw [add_block]; exact (fun hs_ => Or.elim hs_ (fun e_ => (((HO_10.out).1 _ rfl).2.1) e_) (fun e_ => (((HO_10.out).1 _ rfl).2.2) e_))) | (show ¬ _; simp only [add_block]; exact (fun hs_ => Or.elim hs_ (fun e_ => (((HO_10.out).1 _ rfl).2.1) e_) (fun e_ => (((HO_10.out).1 _ rfl).2.2) e_))) | exact (fun hs_ => Or.elim hs_ (fun e_ => (((HO_10.out).1 _ rfl).2.1) e_) (fun e_ => (((HO_10.out).1 _ rfl).2.2) e_)))
      refine ⟨_, rfl, ?_⟩
      have n0_ := Aside0.mk (Kd.R_mono (ok' := fun k_ => ((P2_ k_ ∨ P3_ k_) ∨ w.heap.size ≤ k_) ∧ some k_ ≠ (v642 : Value).ownBlock ∧ some k_ ≠ (v645 : Value).ownBlock) (Kd.R_keptB (HO_10.out) hkp (fun k_ hk_ hs_ => Or.elim hs_ (fun e_ => (hk_.2.1) e_) (fun e_ => (hk_.2.2) e_))) (fun k_ hk_ => ⟨hk_.1.1, fun e_ => Or.elim (ho0.1 k_ e_.symm).1 (fun hs_ => hk_.2.1 hs_) (fun hn_ => Nat.not_le.2 hk_.2.2 hn_), fun e_ => Or.elim (ho1.1 k_ e_.symm).1 (fun hs_ => hk_.2.1 hs_) (fun hn_ => Nat.not_le.2 hk_.2.2 hn_)⟩))
      have n1_ := Aside0.mk (blk_kept bK628_ hkp (fun hs_ => Or.elim hs_ (fun e_ => (fun e_ => (Kd.R_ne HO_2.out BK628.out (by decide)) e_) e_) (fun e_ => (fun e_ => (Kd.R_ne HO_3.out BK628.out (by decide)) e_) e_)))
      have n2_ := Aside0.mk (Kd.R_mono (ok' := fun k_ => ((P2_ k_ ∨ P3_ k_) ∨ w.heap.size ≤ k_) ∧ some k_ ≠ (v645 : Value).ownBlock ∧ some k_ ≠ (.slice (some ad638) t632.length co19 : Value).ownBlock) ho0 (fun k_ hk_ => ⟨Or.elim hk_.1 (fun hs_ => Or.elim hs_ (fun hs_ => (HO_2.out.1 k_ (hs_).symm).1) (fun hs_ => (HO_3.out.1 k_ (hs_).symm).1)) (fun hn_ => (.inr (Nat.le_trans (by first | exact HK.out.1 | exact (show Kept w _ (fun k_ => P2_ k_ ∨ P3_ k_) from by repeat (first | (with_reducible first | exact HK.out | apply Kept.alloc | apply Kept.drewN | apply Kept.drew | refine Kept.setCell ?_ (.inr GW628.out) _) | exact HK.out)).1) hn_))), hk_.2, Or.elim hk_.1 (fun hs_ => Or.elim hs_ (fun hs_ => fun e_ => (((HO_10.out).1 k_ e_.symm).2.1) hs_) (fun hs_ => fun e_ => (((HO_10.out).1 k_ e_.symm).2.2) hs_)) (fun hn_ => (Kd.fresh' (Kd.R_lt rHO_10_) k_ hn_))⟩))
      have n3_ := Aside0.mk (Kd.R_mono (ok' := fun k_ => ((P2_ k_ ∨ P3_ k_) ∨ w.heap.size ≤ k_) ∧ some k_ ≠ (v642 : Value).ownBlock ∧ some k_ ≠ (.slice (some ad638) t632.length co19 : Value).ownBlock) ho1 (fun k_ hk_ => ⟨Or.elim hk_.1 (fun hs_ => Or.elim hs_ (fun hs_ => (HO_2.out.1 k_ (hs_).symm).1) (fun hs_ => (HO_3.out.1 k_ (hs_).symm).1)) (fun hn_ => (.inr (Nat.le_trans (by first | exact HK.out.1 | exact (show Kept w _ (fun k_ => P2_ k_ ∨ P3_ k_) from by repeat (first | (with_reducible first | exact HK.out | apply Kept.alloc | apply Kept.drewN | apply Kept.drew | refine Kept.setCell ?_ (.inr GW628.out) _) | exact HK.out)).1) hn_))), hk_.2, Or.elim hk_.1 (fun hs_ => Or.elim hs_ (fun hs_ => fun e_ => (((HO_10.out).1 k_ e_.symm).2.1) hs_) (fun hs_ => fun e_ => (((HO_10.out).1 k_ e_.symm).2.2) hs_)) (fun hn_ => (Kd.fresh' (Kd.R_lt rHO_10_) k_ hn_))⟩))
      have n4_ := Aside0.mk (Kept.then_ (S := (fun k_ => P2_ k_ ∨ P3_ k_)) (by repeat (first | (with_reducible first | exact HK.out | apply Kept.alloc | apply Kept.drewN | apply Kept.drew | refine Kept.setCell ?_ (.inr GW628.out) _) | exact HK.out)) hkp (fun k_ hs_ => Or.elim hs_ (fun e_ => (fun e_ => (HO_2.out.1 k_ e_.symm).1) e_) (fun e_ => (fun e_ => (HO_3.out.1 k_ e_.symm).1) e_)))
      have n5_ := Aside0.mk (hb)
      clear HO_10
      clear BK628
      clear HK
      clear HB
      clear HO_2
      clear HO_3
      have HO_10 := n0_
      have BK628 := n1_
      have HO643 := n2_
      have HO646 := n3_
      have HK := n4_
      have HB := n5_
      clear n0_ n1_ n2_ n3_ n4_ n5_
      (try clear hb)
      (try clear hkp)
      (try clear ho0)
      (try clear ho1)
      refine hK.out _ _ ⟨(blk_cell BK628.out 0).trans rfl, (blk_cell BK628.out 1).trans rfl, (blk_cell BK628.out 2).trans rfl, HS3_⟩ (fun hHeld => ?_)
      clear hK K
      refine norm_ (a' := ?_) ?_ ?_
      rotate_left
      ·show Act.put _ (some 39) _ = _
       simp only [Act.put, List.setIfInBounds_toArray, List.set_cons_zero, List.set_cons_succ, i64_w, i32_w]
       rfl
      refine pure_ (i := 8) (N := some 31) (v := ?_) (a' := ?_) #[true, true, true, true, true, true, true, true, true, false, false, false, false] rfl rfl (any_of HT_.out (by kernel_rfl)) (fun _ _ _ h => h) (Or.inl ⟨by rfl, ?_⟩) ?_ ?_
      rotate_left
      ·intro w'
       go_simp
       with_reducible rfl
      rotate_left
      ·simp only [Act.put, List.setIfInBounds_toArray, List.set_cons_zero, List.set_cons_succ, i64_w, i32_w]
       rfl
      refine pure_ (i := 9) (N := some 40) (v := ?_) (a' := ?_) #[true, true, true, true, true, true, true, true, true, true, false, false, false] rfl rfl (any_of HT_.out (by kernel_rfl)) (fun _ _ _ h => h) (Or.inl ⟨by rfl, ?_⟩) ?_ ?_
      rotate_left
      ·intro w'
       go_simp
       with_reducible rfl
      rotate_left
      ·simp only [Act.put, List.setIfInBounds_toArray, List.set_cons_zero, List.set_cons_succ, i64_w, i32_w]
       rfl
      refine pure_ (i := 10) (N := some 41) (v := ?_) (a' := ?_) #[true, true, true, true, true, true, true, true, true, true, true, false, false] rfl rfl (any_of HT_.out (by kernel_rfl)) (fun _ _ _ h => h) (Or.inl ⟨by rfl, ?_⟩) ?_ ?_
      rotate_left
      ·intro w'
       go_simp
       with_reducible rfl
      rotate_left
      ·simp only [Act.put, List.setIfInBounds_toArray, List.set_cons_zero, List.set_cons_succ, i64_w, i32_w]
       rfl
      refine pure_ (i := 11) (N := some 2) (v := ?_) (a' := ?_) #[true, true, true, true, true, true, true, true, true, true, true, true, false] rfl rfl (any_of HT_.out (by kernel_rfl)) (fun _ _ _ h => h) (Or.inl ⟨by rfl, ?_⟩) ?_ ?_
      rotate_left
      ·intro w'
       go_simp
       with_reducible rfl
      rotate_left
      ·simp only [Act.put, List.setIfInBounds_toArray, List.set_cons_zero, List.set_cons_succ, i64_w, i32_w]
       rfl
      refine pure_ (i := 12) (N := some 3) (v := ?_) (a' := ?_) #[true, true, true, true, true, true, true, true, true, true, true, true, true] rfl rfl (any_of HT_.out (by kernel_rfl)) (fun _ _ _ h => h) (Or.inl ⟨by rfl, ?_⟩) ?_ ?_
      rotate_left
      ·intro w'
       go_simp
       with_reducible rfl
      rotate_left
      ·simp only [Act.put, List.setIfInBounds_toArray, List.set_cons_zero, List.set_cons_succ, i64_w, i32_w]
       rfl
      refine done_ (done_of HT_.out (by kernel_rfl)) ?_
      try go_wp2
      go_roundg k1
      case measure => have := HK1.out; omega
      case rel => exact ⟨(t641), (t644), (wrap64 (x11_1 + 1)), rF_, H', ⟨by have := HK1.out; omega⟩, ⟨rHO643_⟩, ⟨rHO646_⟩, ⟨rHO_10_⟩, ⟨bK628_⟩, ⟨by repeat (first | (with_reducible first | exact HK.out | apply Kept.alloc | apply Kept.drewN | apply Kept.drew | refine Kept.setCell ?_ (.inr GW628.out) _) | exact HK.out)⟩, ⟨hS_⟩⟩
    ·rw [if_neg c13] at H
     exact absurd H (by simp)
   ·rw [if_neg c12] at H
    have c12b0 : decide (x11_1 < (t632.length : Int)) = false := decide_eq_false c12
    clear c12
    by_cases c24 : x3_1.length < 17592186044416
    ·rw [if_pos c24] at H
     have LMc24 := Aside0.mk c24
     clear c24
     obtain ⟨y635, hy635⟩ : ∃ y_ : List Int, y_ = (x3_1 ++ [a1]) := ⟨_, rfl⟩
     replace H : (some (x2_1, y635)) = some (r1, r2) := by first | (rw [hy635]; with_reducible exact H) | (have H2_ := (Option.bind_some _ _).symm.trans H; rw [hy635]; with_reducible exact H2_) | (have H2_ := (Option.bind_some _ _).symm.trans H; with_reducible exact H2_) | with_reducible exact H | (rw [hy635]; exact H) | exact H
     have Ny635 := Aside0.mk hy635
     clear hy635
     simp only [Option.some.injEq, Prod.mk.injEq] at H
     obtain ⟨rfl, rfl⟩ := H
     obtain ⟨Ao25, co25, eo25⟩ := Kd.R_slice HO_10.out
     subst eo25
     go_wp2_with (first | ((with_reducible refine gate_builtin (b := .append) (xs := #[.tmp 43, .tmp 45]) rfl ?_); at_builtin; refine Kd.R_append (Kd.int .i64) (w0 := w0) w0.heap.size rfl (.tmp 43) (.tmp 45) 22 2 (.int .i64 0) 8 rfl Try.underlying22 info2 rfl (by decide) (by omega) u3 x3_1 a1 [.int .i64 a1] (fun k_ => ((P2_ k_ ∨ P3_ k_) ∨ w.heap.size ≤ k_) ∧ some k_ ≠ (u2 : Value).ownBlock ∧ some k_ ≠ (.slice Ao25 t632.length co25 : Value).ownBlock) (fun _ => False) rfl rfl ?aP (fun _ hk => hk.elim) ?aF ?aO ?aB ?aS ?aL ?_; (case aP => exact rfl); (case aB => exact hS_); (case aF => exact (fun k_ hk => ⟨(.inr (Nat.le_trans (by first | exact HK.out.1 | exact (show Kept w _ (fun k_ => P2_ k_ ∨ P3_ k_) from by repeat (first | (with_reducible first | exact HK.out | apply Kept.alloc | apply Kept.drewN | apply Kept.drew | refine Kept.setCell ?_ (.inr GW628.out) _) | exact HK.out)).1) hk)), Kd.fresh' (Kd.R_lt rHO_2_) k_ hk, Kd.fresh' (Kd.R_lt rHO_10_) k_ hk⟩)); (case aO => exact rHO_3_); (case aS => exact (below_size hS_)); (case aL => have := LMc24.out; omega); intro v636 w26 ho hb hg hat; rw [← Ny635.out] at ho; have n0_ := Aside0.mk (Kd.R_after (ok := (fun k_ => ((P2_ k_ ∨ P3_ k_) ∨ w.heap.size ≤ k_) ∧ some k_ ≠ (.slice Ao25 t632.length co25 : Value).ownBlock)) (by (with_reducible repeat (first | apply Kd.R_alloc | apply Kd.R_drewN | apply Kd.R_drew)); exact Kd.R_mono HO_2.out (fun _ hk => ⟨⟨hk.1, hk.2.2⟩, hk.2.1⟩)) hg hat); have n1_ := Aside0.mk (Kd.R_after (ok := (fun k_ => ((P2_ k_ ∨ P3_ k_) ∨ w.heap.size ≤ k_) ∧ some k_ ≠ (u2 : Value).ownBlock)) (by (with_reducible repeat (first | apply Kd.R_alloc | apply Kd.R_drewN | apply Kd.R_drew)); exact Kd.R_mono HO_10.out (fun _ hk => ⟨⟨hk.1, hk.2.1⟩, hk.2.2⟩)) hg hat); have n2_ := Aside0.mk (blk_grown (g := gb628) (o := .cells #[.slice A0_0 l0_0.length c0_0, .int .i64 a0_1, .slice A0_2 l0_2.length c0_2] 41 (0, 0)) bK628_ hg (Kd.R_ne HO_3.out BK628.out (by decide))); have n3_ := Aside0.mk (hb); have n4_ := Aside0.mk (Kept.of_grown (S := (fun k_ => P2_ k_ ∨ P3_ k_)) hg (by repeat (first | (with_reducible first | exact HK.out | apply Kept.alloc | apply Kept.drewN | apply Kept.drew | refine Kept.setCell ?_ (.inr GW628.out) _) | exact HK.out)) (fun k_ e_ => (HO_3.out.1 k_ e_).1)); have n5_ := Aside0.mk (ho); clear HO_2; clear HO_10; clear BK628; clear HB; clear HK; clear HO_3; have HO_2 := n0_; have HO_10 := n1_; have BK628 := n2_; have HB := n3_; have HK := n4_; have HO637 := n5_; clear n0_ n1_ n2_ n3_ n4_ n5_; clear ho hb hg hat))
     go_ret2
     exact ⟨_, _, rG_, by (with_reducible repeat (first | apply Kd.R_alloc | apply Kd.R_drewN | apply Kd.R_drew)); exact Kd.R_mono HO_2.out (fun _ hk => ⟨hk.1.1, hk.2⟩), by (with_reducible repeat (first | apply Kd.R_alloc | apply Kd.R_drewN | apply Kd.R_drew)); exact Kd.R_mono HO637.out (fun _ hk => ⟨hk.1, hk.2.1⟩), hS_, by repeat (first | (with_reducible first | exact HK.out | apply Kept.alloc | apply Kept.drewN | apply Kept.drew | refine Kept.setCell ?_ (.inr GW628.out) _) | exact HK.out)⟩
    ·rw [if_neg c24] at H
     exact absurd H (by simp)
end Go.Proofs.Ytjkbafcepblacaa.X
namespace Go.Proofs.Ytjkbafcepblacaa.X
open Go.RowKit Go.Proofs.YtjkbafcepblacaaW.PrintWords Go.Proofs.YtjkbafcepblacaaW.PrintLast Go.Proofs.YtjkbafcepblacaaW.PrintMore
attribute [local go_sem] max2_int min2_int max_two min_two max_three min_three max_four min_four   -- for this text's walks alone
set_option linter.unusedVariables false
set_option linter.unusedSimpArgs false
/-! ### spec_OrderOf: function 36 -/
def spec_OrderOf.l0 : Nat → List Int → List Int → Int → Option (List Int)
 | 0, _, _, _ => none
 | k + 1, x3, x5, x6 => if x6 ≥ 0 then (if 0 ≤ x6 then (if x6 < (x5.length : Int) then (if x3.length < 17592186044416 then (spec_OrderOf.l0 k (x3 ++ [rd x5 x6]) x5 (wrap64 (x6 - 1))) else (none)) else (none)) else (none)) else (some x3)
def spec_OrderOf.f (k : Nat) (l0_0 : List Int) (a0_1 : Int) (l0_2 : List (S88)) : Option (List Int) := (some (([] : List Int) : List Int)).bind fun y648 => ((spec_l3There.f k l0_0 a0_1 l0_2 0).bind fun t651 => (if t651 = true then ((spec_l3Post.f k l0_0 a0_1 l0_2 0 ([] : List Int) ([] : List Int)).bind fun bt652 => (spec_OrderOf.l0 k y648 bt652.2 (wrap64 ((bt652.2.length : Int) - 1)))) else (some y648)))
theorem spec_OrderOf.mono_l : ∀ k, (∀ y0 y1 y2, LeO (spec_OrderOf.l0 k y0 y1 y2) (spec_OrderOf.l0 (k + 1) y0 y1 y2))
 | 0 => fun _ _ _ r h => by simp [spec_OrderOf.l0] at h
 | k + 1 => by
  have ih0 := spec_OrderOf.mono_l k
  ·intro y0 y1 y2
   unfold spec_OrderOf.l0
   repeat' first
   | (with_reducible exact ih0 _ _ _)
   | (with_reducible exact spec_l3Post.mono _ _ _ _ _ _ _)
   | (with_reducible exact spec_l3There.mono _ _ _ _ _)
   | (with_reducible exact LeO.refl _)
   | (with_reducible exact LeO.none _)
   | (with_reducible refine LeO.ite ?_ ?_)
   | (with_reducible refine LeO.bind ?_ (fun _ => ?_))
   | exact ih0 _ _ _
   | exact spec_l3Post.mono _ _ _ _ _ _ _
   | exact spec_l3There.mono _ _ _ _ _
   | exact LeO.none _
   | refine LeO.ite ?_ ?_
   | refine LeO.bind ?_ (fun _ => ?_)
theorem spec_OrderOf.mono : ∀ a0 a1 a2 k, LeO (spec_OrderOf.f k a0 a1 a2) (spec_OrderOf.f (k + 1) a0 a1 a2) := by
 intro a0 a1 a2 k
 have ih0 := spec_OrderOf.mono_l k
 unfold spec_OrderOf.f
 repeat' first
   | (with_reducible exact ih0 _ _ _)
   | (with_reducible exact spec_l3Post.mono _ _ _ _ _ _ _)
   | (with_reducible exact spec_l3There.mono _ _ _ _ _)
   | (with_reducible exact LeO.refl _)
   | (with_reducible exact LeO.none _)
   | (with_reducible refine LeO.ite ?_ ?_)
   | (with_reducible refine LeO.bind ?_ (fun _ => ?_))
   | exact ih0 _ _ _
   | exact spec_l3Post.mono _ _ _ _ _ _ _
   | exact spec_l3There.mono _ _ _ _ _
   | exact LeO.none _
   | refine LeO.ite ?_ ?_
   | refine LeO.bind ?_ (fun _ => ?_)
set_option maxHeartbeats 8000000 in
set_option maxRecDepth 100000 in
theorem spec_OrderOf.calls (k : Nat) (A0_0 : Option Addr) (c0_0 : Nat) (l0_0 : List Int) (a0_1 : Int) (A0_2 : Option Addr) (c0_2 : Nat) (l0_2 : List (S88)) (r : List Int) (w : World) (hr0_0 : Kd.C (Kd.int .i64) w A0_0 l0_0.length l0_0) (hc0_0 : l0_0.length ≤ c0_0) (hr0_2 : Kd.C k88 w A0_2 l0_2.length l0_2) (hc0_2 : l0_2.length ≤ c0_2) (h : spec_OrderOf.f k l0_0 a0_1 l0_2 = some r) :
  Calls Try.prog 36 #[.agg #[.slice A0_0 l0_0.length c0_0, .int .i64 a0_1, .slice A0_2 l0_2.length c0_2]] w fun e w' => ∃ v0_ : Value, e = .returned (v0_) ∧ Kd.R (Kd.int .i64) 2 w' w.heap.size (fun _ => True) v0_ r ∧ Below w.heap.size w w' := by
 have hu41 := Try.underlying41
 have HR0_0 := Aside0.mk hr0_0
 have HC0_0 := Aside0.mk hc0_0
 clear hr0_0 hc0_0
 have HR0_2 := Aside0.mk hr0_2
 have HC0_2 := Aside0.mk hc0_2
 clear hr0_2 hc0_2
 have HB := Aside0.mk (Below.refl w.heap.size w)
 have H : ((some (([] : List Int) : List Int)).bind fun y648 => ((spec_l3There.f k l0_0 a0_1 l0_2 0).bind fun t651 => (if t651 = true then ((spec_l3Post.f k l0_0 a0_1 l0_2 0 ([] : List Int) ([] : List Int)).bind fun bt652 => (spec_OrderOf.l0 k y648 bt652.2 (wrap64 ((bt652.2.length : Int) - 1)))) else (some y648)))) = some r := h
 clear h
 obtain ⟨y648, hy648⟩ : ∃ y_ : List Int, y_ = (([] : List Int)) := ⟨_, rfl⟩
 replace H : ((spec_l3There.f k l0_0 a0_1 l0_2 0).bind fun t651 => (if t651 = true then ((spec_l3Post.f k l0_0 a0_1 l0_2 0 ([] : List Int) ([] : List Int)).bind fun bt652 => (spec_OrderOf.l0 k y648 bt652.2 (wrap64 ((bt652.2.length : Int) - 1)))) else (some y648))) = some r := by first | (rw [hy648]; with_reducible exact H) | (have H2_ := (Option.bind_some _ _).symm.trans H; rw [hy648]; with_reducible exact H2_) | (have H2_ := (Option.bind_some _ _).symm.trans H; with_reducible exact H2_) | with_reducible exact H | (rw [hy648]; exact H) | exact H
 have Ny648 := Aside0.mk hy648
 clear hy648
 replace H := Option.bind_eq_some_iff.mp H
 obtain ⟨t651, A20, H⟩ := H
 replace H : (if t651 = true then ((spec_l3Post.f k l0_0 a0_1 l0_2 0 ([] : List Int) ([] : List Int)).bind fun bt652 => (spec_OrderOf.l0 k y648 bt652.2 (wrap64 ((bt652.2.length : Int) - 1)))) else (some y648)) = some r := H
 have A2 := Aside0.mk A20
 clear A20
 by_cases c3 : t651 = true
 ·subst c3
  have H1 := (if_pos rfl).symm.trans H
  clear H
  have H := H1
  clear H1
  replace H := Option.bind_eq_some_iff.mp H
  obtain ⟨⟨t652, t655⟩, A40, H⟩ := H
  replace H : (spec_OrderOf.l0 k y648 t655 (wrap64 ((t655.length : Int) - 1))) = some r := H
  have A4 := Aside0.mk A40
  clear A40
  have H' := Aside0.mk H
  clear H
  go_enter Try.func36, Try.ntmps36
  go_wp2_with (first | ((with_reducible refine gate_dst (N := 1) rfl ?_); refine box_event ?hg (N := 1) ?hd (cs := #[.slice A0_0 l0_0.length c0_0, .int .i64 a0_1, .slice A0_2 l0_2.length c0_2]) (t := 41) ?hr ?_; (case hd => rfl); (case hg => rfl); (case hr => first | (go_simp; done) | (go_simp; rfl)); intro gb647 hg w5 hbox hb; have n0_ := Aside0.mk (below_step hB_ hb); have n1_ := Aside0.mk (hbox); have n2_ := Aside0.mk ((sz_ hg (below_size hB_) : w.heap.size ≤ gb647)); have n3_ := Aside0.mk ((sz_ hg (below_size hB_) : w.heap.size ≤ gb647)); clear HB; have HB := n0_; have BK647 := n1_; have GW647 := n2_; have GE647 := n3_; clear n0_ n1_ n2_ n3_; clear hb hbox hg) | ((with_reducible refine gate_dst (N := 7) rfl ?_); refine Kd.R_lit (Kd.int .i64) _ 2 ?hg (N := 7) ?hd (xs := ([] : List Int)) (inner := []) (ok := fun _ => True) (okp := fun _ => True) ?hr ?hp (fun _ hk => hk) trivial (Below.refl _ _) (Nat.le_refl _) (by simp) ?_; (case hd => rfl); (case hg => rfl); (case hr => first | (go_simp; done) | (go_simp; rfl)); (case hp => exact (Reps.none _ _)); intro v649 w6 ho7 hb hg_ hnew_; clear hg_ hnew_; (first | rw [← Ny648.out] at ho7 | (simp only [Int.reduceToNat] at ho7; rw [← Ny648.out] at ho7)); have n0_ := Aside0.mk (Kd.R_lower ho7 (below_size hS_)); have n1_ := Aside0.mk (blk_below (g := gb647) (o := .cells #[.slice A0_0 l0_0.length c0_0, .int .i64 a0_1, .slice A0_2 l0_2.length c0_2] 41 (0, 0)) bK647_ hb); have n2_ := Aside0.mk (below_step hS_ hb); clear BK647; clear HB; have HO650 := n0_; have BK647 := n1_; have HB := n2_; clear n0_ n1_ n2_; clear hb ho7; obtain ⟨hcz8_0, hcz8_1, hcz8_2, hfz8_0, hfz8_1, hfz8_2⟩ := blkc3_ BK647.out) | ((with_reducible refine gate_callee (f := 71) rfl ?_); refine gL_ (some 9) Try.func71 #[.agg #[.slice A0_0 l0_0.length c0_0, .int .i64 a0_1, .slice A0_2 l0_2.length c0_2], .int .i64 0] ?_; (with_reducible refine (spec_l3There.calls k _ _ l0_0 a0_1 _ _ l0_2 0 true _ ?side1 ?side2 ?side3 ?side4 A2.out).mono ?_); (case side1 => exact cHR0_0_); (case side2 => exact HC0_0.out); (case side3 => exact cHR0_2_); (case side4 => exact HC0_2.out); rintro e w9 ⟨rfl, hb⟩; refine ⟨_, rfl, ?_⟩; have n0_ := Aside0.mk (Kd.R_below rHO650_ hb); have n1_ := Aside0.mk (blk_below (g := gb647) (o := .cells #[.slice A0_0 l0_0.length c0_0, .int .i64 a0_1, .slice A0_2 l0_2.length c0_2] 41 (0, 0)) bK647_ hb); have n2_ := Aside0.mk (below_step hS_ hb); clear HO650; clear BK647; clear HB; have HO650 := n0_; have BK647 := n1_; have HB := n2_; clear n0_ n1_ n2_; (try clear hb); (try clear hb2); (try clear hk); (try clear hi); obtain ⟨hcz10_0, hcz10_1, hcz10_2, hfz10_0, hfz10_1, hfz10_2⟩ := blkc3_ BK647.out) | ((with_reducible refine gate_callee (f := 78) rfl ?_); refine gL_ (some 14) Try.func78 #[.agg #[.slice A0_0 l0_0.length c0_0, .int .i64 a0_1, .slice A0_2 l0_2.length c0_2], .int .i64 0, .slice none 0 0, .slice none 0 0] ?_; (refine (spec_l3Post.calls k _ _ l0_0 a0_1 _ _ l0_2 0 (fun k_ => some k_ = (.slice none 0 0 : Value).ownBlock) (.slice none 0 0) ([] : List Int) (fun k_ => some k_ = (.slice none 0 0 : Value).ownBlock) (.slice none 0 0) ([] : List Int) t652 t655 w _ ?side1 ?side2 ?side3 ?side4 ?side5 ?side6 ?side7 ?side8 ?side9 A4.out).mono ?_); (case side1 => repeat (first | (with_reducible first | exact HB.out | apply below_alloc | apply pw_below_drewN | apply below_drew1 | refine below_set ?_ GE647.out) | exact HB.out)); (case side2 => exact Kd.C_kept_came (Kd.heap_int .i64) HR0_0.out hS_ (fun k_ hs_ => Or.elim hs_ (fun e_ => (fun e_ => by simp [Value.ownBlock] at e_) e_) (fun e_ => (fun e_ => by simp [Value.ownBlock] at e_) e_))); (case side3 => exact HC0_0.out); (case side4 => exact Kd.C_kept_came k88_heap HR0_2.out hS_ (fun k_ hs_ => Or.elim hs_ (fun e_ => (fun e_ => by simp [Value.ownBlock] at e_) e_) (fun e_ => (fun e_ => by simp [Value.ownBlock] at e_) e_))); (case side5 => exact HC0_2.out); (case side6 => exact Kd.R_nil _ _ _ _ _); (case side7 => intro k_ e_ e2_; simp [Value.ownBlock] at e_ e2_); (case side8 => exact Kd.R_nil _ _ _ _ _); (case side9 => intro k_ e_ e2_; simp [Value.ownBlock] at e_ e2_); rintro e w11 ⟨v653, v656, rfl, ho0, ho1, hb, hkp⟩; refine ⟨_, rfl, ?_⟩; have n0_ := Aside0.mk (blk_kept bK647_ hkp (fun hs_ => Or.elim hs_ (fun e_ => (fun e_ => by simp [Value.ownBlock] at e_) e_) (fun e_ => (fun e_ => by simp [Value.ownBlock] at e_) e_))); have n1_ := Aside0.mk (Kd.R_mono (ok' := fun k_ => some k_ ≠ (v653 : Value).ownBlock ∧ some k_ ≠ (v656 : Value).ownBlock) (Kd.R_keptB (HO650.out) hkp (fun k_ hk_ hs_ => Or.elim hs_ (fun e_ => (fun e_ => by simp [Value.ownBlock] at e_) e_) (fun e_ => (fun e_ => by simp [Value.ownBlock] at e_) e_))) (fun k_ hk_ => ⟨fun e_ => Or.elim (ho0.1 k_ e_.symm).1 (fun hs_ => hk_.2.1 hs_) (fun hn_ => Nat.not_le.2 hk_.2.2 hn_), fun e_ => Or.elim (ho1.1 k_ e_.symm).1 (fun hs_ => hk_.2.1 hs_) (fun hn_ => Nat.not_le.2 hk_.2.2 hn_)⟩)); have n2_ := Aside0.mk (Kd.R_mono (ok' := fun k_ => some k_ ≠ (v656 : Value).ownBlock ∧ some k_ ≠ (v649 : Value).ownBlock) ho0 (fun k_ hk_ => ⟨hk_.2, Or.elim hk_.1 (fun hs_ => Or.elim hs_ (fun hs_ => absurd hs_ (by simp [Value.ownBlock])) (fun hs_ => absurd hs_ (by simp [Value.ownBlock]))) (fun hn_ => (Kd.fresh' (Kd.R_lt rHO650_) k_ hn_))⟩)); have n3_ := Aside0.mk (Kd.R_mono (ok' := fun k_ => some k_ ≠ (v653 : Value).ownBlock ∧ some k_ ≠ (v649 : Value).ownBlock) ho1 (fun k_ hk_ => ⟨hk_.2, Or.elim hk_.1 (fun hs_ => Or.elim hs_ (fun hs_ => absurd hs_ (by simp [Value.ownBlock])) (fun hs_ => absurd hs_ (by simp [Value.ownBlock]))) (fun hn_ => (Kd.fresh' (Kd.R_lt rHO650_) k_ hn_))⟩)); have n4_ := Aside0.mk (hb); clear BK647; clear HO650; clear HB; have BK647 := n0_; have HO650 := n1_; have HO654 := n2_; have HO657 := n3_; have HB := n4_; clear n0_ n1_ n2_ n3_ n4_; (try clear hb); (try clear hkp); (try clear ho0); (try clear ho1); obtain ⟨Ao12, co12, eo12⟩ := Kd.R_slice HO657.out; subst eo12))
  go_loopg [3, 6] k (fun kq v3 v6 w' => ∃ (x3_1 : List Int) (x6_1 : Int), v6 = .int .i64 x6_1 ∧ Aside0 (spec_OrderOf.l0 kq x3_1 t655 x6_1 = some r) ∧ Aside0 (kq ≤ k) ∧ Aside0 (Kd.R (Kd.int .i64) 2 w' w.heap.size (fun k_ => some k_ ≠ ((.slice Ao12 t655.length co12) : Value).ownBlock) v3 x3_1) ∧ Aside0 (Kd.R (Kd.int .i64) 2 w' w.heap.size (fun k_ => some k_ ≠ (v3 : Value).ownBlock) (.slice Ao12 t655.length co12) t655) ∧ Aside0 (w'.heap[gb647]? = some (.cells #[(.slice A0_0 l0_0.length c0_0), .int .i64 a0_1, (.slice A0_2 l0_2.length c0_2)] 41 (0, 0))) ∧ Aside0 (Below w.heap.size w w'))
  case atStart => exact ⟨(y648), (wrap64 ((t655.length : Int) - 1)), rF_, H', ⟨Nat.le_refl _⟩, ⟨by (with_reducible repeat (first | apply Kd.R_alloc | apply Kd.R_drewN | apply Kd.R_drew)); exact Kd.R_mono HO650.out (fun _ hk => hk.2)⟩, ⟨by (with_reducible repeat (first | apply Kd.R_alloc | apply Kd.R_drewN | apply Kd.R_drew)); exact Kd.R_mono HO657.out (fun _ hk => hk.2)⟩, ⟨bK647_⟩, ⟨hS_⟩⟩
  case round =>
   clear H'
   try clear p2
   try clear c3
   try clear p6
   try clear c7
   try clear hcz10_0 hcz10_1 hcz10_2 hfz10_0 hfz10_1 hfz10_2
   try clear hcz8_0 hcz8_1 hcz8_2 hfz8_0 hfz8_1 hfz8_2
   obtain ⟨x3_1, x6_1, rfl, HA, HK1, HO_3, HO_5, BK647, HB⟩ := hrel
   cases gk with
   | zero => exact absurd HA.out (by simp [spec_OrderOf.l0])
   | succ k1 =>
    have H := HA.out
    clear HA
    simp only [spec_OrderOf.l0] at H
    by_cases c13 : x6_1 ≥ 0
    ·rw [if_pos c13] at H
     have c13b0 : decide (0 ≤ x6_1) = true := decide_eq_true c13
     clear c13
     by_cases c14 : 0 ≤ x6_1
     ·rw [if_pos c14] at H
      have c14b0 : decide (0 ≤ x6_1) = true := decide_eq_true c14
      clear c14
      by_cases c15 : x6_1 < (t655.length : Int)
      ·rw [if_pos c15] at H
       have c15b0 : decide (x6_1 < (t655.length : Int)) = true := decide_eq_true c15
       clear c15
       by_cases c16 : x3_1.length < 17592186044416
       ·rw [if_pos c16] at H
        have LMc16 := Aside0.mk c16
        clear c16
        obtain ⟨y659, hy659⟩ : ∃ y_ : List Int, y_ = (x3_1 ++ [rd t655 x6_1]) := ⟨_, rfl⟩
        replace H : (spec_OrderOf.l0 k1 y659 t655 (wrap64 (x6_1 - 1))) = some r := by first | (rw [hy659]; with_reducible exact H) | (have H2_ := (Option.bind_some _ _).symm.trans H; rw [hy659]; with_reducible exact H2_) | (have H2_ := (Option.bind_some _ _).symm.trans H; with_reducible exact H2_) | with_reducible exact H | (rw [hy659]; exact H) | exact H
        have Ny659 := Aside0.mk hy659
        clear hy659
        have H' := Aside0.mk H
        clear H
        have p658 : 0 ≤ (x6_1 : Int) := oD_
        have q658 : x6_1 < (t655.length : Int) := oD_
        obtain ⟨ad658, e658, hx658_0⟩ := Kd.at_int (Kd.R_reads' HO_5.out).2.2 x6_1 p658 q658
        cases e658
        replace p658 := eq_true p658
        replace q658 := eq_true q658
        go_wp2_with (first | ((with_reducible refine gate_builtin (b := .append) (xs := #[.tmp 24, .tmp 29]) rfl ?_); at_builtin; refine Kd.R_append (Kd.int .i64) (w0 := w) w.heap.size rfl (.tmp 24) (.tmp 29) 22 2 (.int .i64 0) 8 rfl Try.underlying22 info2 rfl (by decide) (by omega) u3 x3_1 (rd t655 x6_1) [.int .i64 (rd t655 x6_1)] (fun k_ => some k_ ≠ (.slice (some ad658) t655.length co12 : Value).ownBlock) (fun _ => False) rfl rfl ?aP (fun _ hk => hk.elim) ?aF ?aO ?aB ?aS ?aL ?_; (case aP => exact rfl); (case aB => exact hS_); (case aF => exact (fun k_ hk => Kd.fresh' (Kd.R_lt rHO_5_) k_ hk)); (case aO => exact rHO_3_); (case aS => exact (below_size hS_)); (case aL => have := LMc16.out; omega); intro v660 w17 ho hb hg hat; rw [← Ny659.out] at ho; have n0_ := Aside0.mk (Kd.R_after (ok := (fun _ => True)) (by (with_reducible repeat (first | apply Kd.R_alloc | apply Kd.R_drewN | apply Kd.R_drew)); exact Kd.R_mono HO_5.out (fun _ hk => ⟨trivial, hk⟩)) hg hat); have n1_ := Aside0.mk (blk_grown (g := gb647) (o := .cells #[.slice A0_0 l0_0.length c0_0, .int .i64 a0_1, .slice A0_2 l0_2.length c0_2] 41 (0, 0)) bK647_ hg (Kd.R_ne HO_3.out BK647.out (by decide))); have n2_ := Aside0.mk (hb); have n3_ := Aside0.mk (ho); clear HO_5; clear BK647; clear HB; clear HO_3; have HO_5 := n0_; have BK647 := n1_; have HB := n2_; have HO661 := n3_; clear n0_ n1_ n2_ n3_; clear ho hb hg hat))
        go_roundg k1
        case measure => have := HK1.out; omega
        case rel => exact ⟨(y659), (wrap64 (x6_1 - 1)), rF_, H', ⟨by have := HK1.out; omega⟩, ⟨rHO661_⟩, ⟨by (with_reducible repeat (first | apply Kd.R_alloc | apply Kd.R_drewN | apply Kd.R_drew)); exact Kd.R_mono HO_5.out (fun _ hk => hk.2)⟩, ⟨bK647_⟩, ⟨hS_⟩⟩
       ·rw [if_neg c16] at H
        exact absurd H (by simp)
      ·rw [if_neg c15] at H
       exact absurd H (by simp)
     ·rw [if_neg c14] at H
      exact absurd H (by simp)
    ·rw [if_neg c13] at H
     have c13b0 : decide (0 ≤ x6_1) = false := decide_eq_false c13
     clear c13
     obtain rfl := Option.some.inj H
     go_wp2
     go_ret
     exact ⟨_, rG_, by (with_reducible repeat (first | apply Kd.R_alloc | apply Kd.R_drewN | apply Kd.R_drew)); exact Kd.R_mono HO_3.out (fun _ hk => trivial), hS_⟩
 ·replace c3 := Bool.eq_false_iff.mpr c3
  subst c3
  have H1 := (if_neg (show ¬ (false = true) by decide)).symm.trans H
  clear H
  have H := H1
  clear H1
  obtain rfl := Option.some.inj H
  go_enter Try.func36, Try.ntmps36
  go_wp2_with (first | ((with_reducible refine gate_dst (N := 1) rfl ?_); refine box_event ?hg (N := 1) ?hd (cs := #[.slice A0_0 l0_0.length c0_0, .int .i64 a0_1, .slice A0_2 l0_2.length c0_2]) (t := 41) ?hr ?_; (case hd => rfl); (case hg => rfl); (case hr => first | (go_simp; done) | (go_simp; rfl)); intro gb647 hg w18 hbox hb; have n0_ := Aside0.mk (below_step hB_ hb); have n1_ := Aside0.mk (hbox); have n2_ := Aside0.mk ((sz_ hg (below_size hB_) : w.heap.size ≤ gb647)); have n3_ := Aside0.mk ((sz_ hg (below_size hB_) : w.heap.size ≤ gb647)); clear HB; have HB := n0_; have BK647 := n1_; have GW647 := n2_; have GE647 := n3_; clear n0_ n1_ n2_ n3_; clear hb hbox hg) | ((with_reducible refine gate_dst (N := 7) rfl ?_); refine Kd.R_lit (Kd.int .i64) _ 2 ?hg (N := 7) ?hd (xs := ([] : List Int)) (inner := []) (ok := fun _ => True) (okp := fun _ => True) ?hr ?hp (fun _ hk => hk) trivial (Below.refl _ _) (Nat.le_refl _) (by simp) ?_; (case hd => rfl); (case hg => rfl); (case hr => first | (go_simp; done) | (go_simp; rfl)); (case hp => exact (Reps.none _ _)); intro v649 w19 ho20 hb hg_ hnew_; clear hg_ hnew_; (first | rw [← Ny648.out] at ho20 | (simp only [Int.reduceToNat] at ho20; rw [← Ny648.out] at ho20)); have n0_ := Aside0.mk (Kd.R_lower ho20 (below_size hS_)); have n1_ := Aside0.mk (blk_below (g := gb647) (o := .cells #[.slice A0_0 l0_0.length c0_0, .int .i64 a0_1, .slice A0_2 l0_2.length c0_2] 41 (0, 0)) bK647_ hb); have n2_ := Aside0.mk (below_step hS_ hb); clear BK647; clear HB; have HO650 := n0_; have BK647 := n1_; have HB := n2_; clear n0_ n1_ n2_; clear hb ho20; obtain ⟨hcz21_0, hcz21_1, hcz21_2, hfz21_0, hfz21_1, hfz21_2⟩ := blkc3_ BK647.out) | ((with_reducible refine gate_callee (f := 71) rfl ?_); refine gL_ (some 9) Try.func71 #[.agg #[.slice A0_0 l0_0.length c0_0, .int .i64 a0_1, .slice A0_2 l0_2.length c0_2], .int .i64 0] ?_; (with_reducible refine (spec_l3There.calls k _ _ l0_0 a0_1 _ _ l0_2 0 false _ ?side1 ?side2 ?side3 ?side4 A2.out).mono ?_); (case side1 => exact cHR0_0_); (case side2 => exact HC0_0.out); (case side3 => exact cHR0_2_); (case side4 => exact HC0_2.out); rintro e w22 ⟨rfl, hb⟩; refine ⟨_, rfl, ?_⟩; have n0_ := Aside0.mk (Kd.R_below rHO650_ hb); have n1_ := Aside0.mk (blk_below (g := gb647) (o := .cells #[.slice A0_0 l0_0.length c0_0, .int .i64 a0_1, .slice A0_2 l0_2.length c0_2] 41 (0, 0)) bK647_ hb); have n2_ := Aside0.mk (below_step hS_ hb); clear HO650; clear BK647; clear HB; have HO650 := n0_; have BK647 := n1_; have HB := n2_; clear n0_ n1_ n2_; (try clear hb); (try clear hb2); (try clear hk); (try clear hi)))
  go_ret
  exact ⟨_, rG_, rHO650_, hS_⟩
/-! ### laws_has: function 37 -/
def laws_has.l0 : Nat → List Int → Int → Int → Option (Bool)
 | 0, _, _, _ => none
 | k + 1, x0, x1, x5 => if x5 < (x0.length : Int) then (if 0 ≤ x5 then (if (rd x0 x5) = x1 then (some true) else (laws_has.l0 k x0 x1 (wrap64 (x5 + 1)))) else (none)) else (some false)
def laws_has.f (k : Nat) (l0 : List Int) (a1 : Int) : Option (Bool) := laws_has.l0 k l0 a1 0
theorem laws_has.mono_l : ∀ k, (∀ y0 y1 y2, LeO (laws_has.l0 k y0 y1 y2) (laws_has.l0 (k + 1) y0 y1 y2))
 | 0 => fun _ _ _ r h => by simp [laws_has.l0] at h
 | k + 1 => by
  have ih0 := laws_has.mono_l k
  ·intro y0 y1 y2
   unfold laws_has.l0
   repeat' first
   | (with_reducible exact ih0 _ _ _)
   | (with_reducible exact LeO.refl _)
   | (with_reducible exact LeO.none _)
   | (with_reducible refine LeO.ite ?_ ?_)
   | (with_reducible refine LeO.bind ?_ (fun _ => ?_))
   | exact ih0 _ _ _
   | exact LeO.none _
   | refine LeO.ite ?_ ?_
   | refine LeO.bind ?_ (fun _ => ?_)
theorem laws_has.mono : ∀ a0 a1 k, LeO (laws_has.f k a0 a1) (laws_has.f (k + 1) a0 a1) := by
 intro a0 a1 k
 have ih0 := laws_has.mono_l k
 unfold laws_has.f
 repeat' first
   | (with_reducible exact ih0 _ _ _)
   | (with_reducible exact LeO.refl _)
   | (with_reducible exact LeO.none _)
   | (with_reducible refine LeO.ite ?_ ?_)
   | (with_reducible refine LeO.bind ?_ (fun _ => ?_))
   | exact ih0 _ _ _
   | exact LeO.none _
   | refine LeO.ite ?_ ?_
   | refine LeO.bind ?_ (fun _ => ?_)
set_option maxHeartbeats 8000000 in
set_option maxRecDepth 100000 in
theorem laws_has.calls (k : Nat) (A0 : Option Addr) (c0 : Nat) (l0 : List Int) (a1 : Int) (r : Bool) (w : World) (hr0 : Kd.C (Kd.int .i64) w A0 l0.length l0) (hc0 : l0.length ≤ c0) (h : laws_has.f k l0 a1 = some r) :
  Calls Try.prog 37 #[.slice A0 l0.length c0, .int .i64 a1] w fun e w' => e = .returned (.bool r) ∧ Drawn0 w w' := by
 have HR0 := Aside0.mk hr0
 have HC0 := Aside0.mk hc0
 clear hr0 hc0
 have H : (laws_has.l0 k l0 a1 0) = some r := h
 clear h
 have H' := Aside0.mk H
 clear H
 go_enter Try.func37, Try.ntmps37
 go_wp2
 go_loopg [5] k (fun kq v5 w' => ∃ (x5_1 : Int), v5 = .int .i64 x5_1 ∧ Aside0 (laws_has.l0 kq l0 a1 x5_1 = some r) ∧ Aside0 (kq ≤ k) ∧ Drawn0 w w')
 case atStart => exact ⟨(0), rF_, H', ⟨Nat.le_refl _⟩, by repeat (first | exact Drawn0.refl _ | apply Drawn0.step)⟩
 case round =>
  clear H'
  try clear p2
  obtain ⟨x5_1, rfl, HA, HK1, ⟨m1, rfl⟩⟩ := hrel
  cases gk with
  | zero => exact absurd HA.out (by simp [laws_has.l0])
  | succ k1 =>
   have H := HA.out
   clear HA
   simp only [laws_has.l0] at H
   by_cases c3 : x5_1 < (l0.length : Int)
   ·rw [if_pos c3] at H
    have c3b0 : decide (x5_1 < (l0.length : Int)) = true := decide_eq_true c3
    clear c3
    by_cases c4 : 0 ≤ x5_1
    ·rw [if_pos c4] at H
     have c4b0 : decide (0 ≤ x5_1) = true := decide_eq_true c4
     clear c4
     by_cases c5 : (rd l0 x5_1) = a1
     ·rw [if_pos c5] at H
      have c5b0 : ((rd l0 x5_1) == a1) = true := beq_iff_eq.mpr c5
      have c5b1 : ((rd l0 x5_1) != a1) = false := bne_eq_false_iff_eq.mpr c5
      clear c5
      obtain rfl := Option.some.inj H
      have p662 : 0 ≤ (x5_1 : Int) := oD_
      have q662 : x5_1 < (l0.length : Int) := oD_
      obtain ⟨ad662, e662, hx662_0⟩ := Kd.at_int HR0.out x5_1 p662 q662
      cases e662
      replace p662 := eq_true p662
      replace q662 := eq_true q662
      go_wp2
      go_ret
      exact ⟨rF_, by repeat (first | exact Drawn0.refl _ | apply Drawn0.step)⟩
     ·rw [if_neg c5] at H
      have c5b0 : ((rd l0 x5_1) == a1) = false := beq_eq_false_iff_ne.mpr c5
      have c5b1 : ((rd l0 x5_1) != a1) = true := bne_iff_ne.mpr c5
      have H' := Aside0.mk H
      clear H
      have p662 : 0 ≤ (x5_1 : Int) := oD_
      have q662 : x5_1 < (l0.length : Int) := oD_
      obtain ⟨ad662, e662, hx662_0⟩ := Kd.at_int HR0.out x5_1 p662 q662
      cases e662
      replace p662 := eq_true p662
      replace q662 := eq_true q662
      go_wp2
      go_roundg k1
      case measure => have := HK1.out; omega
      case rel => exact ⟨(wrap64 (x5_1 + 1)), rF_, H', ⟨by have := HK1.out; omega⟩, by repeat (first | exact Drawn0.refl _ | apply Drawn0.step)⟩
    ·rw [if_neg c4] at H
     exact absurd H (by simp)
   ·rw [if_neg c3] at H
    have c3b0 : decide (x5_1 < (l0.length : Int)) = false := decide_eq_false c3
    clear c3
    obtain rfl := Option.some.inj H
    go_wp2
    go_ret
    exact ⟨rF_, by repeat (first | exact Drawn0.refl _ | apply Drawn0.step)⟩
/-! ### slices_Index_int64_int64: function 122 -/
def slices_Index_int64_int64.l0 : Nat → List Int → Int → Int → Int → Option (Int)
 | 0, _, _, _, _ => none
 | k + 1, x0, x1, x7, x8 => if x8 < x7 then (if 0 ≤ x8 then (if x8 < (x0.length : Int) then (if x1 = (rd x0 x8) then (some x8) else (slices_Index_int64_int64.l0 k x0 x1 x7 (wrap64 (x8 + 1)))) else (none)) else (none)) else (some (-1))
def slices_Index_int64_int64.f (k : Nat) (l0 : List Int) (a1 : Int) : Option (Int) := slices_Index_int64_int64.l0 k l0 a1 (l0.length : Int) 0
theorem slices_Index_int64_int64.mono_l : ∀ k, (∀ y0 y1 y2 y3, LeO (slices_Index_int64_int64.l0 k y0 y1 y2 y3) (slices_Index_int64_int64.l0 (k + 1) y0 y1 y2 y3))
 | 0 => fun _ _ _ _ r h => by simp [slices_Index_int64_int64.l0] at h
 | k + 1 => by
  have ih0 := slices_Index_int64_int64.mono_l k
  ·intro y0 y1 y2 y3
   unfold slices_Index_int64_int64.l0
   repeat' first
   | (with_reducible exact ih0 _ _ _ _)
   | (with_reducible exact LeO.refl _)
   | (with_reducible exact LeO.none _)
   | (with_reducible refine LeO.ite ?_ ?_)
   | (with_reducible refine LeO.bind ?_ (fun _ => ?_))
   | exact ih0 _ _ _ _
   | exact LeO.none _
   | refine LeO.ite ?_ ?_
   | refine LeO.bind ?_ (fun _ => ?_)
theorem slices_Index_int64_int64.mono : ∀ a0 a1 k, LeO (slices_Index_int64_int64.f k a0 a1) (slices_Index_int64_int64.f (k + 1) a0 a1) := by
 intro a0 a1 k
 have ih0 := slices_Index_int64_int64.mono_l k
 unfold slices_Index_int64_int64.f
 repeat' first
   | (with_reducible exact ih0 _ _ _ _)
   | (with_reducible exact LeO.refl _)
   | (with_reducible exact LeO.none _)
   | (with_reducible refine LeO.ite ?_ ?_)
   | (with_reducible refine LeO.bind ?_ (fun _ => ?_))
   | exact ih0 _ _ _ _
   | exact LeO.none _
   | refine LeO.ite ?_ ?_
   | refine LeO.bind ?_ (fun _ => ?_)
set_option maxHeartbeats 8000000 in
set_option maxRecDepth 100000 in
theorem slices_Index_int64_int64.calls (k : Nat) (A0 : Option Addr) (c0 : Nat) (l0 : List Int) (a1 : Int) (r : Int) (w : World) (hr0 : Kd.C (Kd.int .i64) w A0 l0.length l0) (hc0 : l0.length ≤ c0) (h : slices_Index_int64_int64.f k l0 a1 = some r) :
  Calls Try.prog 122 #[.slice A0 l0.length c0, .int .i64 a1] w fun e w' => e = .returned (.int .i64 r) ∧ Drawn0 w w' := by
 have HR0 := Aside0.mk hr0
 have HC0 := Aside0.mk hc0
 clear hr0 hc0
 have H : (slices_Index_int64_int64.l0 k l0 a1 (l0.length : Int) 0) = some r := h
 clear h
 have H' := Aside0.mk H
 clear H
 go_enter Try.func122, Try.ntmps122
 go_wp2
 go_loopg [8] k (fun kq v8 w' => ∃ (x8_1 : Int), v8 = .int .i64 x8_1 ∧ Aside0 (slices_Index_int64_int64.l0 kq l0 a1 (l0.length : Int) x8_1 = some r) ∧ Aside0 (kq ≤ k) ∧ Drawn0 w w')
 case atStart => exact ⟨(0), rF_, H', ⟨Nat.le_refl _⟩, by repeat (first | exact Drawn0.refl _ | apply Drawn0.step)⟩
 case round =>
  clear H'
  try clear c1
  try clear p2
  obtain ⟨x8_1, rfl, HA, HK1, ⟨m1, rfl⟩⟩ := hrel
  cases gk with
  | zero => exact absurd HA.out (by simp [slices_Index_int64_int64.l0])
  | succ k1 =>
   have H := HA.out
   clear HA
   simp only [slices_Index_int64_int64.l0] at H
   by_cases c3 : x8_1 < (l0.length : Int)
   ·rw [if_pos c3] at H
    have c3b0 : decide (x8_1 < (l0.length : Int)) = true := decide_eq_true c3
    clear c3
    by_cases c4 : 0 ≤ x8_1
    ·rw [if_pos c4] at H
     have c4b0 : decide (0 ≤ x8_1) = true := decide_eq_true c4
     clear c4
     by_cases c5 : x8_1 < (l0.length : Int)
     ·rw [if_pos c5] at H
      have c5b0 : decide (x8_1 < (l0.length : Int)) = true := decide_eq_true c5
      clear c5
      by_cases c6 : a1 = (rd l0 x8_1)
      ·rw [if_pos c6] at H
       have c6b0 : (a1 == (rd l0 x8_1)) = true := beq_iff_eq.mpr c6
       have c6b1 : (a1 != (rd l0 x8_1)) = false := bne_eq_false_iff_eq.mpr c6
       clear c6
       obtain rfl := Option.some.inj H
       have p663 : 0 ≤ (x8_1 : Int) := oD_
       have q663 : x8_1 < (l0.length : Int) := oD_
       obtain ⟨ad663, e663, hx663_0⟩ := Kd.at_int HR0.out x8_1 p663 q663
       cases e663
       replace p663 := eq_true p663
       replace q663 := eq_true q663
       go_wp2
       go_ret
       exact ⟨rF_, by repeat (first | exact Drawn0.refl _ | apply Drawn0.step)⟩
      ·rw [if_neg c6] at H
       have c6b0 : (a1 == (rd l0 x8_1)) = false := beq_eq_false_iff_ne.mpr c6
       have c6b1 : (a1 != (rd l0 x8_1)) = true := bne_iff_ne.mpr c6
       have H' := Aside0.mk H
       clear H
       have p663 : 0 ≤ (x8_1 : Int) := oD_
       have q663 : x8_1 < (l0.length : Int) := oD_
       obtain ⟨ad663, e663, hx663_0⟩ := Kd.at_int HR0.out x8_1 p663 q663
       cases e663
       replace p663 := eq_true p663
       replace q663 := eq_true q663
       go_wp2
       go_roundg k1
       case measure => have := HK1.out; omega
       case rel => exact ⟨(wrap64 (x8_1 + 1)), rF_, H', ⟨by have := HK1.out; omega⟩, by repeat (first | exact Drawn0.refl _ | apply Drawn0.step)⟩
     ·rw [if_neg c5] at H
      exact absurd H (by simp)
    ·rw [if_neg c4] at H
     exact absurd H (by simp)
   ·rw [if_neg c3] at H
    have c3b0 : decide (x8_1 < (l0.length : Int)) = false := decide_eq_false c3
    clear c3
    obtain rfl := Option.some.inj H
    go_wp2
    go_ret
    exact ⟨rF_, by repeat (first | exact Drawn0.refl _ | apply Drawn0.step)⟩
/-! ### slices_Contains_int64_int64: function 113 -/
def slices_Contains_int64_int64.f (k : Nat) (l0 : List Int) (a1 : Int) : Option (Bool) := (slices_Index_int64_int64.f k l0 a1).bind fun t664 => (some (decide (t664 ≥ 0)))
theorem slices_Contains_int64_int64.mono : ∀ a0 a1 k, LeO (slices_Contains_int64_int64.f k a0 a1) (slices_Contains_int64_int64.f (k + 1) a0 a1) := by
 intro a0 a1 k
 unfold slices_Contains_int64_int64.f
 repeat' first
   | (with_reducible exact slices_Index_int64_int64.mono _ _ _)
   | (with_reducible exact LeO.refl _)
   | (with_reducible exact LeO.none _)
   | (with_reducible refine LeO.ite ?_ ?_)
   | (with_reducible refine LeO.bind ?_ (fun _ => ?_))
   | exact slices_Index_int64_int64.mono _ _ _
   | exact LeO.none _
   | refine LeO.ite ?_ ?_
   | refine LeO.bind ?_ (fun _ => ?_)
set_option maxHeartbeats 8000000 in
set_option maxRecDepth 100000 in
theorem slices_Contains_int64_int64.calls (k : Nat) (A0 : Option Addr) (c0 : Nat) (l0 : List Int) (a1 : Int) (r : Bool) (w : World) (hr0 : Kd.C (Kd.int .i64) w A0 l0.length l0) (hc0 : l0.length ≤ c0) (h : slices_Contains_int64_int64.f k l0 a1 = some r) :
  Calls Try.prog 113 #[.slice A0 l0.length c0, .int .i64 a1] w fun e w' => e = .returned (.bool r) ∧ Drawn0 w w' := by
 have HR0 := Aside0.mk hr0
 have HC0 := Aside0.mk hc0
 clear hr0 hc0
 have H : ((slices_Index_int64_int64.f k l0 a1).bind fun t664 => (some (decide (t664 ≥ 0)))) = some r := h
 clear h
 replace H := Option.bind_eq_some_iff.mp H
 obtain ⟨t664, A30, H⟩ := H
 replace H : (some (decide (t664 ≥ 0))) = some r := H
 have A3 := Aside0.mk A30
 clear A30
 obtain rfl := Option.some.inj H
 go_enter Try.func113, Try.ntmps113
 go_wp2_with (first | ((with_reducible refine gate_callee (f := 122) rfl ?_); refine gL_ (some 7) Try.func122 #[.slice A0 l0.length c0, .int .i64 a1] ?_; (with_reducible refine (slices_Index_int64_int64.calls k _ _ l0 a1 t664 _ ?side1 ?side2 A3.out).mono ?_); (case side1 => repeat (first | exact HR0.out | (with_reducible refine Kd.C_alloc ?_ _) | (with_reducible refine Kd.C_drewN ?_ _) | (with_reducible refine Kd.C_drew ?_))); (case side2 => exact HC0.out); rintro e w' ⟨rfl, ⟨nd, rfl⟩⟩; refine ⟨_, rfl, ?_⟩))
 go_ret
 exact ⟨rF_, by repeat (first | exact Drawn0.refl _ | apply Drawn0.step)⟩
/-! ### impl_predsOf: function 79 -/
def impl_predsOf.l0 : Nat → Int → List Int → List (S88) → Int → Int → Option (List Int)
 | 0, _, _, _, _, _ => none
 | k + 1, x1, x5, x10, x11, x12 => if x12 < x11 then (if 0 ≤ x12 then (if x12 < (x10.length : Int) then ((impl_leadsTo.f ((rd_T88 x10 x12).f2.f0) ((rd_T88 x10 x12).f2.f1) ((rd_T88 x10 x12).f2.f2) ((rd_T88 x10 x12).f2.f3)).bind fun t671 => ((slices_Contains_int64_int64.f k t671 x1).bind fun t674 => (if t674 = true then (if x5.length < 17592186044416 then (impl_predsOf.l0 k x1 (x5 ++ [x12]) x10 x11 (wrap64 (x12 + 1))) else (none)) else (impl_predsOf.l0 k x1 x5 x10 x11 (wrap64 (x12 + 1)))))) else (none)) else (none)) else (some x5)
def impl_predsOf.f (k : Nat) (l0_0 : List Int) (a0_1 : Int) (l0_2 : List (S88)) (a1 : Int) : Option (List Int) := impl_predsOf.l0 k a1 (([] : List Int)) l0_2 (l0_2.length : Int) 0
theorem impl_predsOf.mono_l : ∀ k, (∀ y0 y1 y2 y3 y4, LeO (impl_predsOf.l0 k y0 y1 y2 y3 y4) (impl_predsOf.l0 (k + 1) y0 y1 y2 y3 y4))
 | 0 => fun _ _ _ _ _ r h => by simp [impl_predsOf.l0] at h
 | k + 1 => by
  have ih0 := impl_predsOf.mono_l k
  ·intro y0 y1 y2 y3 y4
   unfold impl_predsOf.l0
   repeat' first
   | (with_reducible exact ih0 _ _ _ _ _)
   | (with_reducible exact slices_Contains_int64_int64.mono _ _ _)
   | (with_reducible exact LeO.refl _)
   | (with_reducible exact LeO.none _)
   | (with_reducible refine LeO.ite ?_ ?_)
   | (with_reducible refine LeO.bind ?_ (fun _ => ?_))
   | exact ih0 _ _ _ _ _
   | exact slices_Contains_int64_int64.mono _ _ _
   | exact LeO.none _
   | refine LeO.ite ?_ ?_
   | refine LeO.bind ?_ (fun _ => ?_)
theorem impl_predsOf.mono : ∀ a0 a1 a2 a3 k, LeO (impl_predsOf.f k a0 a1 a2 a3) (impl_predsOf.f (k + 1) a0 a1 a2 a3) := by
 intro a0 a1 a2 a3 k
 have ih0 := impl_predsOf.mono_l k
 unfold impl_predsOf.f
 repeat' first
   | (with_reducible exact ih0 _ _ _ _ _)
   | (with_reducible exact slices_Contains_int64_int64.mono _ _ _)
   | (with_reducible exact LeO.refl _)
   | (with_reducible exact LeO.none _)
   | (with_reducible refine LeO.ite ?_ ?_)
   | (with_reducible refine LeO.bind ?_ (fun _ => ?_))
   | exact ih0 _ _ _ _ _
   | exact slices_Contains_int64_int64.mono _ _ _
   | exact LeO.none _
   | refine LeO.ite ?_ ?_
   | refine LeO.bind ?_ (fun _ => ?_)
set_option maxHeartbeats 8000000 in
set_option maxRecDepth 100000 in
theorem impl_predsOf.calls (k : Nat) (A0_0 : Option Addr) (c0_0 : Nat) (l0_0 : List Int) (a0_1 : Int) (A0_2 : Option Addr) (c0_2 : Nat) (l0_2 : List (S88)) (a1 : Int) (r : List Int) (w : World) (hr0_0 : Kd.C (Kd.int .i64) w A0_0 l0_0.length l0_0) (hc0_0 : l0_0.length ≤ c0_0) (hr0_2 : Kd.C k88 w A0_2 l0_2.length l0_2) (hc0_2 : l0_2.length ≤ c0_2) (h : impl_predsOf.f k l0_0 a0_1 l0_2 a1 = some r) :
  Calls Try.prog 79 #[.agg #[.slice A0_0 l0_0.length c0_0, .int .i64 a0_1, .slice A0_2 l0_2.length c0_2], .int .i64 a1] w fun e w' => ∃ v0_ : Value, e = .returned (v0_) ∧ Kd.R (Kd.int .i64) 2 w' w.heap.size (fun _ => True) v0_ r ∧ Below w.heap.size w w' := by
 have hu41 := Try.underlying41
 have hu88 := Try.underlying88
 have hu86 := Try.underlying86
 have HR0_0 := Aside0.mk hr0_0
 have HC0_0 := Aside0.mk hc0_0
 clear hr0_0 hc0_0
 have HR0_2 := Aside0.mk hr0_2
 have HC0_2 := Aside0.mk hc0_2
 clear hr0_2 hc0_2
 have HB := Aside0.mk (Below.refl w.heap.size w)
 have H : (impl_predsOf.l0 k a1 (([] : List Int)) l0_2 (l0_2.length : Int) 0) = some r := h
 clear h
 obtain ⟨y666, hy666⟩ : ∃ y_ : List Int, y_ = (([] : List Int)) := ⟨_, rfl⟩
 replace H : (impl_predsOf.l0 k a1 y666 l0_2 (l0_2.length : Int) 0) = some r := by first | (rw [hy666]; with_reducible exact H) | (have H2_ := (Option.bind_some _ _).symm.trans H; rw [hy666]; with_reducible exact H2_) | (have H2_ := (Option.bind_some _ _).symm.trans H; with_reducible exact H2_) | with_reducible exact H | (rw [hy666]; exact H) | exact H
 have Ny666 := Aside0.mk hy666
 clear hy666
 have H' := Aside0.mk H
 clear H
 go_enter Try.func79, Try.ntmps79
 go_wp2_with (first | ((with_reducible refine gate_dst (N := 2) rfl ?_); refine box_event ?hg (N := 2) ?hd (cs := #[.slice A0_0 l0_0.length c0_0, .int .i64 a0_1, .slice A0_2 l0_2.length c0_2]) (t := 41) ?hr ?_; (case hd => rfl); (case hg => rfl); (case hr => first | (go_simp; done) | (go_simp; rfl)); intro gb665 hg w3 hbox hb; have n0_ := Aside0.mk (below_step hB_ hb); have n1_ := Aside0.mk (hbox); have n2_ := Aside0.mk ((sz_ hg (below_size hB_) : w.heap.size ≤ gb665)); have n3_ := Aside0.mk ((sz_ hg (below_size hB_) : w.heap.size ≤ gb665)); clear HB; have HB := n0_; have BK665 := n1_; have GW665 := n2_; have GE665 := n3_; clear n0_ n1_ n2_ n3_; clear hb hbox hg) | ((with_reducible refine gate_dst (N := 8) rfl ?_); refine Kd.R_lit (Kd.int .i64) _ 2 ?hg (N := 8) ?hd (xs := ([] : List Int)) (inner := []) (ok := fun _ => True) (okp := fun _ => True) ?hr ?hp (fun _ hk => hk) trivial (Below.refl _ _) (Nat.le_refl _) (by simp) ?_; (case hd => rfl); (case hg => rfl); (case hr => first | (go_simp; done) | (go_simp; rfl)); (case hp => exact (Reps.none _ _)); intro v667 w4 ho5 hb hg_ hnew_; clear hg_ hnew_; (first | rw [← Ny666.out] at ho5 | (simp only [Int.reduceToNat] at ho5; rw [← Ny666.out] at ho5)); have n0_ := Aside0.mk (Kd.R_lower ho5 (below_size hS_)); have n1_ := Aside0.mk (blk_below (g := gb665) (o := .cells #[.slice A0_0 l0_0.length c0_0, .int .i64 a0_1, .slice A0_2 l0_2.length c0_2] 41 (0, 0)) bK665_ hb); have n2_ := Aside0.mk (below_step hS_ hb); clear BK665; clear HB; have HO668 := n0_; have BK665 := n1_; have HB := n2_; clear n0_ n1_ n2_; clear hb ho5; obtain ⟨hcz6_0, hcz6_1, hcz6_2, hfz6_0, hfz6_1, hfz6_2⟩ := blkc3_ BK665.out))
 go_loopg [5, 12] k (fun kq v5 v12 w' => ∃ (x5_1 : List Int) (x12_1 : Int), v12 = .int .i64 x12_1 ∧ Aside0 (impl_predsOf.l0 kq a1 x5_1 l0_2 (l0_2.length : Int) x12_1 = some r) ∧ Aside0 (kq ≤ k) ∧ Aside0 (Kd.R (Kd.int .i64) 2 w' w.heap.size (fun _ => True) v5 x5_1) ∧ Aside0 (w'.heap[gb665]? = some (.cells #[(.slice A0_0 l0_0.length c0_0), .int .i64 a0_1, (.slice A0_2 l0_2.length c0_2)] 41 (0, 0))) ∧ Aside0 (Below w.heap.size w w'))
 case atStart => exact ⟨(y666), (0), rF_, H', ⟨Nat.le_refl _⟩, ⟨rHO668_⟩, ⟨bK665_⟩, ⟨hS_⟩⟩
 case round =>
  clear H'
  try clear p2
  try clear hcz6_0 hcz6_1 hcz6_2 hfz6_0 hfz6_1 hfz6_2
  obtain ⟨x5_1, x12_1, rfl, HA, HK1, HO_5, BK665, HB⟩ := hrel
  cases gk with
  | zero => exact absurd HA.out (by simp [impl_predsOf.l0])
  | succ k1 =>
   have H := HA.out
   clear HA
   simp only [impl_predsOf.l0] at H
   by_cases c7 : x12_1 < (l0_2.length : Int)
   ·rw [if_pos c7] at H
    have c7b0 : decide (x12_1 < (l0_2.length : Int)) = true := decide_eq_true c7
    clear c7
    by_cases c8 : 0 ≤ x12_1
    ·rw [if_pos c8] at H
     have c8b0 : decide (0 ≤ x12_1) = true := decide_eq_true c8
     clear c8
     by_cases c9 : x12_1 < (l0_2.length : Int)
     ·rw [if_pos c9] at H
      have c9b0 : decide (x12_1 < (l0_2.length : Int)) = true := decide_eq_true c9
      clear c9
      replace H := Option.bind_eq_some_iff.mp H
      obtain ⟨t671, A100, H⟩ := H
      replace H : ((slices_Contains_int64_int64.f k1 t671 a1).bind fun t674 => (if t674 = true then (if x5_1.length < 17592186044416 then (impl_predsOf.l0 k1 a1 (x5_1 ++ [x12_1]) l0_2 (l0_2.length : Int) (wrap64 (x12_1 + 1))) else (none)) else (impl_predsOf.l0 k1 a1 x5_1 l0_2 (l0_2.length : Int) (wrap64 (x12_1 + 1))))) = some r := H
      have A10 := Aside0.mk A100
      clear A100
      replace H := Option.bind_eq_some_iff.mp H
      obtain ⟨t674, A110, H⟩ := H
      replace H : (if t674 = true then (if x5_1.length < 17592186044416 then (impl_predsOf.l0 k1 a1 (x5_1 ++ [x12_1]) l0_2 (l0_2.length : Int) (wrap64 (x12_1 + 1))) else (none)) else (impl_predsOf.l0 k1 a1 x5_1 l0_2 (l0_2.length : Int) (wrap64 (x12_1 + 1)))) = some r := H
      have A11 := Aside0.mk A110
      clear A110
      by_cases c12 : t674 = true
      ·subst c12
       have H1 := (if_pos rfl).symm.trans H
       clear H
       have H := H1
       clear H1
       by_cases c13 : x5_1.length < 17592186044416
       ·rw [if_pos c13] at H
        have LMc13 := Aside0.mk c13
        clear c13
        obtain ⟨y675, hy675⟩ : ∃ y_ : List Int, y_ = (x5_1 ++ [x12_1]) := ⟨_, rfl⟩
        replace H : (impl_predsOf.l0 k1 a1 y675 l0_2 (l0_2.length : Int) (wrap64 (x12_1 + 1))) = some r := by first | (rw [hy675]; with_reducible exact H) | (have H2_ := (Option.bind_some _ _).symm.trans H; rw [hy675]; with_reducible exact H2_) | (have H2_ := (Option.bind_some _ _).symm.trans H; with_reducible exact H2_) | with_reducible exact H | (rw [hy675]; exact H) | exact H
        have Ny675 := Aside0.mk hy675
        clear hy675
        have H' := Aside0.mk H
        clear H
        have p669 : 0 ≤ (x12_1 : Int) := oD_
        have q669 : x12_1 < (l0_2.length : Int) := oD_
        obtain ⟨ad669, A669_0, c669_0, A669_1, c669_1, e669, hx669_0, hx669_1, hx669_2, hx669_3, hx669_4, hx669_5, hl669_0, hi669_0, hl669_1, hi669_1⟩ := at_T88 HR0_2.out x12_1 p669 q669
        cases e669
        replace hx669_0 := hx_ HB.out hx669_0
        replace hx669_1 := hx_ HB.out hx669_1
        replace hx669_2 := hx_ HB.out hx669_2
        replace hx669_3 := hx_ HB.out hx669_3
        replace hx669_4 := hx_ HB.out hx669_4
        replace hx669_5 := hx_ HB.out hx669_5
        have HR669_0 := Aside0.mk hi669_0
        have HC669_0 := Aside0.mk hl669_0
        clear hi669_0 hl669_0
        have HR669_1 := Aside0.mk hi669_1
        have HC669_1 := Aside0.mk hl669_1
        clear hi669_1 hl669_1
        replace p669 := eq_true p669
        replace q669 := eq_true q669
        go_wp2_with (first | ((with_reducible refine gate_dst (N := 7) rfl ?_); refine box_event ?hg (N := 7) ?hd (cs := #[.slice none 0 0, .slice none 0 0, .int .i64 0, .int .i64 0, .int .i64 0, .int .i64 0]) (t := 88) ?hr ?_; (case hd => rfl); (case hg => rfl); (case hr => first | (go_simp; done) | (go_simp; rfl)); intro gb670 hg w14 hbox hb; have n0_ := Aside0.mk (Kd.R_below rHO_5_ hb); have n1_ := Aside0.mk (blk_below (g := gb665) (o := .cells #[.slice A0_0 l0_0.length c0_0, .int .i64 a0_1, .slice (some ad669) l0_2.length c0_2] 41 (0, 0)) bK665_ hb); have n2_ := Aside0.mk (below_step hS_ hb); have n3_ := Aside0.mk (hbox); have n4_ := Aside0.mk ((sz_ hg (below_size hS_) : w.heap.size ≤ gb670)); have n5_ := Aside0.mk ((sz_ hg (below_size hS_) : w.heap.size ≤ gb670)); have n6_ := Aside0.mk ((by rw [hg]; exact Nat.ne_of_lt (blk_lt (g := gb665) (o := .cells #[.slice A0_0 l0_0.length c0_0, .int .i64 a0_1, .slice (some ad669) l0_2.length c0_2] 41 (0, 0)) bK665_) : gb665 ≠ gb670)); have n7_ := Aside0.mk ((by rw [hg]; exact Nat.ne_of_gt (blk_lt (g := gb665) (o := .cells #[.slice A0_0 l0_0.length c0_0, .int .i64 a0_1, .slice (some ad669) l0_2.length c0_2] 41 (0, 0)) bK665_) : gb670 ≠ gb665)); clear HO_5; clear BK665; clear HB; have HO_5 := n0_; have BK665 := n1_; have HB := n2_; have BK670 := n3_; have GW670 := n4_; have GE670 := n5_; have NB665_670 := n6_; have NB670_665 := n7_; clear n0_ n1_ n2_ n3_ n4_ n5_ n6_ n7_; clear hb hbox hg; have hnb15 := NB670_665.out; have hnc15 := NB665_670.out; obtain ⟨hcz16_0, hcz16_1, hcz16_2, hcz16_3, hcz16_4, hcz16_5, hfz16_0, hfz16_1, hfz16_2, hfz16_3, hfz16_4, hfz16_5⟩ := blkc6_ BK670.out) | ((with_reducible refine gate_callee (f := 110) rfl ?_); refine gL_ (some 19) Try.func110 #[.agg #[.int .i64 ((rd_T88 l0_2 x12_1).f2.f0), .int .i64 ((rd_T88 l0_2 x12_1).f2.f1), .int .i64 ((rd_T88 l0_2 x12_1).f2.f2), .int .i64 ((rd_T88 l0_2 x12_1).f2.f3)]] ?_; (with_reducible refine (impl_leadsTo.calls ((rd_T88 l0_2 x12_1).f2.f0) ((rd_T88 l0_2 x12_1).f2.f1) ((rd_T88 l0_2 x12_1).f2.f2) ((rd_T88 l0_2 x12_1).f2.f3) t671 _ A10.out).mono ?_); rintro e w17 ⟨v672, rfl, ho0, hb⟩; refine ⟨_, rfl, ?_⟩; have n0_ := Aside0.mk (Kd.R_elder' (by (with_reducible repeat (first | apply Kd.R_alloc | apply Kd.R_drewN | apply Kd.R_drew)); exact (rf6_ HO_5.out BK670.out (by decide) (.slice A669_0 ((rd_T88 l0_2 x12_1).f0).length c669_0) (.slice A669_1 ((rd_T88 l0_2 x12_1).f1).length c669_1) (.int .i64 ((rd_T88 l0_2 x12_1).f2.f0)) (.int .i64 ((rd_T88 l0_2 x12_1).f2.f1)) (.int .i64 ((rd_T88 l0_2 x12_1).f2.f2)) (.int .i64 ((rd_T88 l0_2 x12_1).f2.f3)))) (Kd.R_base ho0) hb); have n1_ := Aside0.mk (Kd.R_lower (Kd.R_new' ho0 (Kd.R_lt (by (with_reducible repeat (first | apply Kd.R_alloc | apply Kd.R_drewN | apply Kd.R_drew)); exact (rf6_ HO_5.out BK670.out (by decide) (.slice A669_0 ((rd_T88 l0_2 x12_1).f0).length c669_0) (.slice A669_1 ((rd_T88 l0_2 x12_1).f1).length c669_1) (.int .i64 ((rd_T88 l0_2 x12_1).f2.f0)) (.int .i64 ((rd_T88 l0_2 x12_1).f2.f1)) (.int .i64 ((rd_T88 l0_2 x12_1).f2.f2)) (.int .i64 ((rd_T88 l0_2 x12_1).f2.f3)))))) (below_size hS_)); have n2_ := Aside0.mk (blk_below (g := gb665) (o := .cells #[.slice A0_0 l0_0.length c0_0, .int .i64 a0_1, .slice (some ad669) l0_2.length c0_2] 41 (0, 0)) fK665_ hb); have n3_ := Aside0.mk (blk_below (g := gb670) (o := .cells #[.slice A669_0 ((rd_T88 l0_2 x12_1).f0).length c669_0, .slice A669_1 ((rd_T88 l0_2 x12_1).f1).length c669_1, .int .i64 ((rd_T88 l0_2 x12_1).f2.f0), .int .i64 ((rd_T88 l0_2 x12_1).f2.f1), .int .i64 ((rd_T88 l0_2 x12_1).f2.f2), .int .i64 ((rd_T88 l0_2 x12_1).f2.f3)] 88 (0, 0)) (by (with_reducible repeat (first | refine blk_drewN ?_ _ | refine blk_drew ?_ | refine blk_alloc ?_ _)); refine blk_put (cs := #[.slice A669_0 ((rd_T88 l0_2 x12_1).f0).length c669_0, .slice A669_1 ((rd_T88 l0_2 x12_1).f1).length c669_1, .int .i64 ((rd_T88 l0_2 x12_1).f2.f0), .int .i64 ((rd_T88 l0_2 x12_1).f2.f1), .int .i64 ((rd_T88 l0_2 x12_1).f2.f2), .int .i64 0]) ?_ 5 _ rfl; (with_reducible repeat (first | refine blk_drewN ?_ _ | refine blk_drew ?_ | refine blk_alloc ?_ _)); refine blk_put (cs := #[.slice A669_0 ((rd_T88 l0_2 x12_1).f0).length c669_0, .slice A669_1 ((rd_T88 l0_2 x12_1).f1).length c669_1, .int .i64 ((rd_T88 l0_2 x12_1).f2.f0), .int .i64 ((rd_T88 l0_2 x12_1).f2.f1), .int .i64 0, .int .i64 0]) ?_ 4 _ rfl; (with_reducible repeat (first | refine blk_drewN ?_ _ | refine blk_drew ?_ | refine blk_alloc ?_ _)); refine blk_put (cs := #[.slice A669_0 ((rd_T88 l0_2 x12_1).f0).length c669_0, .slice A669_1 ((rd_T88 l0_2 x12_1).f1).length c669_1, .int .i64 ((rd_T88 l0_2 x12_1).f2.f0), .int .i64 0, .int .i64 0, .int .i64 0]) ?_ 3 _ rfl; (with_reducible repeat (first | refine blk_drewN ?_ _ | refine blk_drew ?_ | refine blk_alloc ?_ _)); refine blk_put (cs := #[.slice A669_0 ((rd_T88 l0_2 x12_1).f0).length c669_0, .slice A669_1 ((rd_T88 l0_2 x12_1).f1).length c669_1, .int .i64 0, .int .i64 0, .int .i64 0, .int .i64 0]) ?_ 2 _ rfl; (with_reducible repeat (first | refine blk_drewN ?_ _ | refine blk_drew ?_ | refine blk_alloc ?_ _)); refine blk_put (cs := #[.slice A669_0 ((rd_T88 l0_2 x12_1).f0).length c669_0, .slice none 0 0, .int .i64 0, .int .i64 0, .int .i64 0, .int .i64 0]) ?_ 1 _ rfl; (with_reducible repeat (first | refine blk_drewN ?_ _ | refine blk_drew ?_ | refine blk_alloc ?_ _)); refine blk_put (cs := #[.slice none 0 0, .slice none 0 0, .int .i64 0, .int .i64 0, .int .i64 0, .int .i64 0]) ?_ 0 _ rfl; (with_reducible repeat (first | refine blk_drewN ?_ _ | refine blk_drew ?_ | refine blk_alloc ?_ _)); exact BK670.out) hb); have n4_ := Aside0.mk (below_step hS_ hb); clear HO_5; clear BK665; clear BK670; clear HB; have HO_5 := n0_; have HO673 := n1_; have BK665 := n2_; have BK670 := n3_; have HB := n4_; clear n0_ n1_ n2_ n3_ n4_; (try clear hb); (try clear hb2); (try clear hk); (try clear hi); (try clear ho0); obtain ⟨Ao18, co18, eo18⟩ := Kd.R_slice HO673.out; subst eo18) | ((with_reducible refine gate_callee (f := 113) rfl ?_); refine gL_ (some 21) Try.func113 #[.slice Ao18 t671.length co18, .int .i64 a1] ?_; (with_reducible refine (slices_Contains_int64_int64.calls k1 _ _ t671 a1 true _ ?side1 ?side2 A11.out).mono ?_); (case side1 => repeat (first | exact (Kd.R_reads' HO673.out).2.2 | (with_reducible refine Kd.C_alloc ?_ _) | (with_reducible refine Kd.C_drewN ?_ _) | (with_reducible refine Kd.C_drew ?_))); (case side2 => exact (Kd.R_reads' HO673.out).2.1); rintro e w' ⟨rfl, ⟨nd, rfl⟩⟩; refine ⟨_, rfl, ?_⟩) | ((with_reducible refine gate_builtin (b := .append) (xs := #[.tmp 22, .tmp 24]) rfl ?_); at_builtin; refine Kd.R_append (Kd.int .i64) (w0 := w) w.heap.size rfl (.tmp 22) (.tmp 24) 22 2 (.int .i64 0) 8 rfl Try.underlying22 info2 rfl (by decide) (by omega) u5 x5_1 x12_1 [.int .i64 x12_1] (fun k_ => some k_ ≠ (.slice Ao18 t671.length co18 : Value).ownBlock) (fun _ => False) rfl rfl ?aP (fun _ hk => hk.elim) ?aF ?aO ?aB ?aS ?aL ?_; (case aP => exact rfl); (case aB => exact hS_); (case aF => exact (fun k_ hk => Kd.fresh' (Kd.R_lt rHO673_) k_ hk)); (case aO => exact (by (with_reducible repeat (first | apply Kd.R_alloc | apply Kd.R_drewN | apply Kd.R_drew)); exact Kd.R_mono HO_5.out (fun _ hk => hk.2))); (case aS => exact (below_size hS_)); (case aL => have := LMc13.out; omega); intro v676 w19 ho hb hg hat; rw [← Ny675.out] at ho; have n0_ := Aside0.mk (blk_grown (g := gb665) (o := .cells #[.slice A0_0 l0_0.length c0_0, .int .i64 a0_1, .slice (some ad669) l0_2.length c0_2] 41 (0, 0)) bK665_ hg (Kd.R_ne HO_5.out BK665.out (by decide))); have n1_ := Aside0.mk (blk_grown (g := gb670) (o := .cells #[.slice A669_0 ((rd_T88 l0_2 x12_1).f0).length c669_0, .slice A669_1 ((rd_T88 l0_2 x12_1).f1).length c669_1, .int .i64 ((rd_T88 l0_2 x12_1).f2.f0), .int .i64 ((rd_T88 l0_2 x12_1).f2.f1), .int .i64 ((rd_T88 l0_2 x12_1).f2.f2), .int .i64 ((rd_T88 l0_2 x12_1).f2.f3)] 88 (0, 0)) bK670_ hg (Kd.R_ne HO_5.out BK670.out (by decide))); have n2_ := Aside0.mk (Kd.R_after (ok := (fun _ => True)) rHO673_ hg hat); have n3_ := Aside0.mk (hb); have n4_ := Aside0.mk (ho); clear BK665; clear BK670; clear HO673; clear HB; clear HO_5; have BK665 := n0_; have BK670 := n1_; have HO673 := n2_; have HB := n3_; have HO677 := n4_; clear n0_ n1_ n2_ n3_ n4_; clear ho hb hg hat))
        go_roundg k1
        case measure => have := HK1.out; omega
        case rel => exact ⟨(y675), (wrap64 (x12_1 + 1)), rF_, H', ⟨by have := HK1.out; omega⟩, ⟨by (with_reducible repeat (first | apply Kd.R_alloc | apply Kd.R_drewN | apply Kd.R_drew)); exact Kd.R_mono HO677.out (fun _ hk => trivial)⟩, ⟨bK665_⟩, ⟨hS_⟩⟩
       ·rw [if_neg c13] at H
        exact absurd H (by simp)
      ·replace c12 := Bool.eq_false_iff.mpr c12
       subst c12
       have H1 := (if_neg (show ¬ (false = true) by decide)).symm.trans H
       clear H
       have H := H1
       clear H1
       have H' := Aside0.mk H
       clear H
       have p669 : 0 ≤ (x12_1 : Int) := oD_
       have q669 : x12_1 < (l0_2.length : Int) := oD_
       obtain ⟨ad669, A669_0, c669_0, A669_1, c669_1, e669, hx669_0, hx669_1, hx669_2, hx669_3, hx669_4, hx669_5, hl669_0, hi669_0, hl669_1, hi669_1⟩ := at_T88 HR0_2.out x12_1 p669 q669
       cases e669
       replace hx669_0 := hx_ HB.out hx669_0
       replace hx669_1 := hx_ HB.out hx669_1
       replace hx669_2 := hx_ HB.out hx669_2
       replace hx669_3 := hx_ HB.out hx669_3
       replace hx669_4 := hx_ HB.out hx669_4
       replace hx669_5 := hx_ HB.out hx669_5
       have HR669_0 := Aside0.mk hi669_0
       have HC669_0 := Aside0.mk hl669_0
       clear hi669_0 hl669_0
       have HR669_1 := Aside0.mk hi669_1
       have HC669_1 := Aside0.mk hl669_1
       clear hi669_1 hl669_1
       replace p669 := eq_true p669
       replace q669 := eq_true q669
       go_wp2_with (first | ((with_reducible refine gate_dst (N := 7) rfl ?_); refine box_event ?hg (N := 7) ?hd (cs := #[.slice none 0 0, .slice none 0 0, .int .i64 0, .int .i64 0, .int .i64 0, .int .i64 0]) (t := 88) ?hr ?_; (case hd => rfl); (case hg => rfl); (case hr => first | (go_simp; done) | (go_simp; rfl)); intro gb670 hg w20 hbox hb; have n0_ := Aside0.mk (Kd.R_below rHO_5_ hb); have n1_ := Aside0.mk (blk_below (g := gb665) (o := .cells #[.slice A0_0 l0_0.length c0_0, .int .i64 a0_1, .slice (some ad669) l0_2.length c0_2] 41 (0, 0)) bK665_ hb); have n2_ := Aside0.mk (below_step hS_ hb); have n3_ := Aside0.mk (hbox); have n4_ := Aside0.mk ((sz_ hg (below_size hS_) : w.heap.size ≤ gb670)); have n5_ := Aside0.mk ((sz_ hg (below_size hS_) : w.heap.size ≤ gb670)); have n6_ := Aside0.mk ((by rw [hg]; exact Nat.ne_of_lt (blk_lt (g := gb665) (o := .cells #[.slice A0_0 l0_0.length c0_0, .int .i64 a0_1, .slice (some ad669) l0_2.length c0_2] 41 (0, 0)) bK665_) : gb665 ≠ gb670)); have n7_ := Aside0.mk ((by rw [hg]; exact Nat.ne_of_gt (blk_lt (g := gb665) (o := .cells #[.slice A0_0 l0_0.length c0_0, .int .i64 a0_1, .slice (some ad669) l0_2.length c0_2] 41 (0, 0)) bK665_) : gb670 ≠ gb665)); clear HO_5; clear BK665; clear HB; have HO_5 := n0_; have BK665 := n1_; have HB := n2_; have BK670 := n3_; have GW670 := n4_; have GE670 := n5_; have NB665_670 := n6_; have NB670_665 := n7_; clear n0_ n1_ n2_ n3_ n4_ n5_ n6_ n7_; clear hb hbox hg; have hnb21 := NB670_665.out; have hnc21 := NB665_670.out; obtain ⟨hcz22_0, hcz22_1, hcz22_2, hcz22_3, hcz22_4, hcz22_5, hfz22_0, hfz22_1, hfz22_2, hfz22_3, hfz22_4, hfz22_5⟩ := blkc6_ BK670.out) | ((with_reducible refine gate_callee (f := 110) rfl ?_); refine gL_ (some 19) Try.func110 #[.agg #[.int .i64 ((rd_T88 l0_2 x12_1).f2.f0), .int .i64 ((rd_T88 l0_2 x12_1).f2.f1), .int .i64 ((rd_T88 l0_2 x12_1).f2.f2), .int .i64 ((rd_T88 l0_2 x12_1).f2.f3)]] ?_; (with_reducible refine (impl_leadsTo.calls ((rd_T88 l0_2 x12_1).f2.f0) ((rd_T88 l0_2 x12_1).f2.f1) ((rd_T88 l0_2 x12_1).f2.f2) ((rd_T88 l0_2 x12_1).f2.f3) t671 _ A10.out).mono ?_); rintro e w23 ⟨v672, rfl, ho0, hb⟩; refine ⟨_, rfl, ?_⟩; have n0_ := Aside0.mk (Kd.R_elder' (by (with_reducible repeat (first | apply Kd.R_alloc | apply Kd.R_drewN | apply Kd.R_drew)); exact (rf6_ HO_5.out BK670.out (by decide) (.slice A669_0 ((rd_T88 l0_2 x12_1).f0).length c669_0) (.slice A669_1 ((rd_T88 l0_2 x12_1).f1).length c669_1) (.int .i64 ((rd_T88 l0_2 x12_1).f2.f0)) (.int .i64 ((rd_T88 l0_2 x12_1).f2.f1)) (.int .i64 ((rd_T88 l0_2 x12_1).f2.f2)) (.int .i64 ((rd_T88 l0_2 x12_1).f2.f3)))) (Kd.R_base ho0) hb); have n1_ := Aside0.mk (Kd.R_lower (Kd.R_new' ho0 (Kd.R_lt (by (with_reducible repeat (first | apply Kd.R_alloc | apply Kd.R_drewN | apply Kd.R_drew)); exact (rf6_ HO_5.out BK670.out (by decide) (.slice A669_0 ((rd_T88 l0_2 x12_1).f0).length c669_0) (.slice A669_1 ((rd_T88 l0_2 x12_1).f1).length c669_1) (.int .i64 ((rd_T88 l0_2 x12_1).f2.f0)) (.int .i64 ((rd_T88 l0_2 x12_1).f2.f1)) (.int .i64 ((rd_T88 l0_2 x12_1).f2.f2)) (.int .i64 ((rd_T88 l0_2 x12_1).f2.f3)))))) (below_size hS_)); have n2_ := Aside0.mk (blk_below (g := gb665) (o := .cells #[.slice A0_0 l0_0.length c0_0, .int .i64 a0_1, .slice (some ad669) l0_2.length c0_2] 41 (0, 0)) fK665_ hb); have n3_ := Aside0.mk (blk_below (g := gb670) (o := .cells #[.slice A669_0 ((rd_T88 l0_2 x12_1).f0).length c669_0, .slice A669_1 ((rd_T88 l0_2 x12_1).f1).length c669_1, .int .i64 ((rd_T88 l0_2 x12_1).f2.f0), .int .i64 ((rd_T88 l0_2 x12_1).f2.f1), .int .i64 ((rd_T88 l0_2 x12_1).f2.f2), .int .i64 ((rd_T88 l0_2 x12_1).f2.f3)] 88 (0, 0)) (by (with_reducible repeat (first | refine blk_drewN ?_ _ | refine blk_drew ?_ | refine blk_alloc ?_ _)); refine blk_put (cs := #[.slice A669_0 ((rd_T88 l0_2 x12_1).f0).length c669_0, .slice A669_1 ((rd_T88 l0_2 x12_1).f1).length c669_1, .int .i64 ((rd_T88 l0_2 x12_1).f2.f0), .int .i64 ((rd_T88 l0_2 x12_1).f2.f1), .int .i64 ((rd_T88 l0_2 x12_1).f2.f2), .int .i64 0]) ?_ 5 _ rfl; (with_reducible repeat (first | refine blk_drewN ?_ _ | refine blk_drew ?_ | refine blk_alloc ?_ _)); refine blk_put (cs := #[.slice A669_0 ((rd_T88 l0_2 x12_1).f0).length c669_0, .slice A669_1 ((rd_T88 l0_2 x12_1).f1).length c669_1, .int .i64 ((rd_T88 l0_2 x12_1).f2.f0), .int .i64 ((rd_T88 l0_2 x12_1).f2.f1), .int .i64 0, .int .i64 0]) ?_ 4 _ rfl; (with_reducible repeat (first | refine blk_drewN ?_ _ | refine blk_drew ?_ | refine blk_alloc ?_ _)); refine blk_put (cs := #[.slice A669_0 ((rd_T88 l0_2 x12_1).f0).length c669_0, .slice A669_1 ((rd_T88 l0_2 x12_1).f1).length c669_1, .int .i64 ((rd_T88 l0_2 x12_1).f2.f0), .int .i64 0, .int .i64 0, .int .i64 0]) ?_ 3 _ rfl; (with_reducible repeat (first | refine blk_drewN ?_ _ | refine blk_drew ?_ | refine blk_alloc ?_ _)); refine blk_put (cs := #[.slice A669_0 ((rd_T88 l0_2 x12_1).f0).length c669_0, .slice A669_1 ((rd_T88 l0_2 x12_1).f1).length c669_1, .int .i64 0, .int .i64 0, .int .i64 0, .int .i64 0]) ?_ 2 _ rfl; (with_reducible repeat (first | refine blk_drewN ?_ _ | refine blk_drew ?_ | refine blk_alloc ?_ _)); refine blk_put (cs := #[.slice A669_0 ((rd_T88 l0_2 x12_1).f0).length c669_0, .slice none 0 0, .int .i64 0, .int .i64 0, .int .i64 0, .int .i64 0]) ?_ 1 _ rfl; (with_reducible repeat (first | refine blk_drewN ?_ _ | refine blk_drew ?_ | refine blk_alloc ?_ _)); refine blk_put (cs := #[.slice none 0 0, .slice none 0 0, .int .i64 0, .int .i64 0, .int .i64 0, .int .i64 0]) ?_ 0 _ rfl; (with_reducible repeat (first | refine blk_drewN ?_ _ | refine blk_drew ?_ | refine blk_alloc ?_ _)); exact BK670.out) hb); have n4_ := Aside0.mk (below_step hS_ hb); clear HO_5; clear BK665; clear BK670; clear HB; have HO_5 := n0_; have HO673 := n1_; have BK665 := n2_; have BK670 := n3_; have HB := n4_; clear n0_ n1_ n2_ n3_ n4_; (try clear hb); (try clear hb2); (try clear hk); (try clear hi); (try clear ho0); obtain ⟨Ao24, co24, eo24⟩ := Kd.R_slice HO673.out; subst eo24) | ((with_reducible refine gate_callee (f := 113) rfl ?_); refine gL_ (some 21) Try.func113 #[.slice Ao24 t671.length co24, .int .i64 a1] ?_; (with_reducible refine (slices_Contains_int64_int64.calls k1 _ _ t671 a1 false _ ?side1 ?side2 A11.out).mono ?_); (case side1 => repeat (first | exact (Kd.R_reads' HO673.out).2.2 | (with_reducible refine Kd.C_alloc ?_ _) | (with_reducible refine Kd.C_drewN ?_ _) | (with_reducible refine Kd.C_drew ?_))); (case side2 => exact (Kd.R_reads' HO673.out).2.1); rintro e w' ⟨rfl, ⟨nd, rfl⟩⟩; refine ⟨_, rfl, ?_⟩))
       go_roundg k1
       case measure => have := HK1.out; omega
       case rel => exact ⟨(x5_1), (wrap64 (x12_1 + 1)), rF_, H', ⟨by have := HK1.out; omega⟩, ⟨by (with_reducible repeat (first | apply Kd.R_alloc | apply Kd.R_drewN | apply Kd.R_drew)); exact Kd.R_mono HO_5.out (fun _ hk => trivial)⟩, ⟨bK665_⟩, ⟨hS_⟩⟩
     ·rw [if_neg c9] at H
      exact absurd H (by simp)
    ·rw [if_neg c8] at H
     exact absurd H (by simp)
   ·rw [if_neg c7] at H
    have c7b0 : decide (x12_1 < (l0_2.length : Int)) = false := decide_eq_false c7
    clear c7
    obtain rfl := Option.some.inj H
    go_wp2
    go_ret
    exact ⟨_, rG_, rHO_5_, hS_⟩
/-! ### impl_PredsOf: function 38 -/
def impl_PredsOf.f (k : Nat) (l0_0 : List Int) (a0_1 : Int) (l0_2 : List (S88)) (a1 : Int) : Option (List Int) := (impl_isBlockOf.f l0_0 a0_1 l0_2 a1).bind fun t679 => (if t679 = true then ((impl_predsOf.f k l0_0 a0_1 l0_2 a1).bind fun t680 => (some t680)) else (some ([] : List Int)))
theorem impl_PredsOf.mono : ∀ a0 a1 a2 a3 k, LeO (impl_PredsOf.f k a0 a1 a2 a3) (impl_PredsOf.f (k + 1) a0 a1 a2 a3) := by
 intro a0 a1 a2 a3 k
 unfold impl_PredsOf.f
 repeat' first
   | (with_reducible exact impl_predsOf.mono _ _ _ _ _)
   | (with_reducible exact LeO.refl _)
   | (with_reducible exact LeO.none _)
   | (with_reducible refine LeO.ite ?_ ?_)
   | (with_reducible refine LeO.bind ?_ (fun _ => ?_))
   | exact impl_predsOf.mono _ _ _ _ _
   | exact LeO.none _
   | refine LeO.ite ?_ ?_
   | refine LeO.bind ?_ (fun _ => ?_)
set_option maxHeartbeats 8000000 in
set_option maxRecDepth 100000 in
theorem impl_PredsOf.calls (k : Nat) (A0_0 : Option Addr) (c0_0 : Nat) (l0_0 : List Int) (a0_1 : Int) (A0_2 : Option Addr) (c0_2 : Nat) (l0_2 : List (S88)) (a1 : Int) (r : List Int) (w : World) (hr0_0 : Kd.C (Kd.int .i64) w A0_0 l0_0.length l0_0) (hc0_0 : l0_0.length ≤ c0_0) (hr0_2 : Kd.C k88 w A0_2 l0_2.length l0_2) (hc0_2 : l0_2.length ≤ c0_2) (h : impl_PredsOf.f k l0_0 a0_1 l0_2 a1 = some r) :
  Calls Try.prog 38 #[.agg #[.slice A0_0 l0_0.length c0_0, .int .i64 a0_1, .slice A0_2 l0_2.length c0_2], .int .i64 a1] w fun e w' => ∃ v0_ : Value, e = .returned (v0_) ∧ Kd.R (Kd.int .i64) 2 w' w.heap.size (fun _ => True) v0_ r ∧ Below w.heap.size w w' := by
 have hu41 := Try.underlying41
 have HR0_0 := Aside0.mk hr0_0
 have HC0_0 := Aside0.mk hc0_0
 clear hr0_0 hc0_0
 have HR0_2 := Aside0.mk hr0_2
 have HC0_2 := Aside0.mk hc0_2
 clear hr0_2 hc0_2
 have HB := Aside0.mk (Below.refl w.heap.size w)
 have H : ((impl_isBlockOf.f l0_0 a0_1 l0_2 a1).bind fun t679 => (if t679 = true then ((impl_predsOf.f k l0_0 a0_1 l0_2 a1).bind fun t680 => (some t680)) else (some ([] : List Int)))) = some r := h
 clear h
 replace H := Option.bind_eq_some_iff.mp H
 obtain ⟨t679, A30, H⟩ := H
 replace H : (if t679 = true then ((impl_predsOf.f k l0_0 a0_1 l0_2 a1).bind fun t680 => (some t680)) else (some ([] : List Int))) = some r := H
 have A3 := Aside0.mk A30
 clear A30
 by_cases c4 : t679 = true
 ·subst c4
  have H1 := (if_pos rfl).symm.trans H
  clear H
  have H := H1
  clear H1
  replace H := Option.bind_eq_some_iff.mp H
  obtain ⟨t680, A50, H⟩ := H
  replace H : (some t680) = some r := H
  have A5 := Aside0.mk A50
  clear A50
  obtain rfl := Option.some.inj H
  go_enter Try.func38, Try.ntmps38
  go_wp2_with (first | ((with_reducible refine gate_dst (N := 2) rfl ?_); refine box_event ?hg (N := 2) ?hd (cs := #[.slice A0_0 l0_0.length c0_0, .int .i64 a0_1, .slice A0_2 l0_2.length c0_2]) (t := 41) ?hr ?_; (case hd => rfl); (case hg => rfl); (case hr => first | (go_simp; done) | (go_simp; rfl)); intro gb678 hg w6 hbox hb; have n0_ := Aside0.mk (below_step hB_ hb); have n1_ := Aside0.mk (hbox); have n2_ := Aside0.mk ((sz_ hg (below_size hB_) : w.heap.size ≤ gb678)); have n3_ := Aside0.mk ((sz_ hg (below_size hB_) : w.heap.size ≤ gb678)); clear HB; have HB := n0_; have BK678 := n1_; have GW678 := n2_; have GE678 := n3_; clear n0_ n1_ n2_ n3_; clear hb hbox hg; obtain ⟨hcz7_0, hcz7_1, hcz7_2, hfz7_0, hfz7_1, hfz7_2⟩ := blkc3_ BK678.out) | ((with_reducible refine gate_callee (f := 69) rfl ?_); refine gL_ (some 7) Try.func69 #[.agg #[.slice A0_0 l0_0.length c0_0, .int .i64 a0_1, .slice A0_2 l0_2.length c0_2], .int .i64 a1] ?_; (with_reducible refine (impl_isBlockOf.calls _ _ l0_0 a0_1 _ _ l0_2 a1 true _ ?side1 ?side2 ?side3 ?side4 A3.out).mono ?_); (case side1 => exact cHR0_0_); (case side2 => exact HC0_0.out); (case side3 => exact cHR0_2_); (case side4 => exact HC0_2.out); rintro e w8 ⟨rfl, hb⟩; refine ⟨_, rfl, ?_⟩; have n0_ := Aside0.mk (blk_below (g := gb678) (o := .cells #[.slice A0_0 l0_0.length c0_0, .int .i64 a0_1, .slice A0_2 l0_2.length c0_2] 41 (0, 0)) bK678_ hb); have n1_ := Aside0.mk (below_step hS_ hb); clear BK678; clear HB; have BK678 := n0_; have HB := n1_; clear n0_ n1_; (try clear hb); (try clear hb2); (try clear hk); (try clear hi); obtain ⟨hcz9_0, hcz9_1, hcz9_2, hfz9_0, hfz9_1, hfz9_2⟩ := blkc3_ BK678.out) | ((with_reducible refine gate_callee (f := 79) rfl ?_); refine gL_ (some 11) Try.func79 #[.agg #[.slice A0_0 l0_0.length c0_0, .int .i64 a0_1, .slice A0_2 l0_2.length c0_2], .int .i64 a1] ?_; (with_reducible refine (impl_predsOf.calls k _ _ l0_0 a0_1 _ _ l0_2 a1 t680 _ ?side1 ?side2 ?side3 ?side4 A5.out).mono ?_); (case side1 => exact cHR0_0_); (case side2 => exact HC0_0.out); (case side3 => exact cHR0_2_); (case side4 => exact HC0_2.out); rintro e w10 ⟨v681, rfl, ho0, hb⟩; refine ⟨_, rfl, ?_⟩; have n0_ := Aside0.mk (Kd.R_lower ho0 (below_size hS_)); have n1_ := Aside0.mk (blk_below (g := gb678) (o := .cells #[.slice A0_0 l0_0.length c0_0, .int .i64 a0_1, .slice A0_2 l0_2.length c0_2] 41 (0, 0)) bK678_ hb); have n2_ := Aside0.mk (below_step hS_ hb); clear BK678; clear HB; have HO682 := n0_; have BK678 := n1_; have HB := n2_; clear n0_ n1_ n2_; (try clear hb); (try clear hb2); (try clear hk); (try clear hi); (try clear ho0)))
  go_ret
  exact ⟨_, rG_, rHO682_, hS_⟩
 ·replace c4 := Bool.eq_false_iff.mpr c4
  subst c4
  have H1 := (if_neg (show ¬ (false = true) by decide)).symm.trans H
  clear H
  have H := H1
  clear H1
  obtain rfl := Option.some.inj H
  go_enter Try.func38, Try.ntmps38
  go_wp2_with (first | ((with_reducible refine gate_dst (N := 2) rfl ?_); refine box_event ?hg (N := 2) ?hd (cs := #[.slice A0_0 l0_0.length c0_0, .int .i64 a0_1, .slice A0_2 l0_2.length c0_2]) (t := 41) ?hr ?_; (case hd => rfl); (case hg => rfl); (case hr => first | (go_simp; done) | (go_simp; rfl)); intro gb678 hg w11 hbox hb; have n0_ := Aside0.mk (below_step hB_ hb); have n1_ := Aside0.mk (hbox); have n2_ := Aside0.mk ((sz_ hg (below_size hB_) : w.heap.size ≤ gb678)); have n3_ := Aside0.mk ((sz_ hg (below_size hB_) : w.heap.size ≤ gb678)); clear HB; have HB := n0_; have BK678 := n1_; have GW678 := n2_; have GE678 := n3_; clear n0_ n1_ n2_ n3_; clear hb hbox hg; obtain ⟨hcz12_0, hcz12_1, hcz12_2, hfz12_0, hfz12_1, hfz12_2⟩ := blkc3_ BK678.out) | ((with_reducible refine gate_callee (f := 69) rfl ?_); refine gL_ (some 7) Try.func69 #[.agg #[.slice A0_0 l0_0.length c0_0, .int .i64 a0_1, .slice A0_2 l0_2.length c0_2], .int .i64 a1] ?_; (with_reducible refine (impl_isBlockOf.calls _ _ l0_0 a0_1 _ _ l0_2 a1 false _ ?side1 ?side2 ?side3 ?side4 A3.out).mono ?_); (case side1 => exact cHR0_0_); (case side2 => exact HC0_0.out); (case side3 => exact cHR0_2_); (case side4 => exact HC0_2.out); rintro e w13 ⟨rfl, hb⟩; refine ⟨_, rfl, ?_⟩; have n0_ := Aside0.mk (blk_below (g := gb678) (o := .cells #[.slice A0_0 l0_0.length c0_0, .int .i64 a0_1, .slice A0_2 l0_2.length c0_2] 41 (0, 0)) bK678_ hb); have n1_ := Aside0.mk (below_step hS_ hb); clear BK678; clear HB; have BK678 := n0_; have HB := n1_; clear n0_ n1_; (try clear hb); (try clear hb2); (try clear hk); (try clear hi)))
  go_ret
  exact ⟨_, rG_, by first | exact Kd.R_nil _ _ _ _ _ | exact Kd.N_nil _ _ _ _ _ | exact Kd.V_nil _ _ _ _ _ | exact Kd.Q_nil _ _ _ _ _ | exact Kd.S_nil _ _ _ _ _, hS_⟩
/-! ### laws_within: function 39 -/
def laws_within.l0 : Nat → List Int → List Int → Int → Option (Bool)
 | 0, _, _, _ => none
 | k + 1, x0, x1, x5 => if x5 < (x0.length : Int) then (if 0 ≤ x5 then ((laws_has.f k x1 (rd x0 x5)).bind fun t684 => (if t684 = true then (laws_within.l0 k x0 x1 (wrap64 (x5 + 1))) else (some false))) else (none)) else (some true)
def laws_within.f (k : Nat) (l0 : List Int) (l1 : List Int) : Option (Bool) := laws_within.l0 k l0 l1 0
theorem laws_within.mono_l : ∀ k, (∀ y0 y1 y2, LeO (laws_within.l0 k y0 y1 y2) (laws_within.l0 (k + 1) y0 y1 y2))
 | 0 => fun _ _ _ r h => by simp [laws_within.l0] at h
 | k + 1 => by
  have ih0 := laws_within.mono_l k
  ·intro y0 y1 y2
   unfold laws_within.l0
   repeat' first
   | (with_reducible exact ih0 _ _ _)
   | (with_reducible exact laws_has.mono _ _ _)
   | (with_reducible exact LeO.refl _)
   | (with_reducible exact LeO.none _)
   | (with_reducible refine LeO.ite ?_ ?_)
   | (with_reducible refine LeO.bind ?_ (fun _ => ?_))
   | exact ih0 _ _ _
   | exact laws_has.mono _ _ _
   | exact LeO.none _
   | refine LeO.ite ?_ ?_
   | refine LeO.bind ?_ (fun _ => ?_)
theorem laws_within.mono : ∀ a0 a1 k, LeO (laws_within.f k a0 a1) (laws_within.f (k + 1) a0 a1) := by
 intro a0 a1 k
 have ih0 := laws_within.mono_l k
 unfold laws_within.f
 repeat' first
   | (with_reducible exact ih0 _ _ _)
   | (with_reducible exact laws_has.mono _ _ _)
   | (with_reducible exact LeO.refl _)
   | (with_reducible exact LeO.none _)
   | (with_reducible refine LeO.ite ?_ ?_)
   | (with_reducible refine LeO.bind ?_ (fun _ => ?_))
   | exact ih0 _ _ _
   | exact laws_has.mono _ _ _
   | exact LeO.none _
   | refine LeO.ite ?_ ?_
   | refine LeO.bind ?_ (fun _ => ?_)
set_option maxHeartbeats 8000000 in
set_option maxRecDepth 100000 in
theorem laws_within.calls (k : Nat) (A0 : Option Addr) (c0 : Nat) (l0 : List Int) (A1 : Option Addr) (c1 : Nat) (l1 : List Int) (r : Bool) (w : World) (hr0 : Kd.C (Kd.int .i64) w A0 l0.length l0) (hc0 : l0.length ≤ c0) (hr1 : Kd.C (Kd.int .i64) w A1 l1.length l1) (hc1 : l1.length ≤ c1) (h : laws_within.f k l0 l1 = some r) :
  Calls Try.prog 39 #[.slice A0 l0.length c0, .slice A1 l1.length c1] w fun e w' => e = .returned (.bool r) ∧ Drawn0 w w' := by
 have HR0 := Aside0.mk hr0
 have HC0 := Aside0.mk hc0
 clear hr0 hc0
 have HR1 := Aside0.mk hr1
 have HC1 := Aside0.mk hc1
 clear hr1 hc1
 have H : (laws_within.l0 k l0 l1 0) = some r := h
 clear h
 have H' := Aside0.mk H
 clear H
 go_enter Try.func39, Try.ntmps39
 go_wp2
 go_loopg [5] k (fun kq v5 w' => ∃ (x5_1 : Int), v5 = .int .i64 x5_1 ∧ Aside0 (laws_within.l0 kq l0 l1 x5_1 = some r) ∧ Aside0 (kq ≤ k) ∧ Drawn0 w w')
 case atStart => exact ⟨(0), rF_, H', ⟨Nat.le_refl _⟩, by repeat (first | exact Drawn0.refl _ | apply Drawn0.step)⟩
 case round =>
  clear H'
  try clear c1
  try clear p2
  obtain ⟨x5_1, rfl, HA, HK1, ⟨m1, rfl⟩⟩ := hrel
  cases gk with
  | zero => exact absurd HA.out (by simp [laws_within.l0])
  | succ k1 =>
   have H := HA.out
   clear HA
   simp only [laws_within.l0] at H
   by_cases c3 : x5_1 < (l0.length : Int)
   ·rw [if_pos c3] at H
    have c3b0 : decide (x5_1 < (l0.length : Int)) = true := decide_eq_true c3
    clear c3
    by_cases c4 : 0 ≤ x5_1
    ·rw [if_pos c4] at H
     have c4b0 : decide (0 ≤ x5_1) = true := decide_eq_true c4
     clear c4
     replace H := Option.bind_eq_some_iff.mp H
     obtain ⟨t684, A50, H⟩ := H
     replace H : (if t684 = true then (laws_within.l0 k1 l0 l1 (wrap64 (x5_1 + 1))) else (some false)) = some r := H
     have A5 := Aside0.mk A50
     clear A50
     by_cases c6 : t684 = true
     ·subst c6
      have H1 := (if_pos rfl).symm.trans H
      clear H
      have H := H1
      clear H1
      have H' := Aside0.mk H
      clear H
      have p683 : 0 ≤ (x5_1 : Int) := oD_
      have q683 : x5_1 < (l0.length : Int) := oD_
      obtain ⟨ad683, e683, hx683_0⟩ := Kd.at_int HR0.out x5_1 p683 q683
      cases e683
      replace p683 := eq_true p683
      replace q683 := eq_true q683
      go_wp2_with (first | ((with_reducible refine gate_callee (f := 37) rfl ?_); refine gL_ (some 17) Try.func37 #[.slice A1 l1.length c1, .int .i64 (rd l0 x5_1)] ?_; (with_reducible refine (laws_has.calls k1 _ _ l1 (rd l0 x5_1) true _ ?side1 ?side2 A5.out).mono ?_); (case side1 => repeat (first | exact HR1.out | (with_reducible refine Kd.C_alloc ?_ _) | (with_reducible refine Kd.C_drewN ?_ _) | (with_reducible refine Kd.C_drew ?_))); (case side2 => exact HC1.out); rintro e w' ⟨rfl, ⟨nd, rfl⟩⟩; refine ⟨_, rfl, ?_⟩))
      go_roundg k1
      case measure => have := HK1.out; omega
      case rel => exact ⟨(wrap64 (x5_1 + 1)), rF_, H', ⟨by have := HK1.out; omega⟩, by repeat (first | exact Drawn0.refl _ | apply Drawn0.step)⟩
     ·replace c6 := Bool.eq_false_iff.mpr c6
      subst c6
      have H1 := (if_neg (show ¬ (false = true) by decide)).symm.trans H
      clear H
      have H := H1
      clear H1
      obtain rfl := Option.some.inj H
      have p683 : 0 ≤ (x5_1 : Int) := oD_
      have q683 : x5_1 < (l0.length : Int) := oD_
      obtain ⟨ad683, e683, hx683_0⟩ := Kd.at_int HR0.out x5_1 p683 q683
      cases e683
      replace p683 := eq_true p683
      replace q683 := eq_true q683
      go_wp2_with (first | ((with_reducible refine gate_callee (f := 37) rfl ?_); refine gL_ (some 17) Try.func37 #[.slice A1 l1.length c1, .int .i64 (rd l0 x5_1)] ?_; (with_reducible refine (laws_has.calls k1 _ _ l1 (rd l0 x5_1) false _ ?side1 ?side2 A5.out).mono ?_); (case side1 => repeat (first | exact HR1.out | (with_reducible refine Kd.C_alloc ?_ _) | (with_reducible refine Kd.C_drewN ?_ _) | (with_reducible refine Kd.C_drew ?_))); (case side2 => exact HC1.out); rintro e w' ⟨rfl, ⟨nd, rfl⟩⟩; refine ⟨_, rfl, ?_⟩))
      go_ret
      exact ⟨rF_, by repeat (first | exact Drawn0.refl _ | apply Drawn0.step)⟩
    ·rw [if_neg c4] at H
     exact absurd H (by simp)
   ·rw [if_neg c3] at H
    have c3b0 : decide (x5_1 < (l0.length : Int)) = false := decide_eq_false c3
    clear c3
    obtain rfl := Option.some.inj H
    go_wp2
    go_ret
    exact ⟨rF_, by repeat (first | exact Drawn0.refl _ | apply Drawn0.step)⟩
/-! ### laws_FnOrder: function 7 -/
mutual
def laws_FnOrder.j0 : Nat → List Int → Bool → List Int → Int → List (S88) → Option (Bool)
 | 0, _, _, _, _, _ => none
 | k + 1, x4, x26, x694000, x694001, x694002 => if x26 = true then ((spec_OrderOf.f k x694000 x694001 x694002).bind fun t701 => ((laws_sameInts.f k x4 t701).bind fun t704 => (some t704))) else (laws_FnOrder.l0 k x4 0 x694000 x694001 x694002)
def laws_FnOrder.l0 : Nat → List Int → Int → List Int → Int → List (S88) → Option (Bool)
 | 0, _, _, _, _, _ => none
 | k + 1, x4, x5, x694000, x694001, x694002 => if x5 < (x4.length : Int) then (if 0 ≤ x5 then (if x5 ≤ (x4.length : Int) then ((laws_has.f k (x4.take (x5 : Int).toNat) (rd x4 x5)).bind fun t715 => (if t715 = true then (some false) else ((impl_PredsOf.f k x694000 x694001 x694002 (rd x4 x5)).bind fun t717 => (laws_FnOrder.l1 k x4 x5 t717 (x5 == 0) 0 x694000 x694001 x694002)))) else (none)) else (none)) else ((impl_Reached.f k x694000 x694001 x694002).bind fun t705 => ((laws_within.f k t705 x4).bind fun t708 => (if t708 = true then (if (t705.length : Int) = (x4.length : Int) then (if 0 < (x4.length : Int) then (some ((rd x4 0) == 0)) else (none)) else (some false)) else (some false))))
def laws_FnOrder.l1 : Nat → List Int → Int → List Int → Bool → Int → List Int → Int → List (S88) → Option (Bool)
 | 0, _, _, _, _, _, _, _, _ => none
 | k + 1, x4, x5, x6, x7, x8, x694000, x694001, x694002 => if x8 < (x6.length : Int) then (if x7 = true then (laws_FnOrder.l1 k x4 x5 x6 true (wrap64 (x8 + 1)) x694000 x694001 x694002) else (if 0 ≤ x5 then (if x5 ≤ (x4.length : Int) then (if 0 ≤ x8 then ((laws_has.f k (x4.take (x5 : Int).toNat) (rd x6 x8)).bind fun t725 => (laws_FnOrder.l1 k x4 x5 x6 t725 (wrap64 (x8 + 1)) x694000 x694001 x694002)) else (none)) else (none)) else (none))) else (if 0 ≤ x5 then (if x5 < (x4.length : Int) then ((impl_IdomOf.f k x694000 x694001 x694002 (rd x4 x5)).bind fun t727 => (if x7 = true then (if t727 ≥ 0 then (if x5 ≤ (x4.length : Int) then ((laws_has.f k (x4.take (x5 : Int).toNat) t727).bind fun t732 => (if t732 = true then (laws_FnOrder.l0 k x4 (wrap64 (x5 + 1)) x694000 x694001 x694002) else (some false))) else (none)) else (laws_FnOrder.l0 k x4 (wrap64 (x5 + 1)) x694000 x694001 x694002)) else (some false))) else (none)) else (none))
end
def laws_FnOrder.f (k : Nat) (l0 : List Int) : Option (Bool) := (laws_big.f l0).bind fun t685 => (if t685 = true then (some true) else ((spec_DrawOrderOf.f k l0).bind fun bt686 => ((impl_OrderOf.f k bt686.1 bt686.2.1 bt686.2.2).bind fun t694 => ((spec_OrderOf.f k bt686.1 bt686.2.1 bt686.2.2).bind fun t697 => ((laws_sameInts.f k t694 t697).bind fun t700 => (if t700 = true then (laws_FnOrder.j0 k t694 ((t694.length : Int) == 0) bt686.1 bt686.2.1 bt686.2.2) else (laws_FnOrder.j0 k t694 true bt686.1 bt686.2.1 bt686.2.2)))))))
theorem laws_FnOrder.mono_l : ∀ k, (∀ y0 y1 y2 y3 y4, LeO (laws_FnOrder.j0 k y0 y1 y2 y3 y4) (laws_FnOrder.j0 (k + 1) y0 y1 y2 y3 y4)) ∧ (∀ y0 y1 y2 y3 y4, LeO (laws_FnOrder.l0 k y0 y1 y2 y3 y4) (laws_FnOrder.l0 (k + 1) y0 y1 y2 y3 y4)) ∧ (∀ y0 y1 y2 y3 y4 y5 y6 y7, LeO (laws_FnOrder.l1 k y0 y1 y2 y3 y4 y5 y6 y7) (laws_FnOrder.l1 (k + 1) y0 y1 y2 y3 y4 y5 y6 y7))
 | 0 => ⟨fun _ _ _ _ _ r h => by simp [laws_FnOrder.j0] at h, fun _ _ _ _ _ r h => by simp [laws_FnOrder.l0] at h, fun _ _ _ _ _ _ _ _ r h => by simp [laws_FnOrder.l1] at h⟩
 | k + 1 => by
  obtain ⟨ih0, ih1, ih2⟩ := laws_FnOrder.mono_l k
  refine ⟨?_, ?_, ?_⟩
  ·intro y0 y1 y2 y3 y4
   unfold laws_FnOrder.j0
   repeat' first
   | (with_reducible exact ih0 _ _ _ _ _)
   | (with_reducible exact ih1 _ _ _ _ _)
   | (with_reducible exact ih2 _ _ _ _ _ _ _ _)
   | (with_reducible exact impl_IdomOf.mono _ _ _ _ _)
   | (with_reducible exact impl_OrderOf.mono _ _ _ _)
   | (with_reducible exact impl_PredsOf.mono _ _ _ _ _)
   | (with_reducible exact impl_Reached.mono _ _ _ _)
   | (with_reducible exact laws_has.mono _ _ _)
   | (with_reducible exact laws_sameInts.mono _ _ _)
   | (with_reducible exact laws_within.mono _ _ _)
   | (with_reducible exact spec_DrawOrderOf.mono _ _)
   | (with_reducible exact spec_OrderOf.mono _ _ _ _)
   | (with_reducible exact LeO.refl _)
   | (with_reducible exact LeO.none _)
   | (with_reducible refine LeO.ite ?_ ?_)
   | (with_reducible refine LeO.bind ?_ (fun _ => ?_))
   | exact ih0 _ _ _ _ _
   | exact ih1 _ _ _ _ _
   | exact ih2 _ _ _ _ _ _ _ _
   | exact impl_IdomOf.mono _ _ _ _ _
   | exact impl_OrderOf.mono _ _ _ _
   | exact impl_PredsOf.mono _ _ _ _ _
   | exact impl_Reached.mono _ _ _ _
   | exact laws_has.mono _ _ _
   | exact laws_sameInts.mono _ _ _
   | exact laws_within.mono _ _ _
   | exact spec_DrawOrderOf.mono _ _
   | exact spec_OrderOf.mono _ _ _ _
   | exact LeO.none _
   | refine LeO.ite ?_ ?_
   | refine LeO.bind ?_ (fun _ => ?_)
  ·intro y0 y1 y2 y3 y4
   unfold laws_FnOrder.l0
   repeat' first
   | (with_reducible exact ih0 _ _ _ _ _)
   | (with_reducible exact ih1 _ _ _ _ _)
   | (with_reducible exact ih2 _ _ _ _ _ _ _ _)
   | (with_reducible exact impl_IdomOf.mono _ _ _ _ _)
   | (with_reducible exact impl_OrderOf.mono _ _ _ _)
   | (with_reducible exact impl_PredsOf.mono _ _ _ _ _)
   | (with_reducible exact impl_Reached.mono _ _ _ _)
   | (with_reducible exact laws_has.mono _ _ _)
   | (with_reducible exact laws_sameInts.mono _ _ _)
   | (with_reducible exact laws_within.mono _ _ _)
   | (with_reducible exact spec_DrawOrderOf.mono _ _)
   | (with_reducible exact spec_OrderOf.mono _ _ _ _)
   | (with_reducible exact LeO.refl _)
   | (with_reducible exact LeO.none _)
   | (with_reducible refine LeO.ite ?_ ?_)
   | (with_reducible refine LeO.bind ?_ (fun _ => ?_))
   | exact ih0 _ _ _ _ _
   | exact ih1 _ _ _ _ _
   | exact ih2 _ _ _ _ _ _ _ _
   | exact impl_IdomOf.mono _ _ _ _ _
   | exact impl_OrderOf.mono _ _ _ _
   | exact impl_PredsOf.mono _ _ _ _ _
   | exact impl_Reached.mono _ _ _ _
   | exact laws_has.mono _ _ _
   | exact laws_sameInts.mono _ _ _
   | exact laws_within.mono _ _ _
   | exact spec_DrawOrderOf.mono _ _
   | exact spec_OrderOf.mono _ _ _ _
   | exact LeO.none _
   | refine LeO.ite ?_ ?_
   | refine LeO.bind ?_ (fun _ => ?_)
  ·intro y0 y1 y2 y3 y4 y5 y6 y7
   unfold laws_FnOrder.l1
   repeat' first
   | (with_reducible exact ih0 _ _ _ _ _)
   | (with_reducible exact ih1 _ _ _ _ _)
   | (with_reducible exact ih2 _ _ _ _ _ _ _ _)
   | (with_reducible exact impl_IdomOf.mono _ _ _ _ _)
   | (with_reducible exact impl_OrderOf.mono _ _ _ _)
   | (with_reducible exact impl_PredsOf.mono _ _ _ _ _)
   | (with_reducible exact impl_Reached.mono _ _ _ _)
   | (with_reducible exact laws_has.mono _ _ _)
   | (with_reducible exact laws_sameInts.mono _ _ _)
   | (with_reducible exact laws_within.mono _ _ _)
   | (with_reducible exact spec_DrawOrderOf.mono _ _)
   | (with_reducible exact spec_OrderOf.mono _ _ _ _)
   | (with_reducible exact LeO.refl _)
   | (with_reducible exact LeO.none _)
   | (with_reducible refine LeO.ite ?_ ?_)
   | (with_reducible refine LeO.bind ?_ (fun _ => ?_))
   | exact ih0 _ _ _ _ _
   | exact ih1 _ _ _ _ _
   | exact ih2 _ _ _ _ _ _ _ _
   | exact impl_IdomOf.mono _ _ _ _ _
   | exact impl_OrderOf.mono _ _ _ _
   | exact impl_PredsOf.mono _ _ _ _ _
   | exact impl_Reached.mono _ _ _ _
   | exact laws_has.mono _ _ _
   | exact laws_sameInts.mono _ _ _
   | exact laws_within.mono _ _ _
   | exact spec_DrawOrderOf.mono _ _
   | exact spec_OrderOf.mono _ _ _ _
   | exact LeO.none _
   | refine LeO.ite ?_ ?_
   | refine LeO.bind ?_ (fun _ => ?_)
theorem laws_FnOrder.mono : ∀ a0 k, LeO (laws_FnOrder.f k a0) (laws_FnOrder.f (k + 1) a0) := by
 intro a0 k
 obtain ⟨ih0, ih1, ih2⟩ := laws_FnOrder.mono_l k
 unfold laws_FnOrder.f
 repeat' first
   | (with_reducible exact ih0 _ _ _ _ _)
   | (with_reducible exact ih1 _ _ _ _ _)
   | (with_reducible exact ih2 _ _ _ _ _ _ _ _)
   | (with_reducible exact impl_IdomOf.mono _ _ _ _ _)
   | (with_reducible exact impl_OrderOf.mono _ _ _ _)
   | (with_reducible exact impl_PredsOf.mono _ _ _ _ _)
   | (with_reducible exact impl_Reached.mono _ _ _ _)
   | (with_reducible exact laws_has.mono _ _ _)
   | (with_reducible exact laws_sameInts.mono _ _ _)
   | (with_reducible exact laws_within.mono _ _ _)
   | (with_reducible exact spec_DrawOrderOf.mono _ _)
   | (with_reducible exact spec_OrderOf.mono _ _ _ _)
   | (with_reducible exact LeO.refl _)
   | (with_reducible exact LeO.none _)
   | (with_reducible refine LeO.ite ?_ ?_)
   | (with_reducible refine LeO.bind ?_ (fun _ => ?_))
   | exact ih0 _ _ _ _ _
   | exact ih1 _ _ _ _ _
   | exact ih2 _ _ _ _ _ _ _ _
   | exact impl_IdomOf.mono _ _ _ _ _
   | exact impl_OrderOf.mono _ _ _ _
   | exact impl_PredsOf.mono _ _ _ _ _
   | exact impl_Reached.mono _ _ _ _
   | exact laws_has.mono _ _ _
   | exact laws_sameInts.mono _ _ _
   | exact laws_within.mono _ _ _
   | exact spec_DrawOrderOf.mono _ _
   | exact spec_OrderOf.mono _ _ _ _
   | exact LeO.none _
   | refine LeO.ite ?_ ?_
   | refine LeO.bind ?_ (fun _ => ?_)
def laws_FnOrder.T10 : Bool × List (List Nat × List Nat) := (true, [([], []), ([], []), ([0, 1], [0, 1]), ([], []), ([], []), ([3, 4], [3, 4]), ([5], [5]), ([2, 6], [2, 6])])
def laws_FnOrder.B10 : List Nat := [0, 0, 3, 0, 0, 24, 56, 127]
theorem laws_FnOrder.tab10 : rtab .any (opsOf Try.f7 10) = laws_FnOrder.T10 := by kernel_rfl
theorem laws_FnOrder.bits10 : waitsOk laws_FnOrder.T10.2 laws_FnOrder.B10 = true := by kernel_rfl
def laws_FnOrder.T17 : Bool × List (List Nat × List Nat) := (true, [([], []), ([0], [0]), ([1], [1]), ([1], [1]), ([2, 3, 1], [1, 2, 3]), ([1], [1]), ([1], [1]), ([5, 6, 1], [1, 5, 6]), ([7, 1], [1, 7]), ([4, 8, 1, 1], [1, 4, 8]), ([1, 9], [1, 9]), ([10, 9, 0, 1, 2, 3, 4, 5, 6, 7, 8, 9, 10], [0, 10])])
def laws_FnOrder.B17 : List Nat := [0, 1, 3, 3, 15, 3, 3, 99, 227, 511, 1023, 2047]
theorem laws_FnOrder.tab17 : rtab .any (opsOf Try.f7 17) = laws_FnOrder.T17 := by kernel_rfl
theorem laws_FnOrder.bits17 : waitsOk laws_FnOrder.T17.2 laws_FnOrder.B17 = true := by kernel_rfl
set_option maxHeartbeats 8000000 in
set_option maxRecDepth 100000 in
theorem laws_FnOrder.calls (k : Nat) (A0 : Option Addr) (c0 : Nat) (l0 : List Int) (r : Bool) (w : World) (hr0 : Kd.C (Kd.int .u8) w A0 l0.length l0) (hc0 : l0.length ≤ c0) (h : laws_FnOrder.f k l0 = some r) :
  Calls Try.prog 7 #[.slice A0 l0.length c0] w fun e w' => e = .returned (.bool r) ∧ Below w.heap.size w w' := by
 have hu41 := Try.underlying41
 have HR0 := Aside0.mk hr0
 have HC0 := Aside0.mk hc0
 clear hr0 hc0
 have HB := Aside0.mk (Below.refl w.heap.size w)
 have H : ((laws_big.f l0).bind fun t685 => (if t685 = true then (some true) else ((spec_DrawOrderOf.f k l0).bind fun bt686 => ((impl_OrderOf.f k bt686.1 bt686.2.1 bt686.2.2).bind fun t694 => ((spec_OrderOf.f k bt686.1 bt686.2.1 bt686.2.2).bind fun t697 => ((laws_sameInts.f k t694 t697).bind fun t700 => (if t700 = true then (laws_FnOrder.j0 k t694 ((t694.length : Int) == 0) bt686.1 bt686.2.1 bt686.2.2) else (laws_FnOrder.j0 k t694 true bt686.1 bt686.2.1 bt686.2.2)))))))) = some r := h
 clear h
 replace H := Option.bind_eq_some_iff.mp H
 obtain ⟨t685, A20, H⟩ := H
 replace H : (if t685 = true then (some true) else ((spec_DrawOrderOf.f k l0).bind fun bt686 => ((impl_OrderOf.f k bt686.1 bt686.2.1 bt686.2.2).bind fun t694 => ((spec_OrderOf.f k bt686.1 bt686.2.1 bt686.2.2).bind fun t697 => ((laws_sameInts.f k t694 t697).bind fun t700 => (if t700 = true then (laws_FnOrder.j0 k t694 ((t694.length : Int) == 0) bt686.1 bt686.2.1 bt686.2.2) else (laws_FnOrder.j0 k t694 true bt686.1 bt686.2.1 bt686.2.2))))))) = some r := H
 have A2 := Aside0.mk A20
 clear A20
 by_cases c3 : t685 = true
 ·subst c3
  have H1 := (if_pos rfl).symm.trans H
  clear H
  have H := H1
  clear H1
  obtain rfl := Option.some.inj H
  go_enter Try.func7, Try.ntmps7
  go_wp2_with (first | ((with_reducible refine gate_callee (f := 25) rfl ?_); refine gL_ (some 12) Try.func25 #[.slice A0 l0.length c0] ?_; (with_reducible refine (laws_big.calls _ _ l0 true _ ?side1 ?side2 A2.out).mono ?_); (case side1 => repeat (first | exact HR0.out | (with_reducible refine Kd.C_alloc ?_ _) | (with_reducible refine Kd.C_drewN ?_ _) | (with_reducible refine Kd.C_drew ?_))); (case side2 => exact HC0.out); rintro e w' ⟨rfl, ⟨nd, rfl⟩⟩; refine ⟨_, rfl, ?_⟩))
  go_ret
  exact ⟨rG_, hB_⟩
 ·replace c3 := Bool.eq_false_iff.mpr c3
  subst c3
  have H1 := (if_neg (show ¬ (false = true) by decide)).symm.trans H
  clear H
  have H := H1
  clear H1
  replace H := Option.bind_eq_some_iff.mp H
  obtain ⟨⟨t686, t689, t690⟩, A40, H⟩ := H
  replace H : ((impl_OrderOf.f k t686 t689 t690).bind fun t694 => ((spec_OrderOf.f k t686 t689 t690).bind fun t697 => ((laws_sameInts.f k t694 t697).bind fun t700 => (if t700 = true then (laws_FnOrder.j0 k t694 ((t694.length : Int) == 0) t686 t689 t690) else (laws_FnOrder.j0 k t694 true t686 t689 t690))))) = some r := H
  have A4 := Aside0.mk A40
  clear A40
  replace H := Option.bind_eq_some_iff.mp H
  obtain ⟨t694, A50, H⟩ := H
  replace H : ((spec_OrderOf.f k t686 t689 t690).bind fun t697 => ((laws_sameInts.f k t694 t697).bind fun t700 => (if t700 = true then (laws_FnOrder.j0 k t694 ((t694.length : Int) == 0) t686 t689 t690) else (laws_FnOrder.j0 k t694 true t686 t689 t690)))) = some r := H
  have A5 := Aside0.mk A50
  clear A50
  have HC6 := Aside0.mk H
  clear H
  go_enter Try.func7, Try.ntmps7
  go_upto_region 5 with (first | ((with_reducible refine gate_callee (f := 25) rfl ?_); refine gL_ (some 12) Try.func25 #[.slice A0 l0.length c0] ?_; (with_reducible refine (laws_big.calls _ _ l0 false _ ?side1 ?side2 A2.out).mono ?_); (case side1 => repeat (first | exact HR0.out | (with_reducible refine Kd.C_alloc ?_ _) | (with_reducible refine Kd.C_drewN ?_ _) | (with_reducible refine Kd.C_drew ?_))); (case side2 => exact HC0.out); rintro e w' ⟨rfl, ⟨nd, rfl⟩⟩; refine ⟨_, rfl, ?_⟩) | ((with_reducible refine gate_callee (f := 33) rfl ?_); refine gL_ (some 14) Try.func33 #[.slice A0 l0.length c0] ?_; (with_reducible refine (spec_DrawOrderOf.calls k _ _ l0 t686 t689 t690 _ ?side1 ?side2 A4.out).mono ?_); (case side1 => repeat (first | exact HR0.out | (with_reducible refine Kd.C_alloc ?_ _) | (with_reducible refine Kd.C_drewN ?_ _) | (with_reducible refine Kd.C_drew ?_))); (case side2 => exact HC0.out); rintro e w7 ⟨v687, v691, rfl, ho0, ho1, hb⟩; refine ⟨_, rfl, ?_⟩; have n0_ := Aside0.mk (Kd.R_lower ho0 (below_size hB_)); have n1_ := Aside0.mk (Kd.R_lower ho1 (below_size hB_)); have n2_ := Aside0.mk (below_step hB_ hb); clear HB; have HO688 := n0_; have HO692 := n1_; have HB := n2_; clear n0_ n1_ n2_; (try clear hb); (try clear hb2); (try clear hk); (try clear hi); (try clear ho0); (try clear ho1)) | ((with_reducible refine gate_dst (N := 3) rfl ?_); (try (refine gate_guard (by rfl) ?_; dsimp only)); refine box_event ?hg (N := 3) ?hd (cs := #[.slice none 0 0, .int .i64 0, .slice none 0 0]) (t := 41) ?hr ?_; (case hd => rfl); (case hg => rfl); (case hr => first | (go_simp; done) | (go_simp; rfl)); intro gb693 hg w8 hbox hb; have n0_ := Aside0.mk (Kd.R_below rHO688_ hb); have n1_ := Aside0.mk (Kd.R_below rHO692_ hb); have n2_ := Aside0.mk (below_step hB_ hb); have n3_ := Aside0.mk (hbox); have n4_ := Aside0.mk ((sz_ hg (below_size hB_) : w.heap.size ≤ gb693)); have n5_ := Aside0.mk ((sz_ hg (below_size hB_) : w.heap.size ≤ gb693)); clear HO688; clear HO692; clear HB; have HO688 := n0_; have HO692 := n1_; have HB := n2_; have BK693 := n3_; have GW693 := n4_; have GE693 := n5_; clear n0_ n1_ n2_ n3_ n4_ n5_; clear hb hbox hg; obtain ⟨Ao9, co9, eo9⟩ := Kd.R_slice HO688.out; subst eo9; obtain ⟨hcz10_0, hcz10_1, hcz10_2, hfz10_0, hfz10_1, hfz10_2⟩ := blkc3_ BK693.out; obtain ⟨Ao11, co11, eo11⟩ := Kd.R_slice HO692.out; subst eo11) | ((with_reducible refine gate_callee (f := 34) rfl ?_); refine gL_ (some 16) Try.func34 #[.agg #[.slice Ao9 t686.length co9, .int .i64 t689, .slice Ao11 t690.length co11]] ?_; (with_reducible refine (impl_OrderOf.calls k _ _ t686 t689 _ _ t690 t694 _ ?side1 ?side2 ?side3 ?side4 A5.out).mono ?_); (case side1 => refine (Kd.R_reads' (e := 2) (base := w.heap.size) (ok := fun k_ => True) (n := t686.length) (c := co9) ?_).2.2; exact (by (with_reducible repeat (first | apply Kd.R_alloc | apply Kd.R_drewN | apply Kd.R_drew)); exact (rf3_ HO688.out BK693.out (by decide) (.slice Ao9 t686.length co9) (.int .i64 t689) (.slice Ao11 t690.length co11)))); (case side2 => exact (Kd.R_reads' HO688.out).2.1); (case side3 => refine (Kd.R_reads' (e := 88) (base := w.heap.size) (ok := fun k_ => some k_ ≠ (.slice Ao9 t686.length co9 : Value).ownBlock) (n := t690.length) (c := co11) ?_).2.2; exact (by (with_reducible repeat (first | apply Kd.R_alloc | apply Kd.R_drewN | apply Kd.R_drew)); exact (rf3_ HO692.out BK693.out (by decide) (.slice Ao9 t686.length co9) (.int .i64 t689) (.slice Ao11 t690.length co11)))); (case side4 => exact (Kd.R_reads' HO692.out).2.1); rintro e w12 ⟨v695, rfl, ho0, hb⟩; refine ⟨_, rfl, ?_⟩; have n0_ := Aside0.mk (Kd.R_elder' (by (with_reducible repeat (first | apply Kd.R_alloc | apply Kd.R_drewN | apply Kd.R_drew)); exact (rf3_ HO688.out BK693.out (by decide) (.slice Ao9 t686.length co9) (.int .i64 t689) (.slice Ao11 t690.length co11))) (Kd.R_base ho0) hb); have n1_ := Aside0.mk (Kd.R_elder' (by (with_reducible repeat (first | apply Kd.R_alloc | apply Kd.R_drewN | apply Kd.R_drew)); exact (rf3_ HO692.out BK693.out (by decide) (.slice Ao9 t686.length co9) (.int .i64 t689) (.slice Ao11 t690.length co11))) (Kd.R_base ho0) hb); have n2_ := Aside0.mk (Kd.R_lower (Kd.R_new' ho0 (Kd.R_lt (by (with_reducible repeat (first | apply Kd.R_alloc | apply Kd.R_drewN | apply Kd.R_drew)); exact (rf3_ HO688.out BK693.out (by decide) (.slice Ao9 t686.length co9) (.int .i64 t689) (.slice Ao11 t690.length co11))))) (below_size hS_)); have n3_ := Aside0.mk (blk_below (g := gb693) (o := .cells #[.slice Ao9 t686.length co9, .int .i64 t689, .slice Ao11 t690.length co11] 41 (0, 0)) (by (with_reducible repeat (first | refine blk_drewN ?_ _ | refine blk_drew ?_ | refine blk_alloc ?_ _)); refine blk_put (cs := #[.slice Ao9 t686.length co9, .int .i64 t689, .slice none 0 0]) ?_ 2 _ rfl; (with_reducible repeat (first | refine blk_drewN ?_ _ | refine blk_drew ?_ | refine blk_alloc ?_ _)); refine blk_put (cs := #[.slice Ao9 t686.length co9, .int .i64 0, .slice none 0 0]) ?_ 1 _ rfl; (with_reducible repeat (first | refine blk_drewN ?_ _ | refine blk_drew ?_ | refine blk_alloc ?_ _)); refine blk_put (cs := #[.slice none 0 0, .int .i64 0, .slice none 0 0]) ?_ 0 _ rfl; (with_reducible repeat (first | refine blk_drewN ?_ _ | refine blk_drew ?_ | refine blk_alloc ?_ _)); exact BK693.out) hb); have n4_ := Aside0.mk (below_step hS_ hb); clear HO688; clear HO692; clear BK693; clear HB; have HO688 := n0_; have HO692 := n1_; have HO696 := n2_; have BK693 := n3_; have HB := n4_; clear n0_ n1_ n2_ n3_ n4_; (try clear hb); (try clear hb2); (try clear hk); (try clear hi); (try clear ho0)))
  (try simp only [Act.put, List.setIfInBounds_toArray, List.set_cons_zero, List.set_cons_succ])
  go_cut [26] (fun v26 wc => ∃ (kq : Nat) (x26_5 : Bool), v26 = .bool x26_5 ∧ Aside0 (laws_FnOrder.j0 kq t694 x26_5 t686 t689 t690 = some r) ∧ Aside0 (kq ≤ k) ∧ Aside0 (Kd.R (Kd.int .i64) 2 wc w.heap.size (fun k_ => some k_ ≠ ((.slice Ao9 t686.length co9) : Value).ownBlock) v695 t694) ∧ Aside0 (Kd.R (Kd.int .i64) 2 wc w.heap.size (fun k_ => some k_ ≠ (v695 : Value).ownBlock) (.slice Ao9 t686.length co9) t686) ∧ Aside0 (Kd.R k88 88 wc w.heap.size (fun k_ => some k_ ≠ (v695 : Value).ownBlock ∧ some k_ ≠ ((.slice Ao9 t686.length co9) : Value).ownBlock) (.slice Ao11 t690.length co11) t690) ∧ Aside0 (wc.heap[gb693]? = some (.cells #[(.slice Ao9 t686.length co9), .int .i64 t689, (.slice Ao11 t690.length co11)] 41 (0, 0))) ∧ Aside0 (Below w.heap.size w wc))
  case first =>
   have H := HC6.out
   clear HC6
   replace H := Option.bind_eq_some_iff.mp H
   obtain ⟨t697, A130, H⟩ := H
   replace H : ((laws_sameInts.f k t694 t697).bind fun t700 => (if t700 = true then (laws_FnOrder.j0 k t694 ((t694.length : Int) == 0) t686 t689 t690) else (laws_FnOrder.j0 k t694 true t686 t689 t690))) = some r := H
   have A13 := Aside0.mk A130
   clear A130
   replace H := Option.bind_eq_some_iff.mp H
   obtain ⟨t700, A140, H⟩ := H
   replace H : (if t700 = true then (laws_FnOrder.j0 k t694 ((t694.length : Int) == 0) t686 t689 t690) else (laws_FnOrder.j0 k t694 true t686 t689 t690)) = some r := H
   have A14 := Aside0.mk A140
   clear A140
   by_cases c15 : t700 = true
   ·subst c15
    have H1 := (if_pos rfl).symm.trans H
    clear H
    have H := H1
    clear H1
    have H' := Aside0.mk H
    clear H
    obtain ⟨hcz16_0, hcz16_1, hcz16_2, hfz16_0, hfz16_1, hfz16_2⟩ := blkc3_ BK693.out
    go_wp2_with (first | ((with_reducible refine gate_callee (f := 36) rfl ?_); refine gL_ (some 19) Try.func36 #[.agg #[.slice Ao9 t686.length co9, .int .i64 t689, .slice Ao11 t690.length co11]] ?_; (with_reducible refine (spec_OrderOf.calls k _ _ t686 t689 _ _ t690 t697 _ ?side1 ?side2 ?side3 ?side4 A13.out).mono ?_); (case side1 => repeat (first | exact (Kd.R_reads' HO688.out).2.2 | (with_reducible refine Kd.C_alloc ?_ _) | (with_reducible refine Kd.C_drewN ?_ _) | (with_reducible refine Kd.C_drew ?_))); (case side2 => exact (Kd.R_reads' HO688.out).2.1); (case side3 => repeat (first | exact (Kd.R_reads' HO692.out).2.2 | (with_reducible refine Kd.C_alloc ?_ _) | (with_reducible refine Kd.C_drewN ?_ _) | (with_reducible refine Kd.C_drew ?_))); (case side4 => exact (Kd.R_reads' HO692.out).2.1); rintro e w17 ⟨v698, rfl, ho0, hb⟩; refine ⟨_, rfl, ?_⟩; have n0_ := Aside0.mk (Kd.R_elder' rHO688_ (Kd.R_base ho0) hb); have n1_ := Aside0.mk (Kd.R_elder' rHO692_ (Kd.R_base ho0) hb); have n2_ := Aside0.mk (Kd.R_elder' rHO696_ (Kd.R_base ho0) hb); have n3_ := Aside0.mk (Kd.R_lower (Kd.R_new' (Kd.R_new' ho0 (Kd.R_lt rHO688_)) (Kd.R_lt rHO696_)) (below_size hS_)); have n4_ := Aside0.mk (blk_below (g := gb693) (o := .cells #[.slice Ao9 t686.length co9, .int .i64 t689, .slice Ao11 t690.length co11] 41 (0, 0)) bK693_ hb); have n5_ := Aside0.mk (below_step hS_ hb); clear HO688; clear HO692; clear HO696; clear BK693; clear HB; have HO688 := n0_; have HO692 := n1_; have HO696 := n2_; have HO699 := n3_; have BK693 := n4_; have HB := n5_; clear n0_ n1_ n2_ n3_ n4_ n5_; (try clear hb); (try clear hb2); (try clear hk); (try clear hi); (try clear ho0); obtain ⟨Ao18, co18, eo18⟩ := Kd.R_slice HO696.out; subst eo18; obtain ⟨Ao19, co19, eo19⟩ := Kd.R_slice HO699.out; subst eo19) | ((with_reducible refine gate_callee (f := 35) rfl ?_); refine gL_ (some 20) Try.func35 #[.slice Ao18 t694.length co18, .slice Ao19 t697.length co19] ?_; (with_reducible refine (laws_sameInts.calls k _ _ t694 _ _ t697 true _ ?side1 ?side2 ?side3 ?side4 A14.out).mono ?_); (case side1 => repeat (first | exact (Kd.R_reads' HO696.out).2.2 | (with_reducible refine Kd.C_alloc ?_ _) | (with_reducible refine Kd.C_drewN ?_ _) | (with_reducible refine Kd.C_drew ?_))); (case side2 => exact (Kd.R_reads' HO696.out).2.1); (case side3 => repeat (first | exact (Kd.R_reads' HO699.out).2.2 | (with_reducible refine Kd.C_alloc ?_ _) | (with_reducible refine Kd.C_drewN ?_ _) | (with_reducible refine Kd.C_drew ?_))); (case side4 => exact (Kd.R_reads' HO699.out).2.1); rintro e w' ⟨rfl, ⟨nd, rfl⟩⟩; refine ⟨_, rfl, ?_⟩))
    go_meet
    case rel => exact ⟨_, (((t694.length : Int) == 0)), rF_, H', ⟨by first | omega | exact Nat.le_refl _⟩, ⟨by (with_reducible repeat (first | apply Kd.R_alloc | apply Kd.R_drewN | apply Kd.R_drew)); exact Kd.R_mono HO696.out (fun _ hk => hk.1.2)⟩, ⟨by (with_reducible repeat (first | apply Kd.R_alloc | apply Kd.R_drewN | apply Kd.R_drew)); exact Kd.R_mono HO688.out (fun _ hk => hk.1.2)⟩, ⟨by (with_reducible repeat (first | apply Kd.R_alloc | apply Kd.R_drewN | apply Kd.R_drew)); exact Kd.R_mono HO692.out (fun _ hk => ⟨hk.1.2, hk.1.1⟩)⟩, ⟨bK693_⟩, ⟨hS_⟩⟩
   ·replace c15 := Bool.eq_false_iff.mpr c15
    subst c15
    have H1 := (if_neg (show ¬ (false = true) by decide)).symm.trans H
    clear H
    have H := H1
    clear H1
    have H' := Aside0.mk H
    clear H
    obtain ⟨hcz20_0, hcz20_1, hcz20_2, hfz20_0, hfz20_1, hfz20_2⟩ := blkc3_ BK693.out
    go_wp2_with (first | ((with_reducible refine gate_callee (f := 36) rfl ?_); refine gL_ (some 19) Try.func36 #[.agg #[.slice Ao9 t686.length co9, .int .i64 t689, .slice Ao11 t690.length co11]] ?_; (with_reducible refine (spec_OrderOf.calls k _ _ t686 t689 _ _ t690 t697 _ ?side1 ?side2 ?side3 ?side4 A13.out).mono ?_); (case side1 => repeat (first | exact (Kd.R_reads' HO688.out).2.2 | (with_reducible refine Kd.C_alloc ?_ _) | (with_reducible refine Kd.C_drewN ?_ _) | (with_reducible refine Kd.C_drew ?_))); (case side2 => exact (Kd.R_reads' HO688.out).2.1); (case side3 => repeat (first | exact (Kd.R_reads' HO692.out).2.2 | (with_reducible refine Kd.C_alloc ?_ _) | (with_reducible refine Kd.C_drewN ?_ _) | (with_reducible refine Kd.C_drew ?_))); (case side4 => exact (Kd.R_reads' HO692.out).2.1); rintro e w21 ⟨v698, rfl, ho0, hb⟩; refine ⟨_, rfl, ?_⟩; have n0_ := Aside0.mk (Kd.R_elder' rHO688_ (Kd.R_base ho0) hb); have n1_ := Aside0.mk (Kd.R_elder' rHO692_ (Kd.R_base ho0) hb); have n2_ := Aside0.mk (Kd.R_elder' rHO696_ (Kd.R_base ho0) hb); have n3_ := Aside0.mk (Kd.R_lower (Kd.R_new' (Kd.R_new' ho0 (Kd.R_lt rHO688_)) (Kd.R_lt rHO696_)) (below_size hS_)); have n4_ := Aside0.mk (blk_below (g := gb693) (o := .cells #[.slice Ao9 t686.length co9, .int .i64 t689, .slice Ao11 t690.length co11] 41 (0, 0)) bK693_ hb); have n5_ := Aside0.mk (below_step hS_ hb); clear HO688; clear HO692; clear HO696; clear BK693; clear HB; have HO688 := n0_; have HO692 := n1_; have HO696 := n2_; have HO699 := n3_; have BK693 := n4_; have HB := n5_; clear n0_ n1_ n2_ n3_ n4_ n5_; (try clear hb); (try clear hb2); (try clear hk); (try clear hi); (try clear ho0); obtain ⟨Ao22, co22, eo22⟩ := Kd.R_slice HO696.out; subst eo22; obtain ⟨Ao23, co23, eo23⟩ := Kd.R_slice HO699.out; subst eo23) | ((with_reducible refine gate_callee (f := 35) rfl ?_); refine gL_ (some 20) Try.func35 #[.slice Ao22 t694.length co22, .slice Ao23 t697.length co23] ?_; (with_reducible refine (laws_sameInts.calls k _ _ t694 _ _ t697 false _ ?side1 ?side2 ?side3 ?side4 A14.out).mono ?_); (case side1 => repeat (first | exact (Kd.R_reads' HO696.out).2.2 | (with_reducible refine Kd.C_alloc ?_ _) | (with_reducible refine Kd.C_drewN ?_ _) | (with_reducible refine Kd.C_drew ?_))); (case side2 => exact (Kd.R_reads' HO696.out).2.1); (case side3 => repeat (first | exact (Kd.R_reads' HO699.out).2.2 | (with_reducible refine Kd.C_alloc ?_ _) | (with_reducible refine Kd.C_drewN ?_ _) | (with_reducible refine Kd.C_drew ?_))); (case side4 => exact (Kd.R_reads' HO699.out).2.1); rintro e w' ⟨rfl, ⟨nd, rfl⟩⟩; refine ⟨_, rfl, ?_⟩))
    go_meet
    case rel => exact ⟨_, (true), rF_, H', ⟨by first | omega | exact Nat.le_refl _⟩, ⟨by (with_reducible repeat (first | apply Kd.R_alloc | apply Kd.R_drewN | apply Kd.R_drew)); exact Kd.R_mono HO696.out (fun _ hk => hk.1.2)⟩, ⟨by (with_reducible repeat (first | apply Kd.R_alloc | apply Kd.R_drewN | apply Kd.R_drew)); exact Kd.R_mono HO688.out (fun _ hk => hk.1.2)⟩, ⟨by (with_reducible repeat (first | apply Kd.R_alloc | apply Kd.R_drewN | apply Kd.R_drew)); exact Kd.R_mono HO692.out (fun _ hk => ⟨hk.1.2, hk.1.1⟩)⟩, ⟨bK693_⟩, ⟨hS_⟩⟩
  case rest =>
   clear HC6
   try clear c1
   try clear c2
   try clear p2
   try clear c3
   try clear c7
   try clear c15
   try clear hcz10_0 hcz10_1 hcz10_2 hfz10_0 hfz10_1 hfz10_2
   try clear hcz16_0 hcz16_1 hcz16_2 hfz16_0 hfz16_1 hfz16_2
   try clear hcz20_0 hcz20_1 hcz20_2 hfz20_0 hfz20_1 hfz20_2
   obtain ⟨kq, x26_5, rfl, HA, HJ5, HO_4, HO_694000, HO_694002, BK693, HB⟩ := hcut
   cases kq with
   | zero => exact absurd HA.out (by simp [laws_FnOrder.j0])
   | succ kj5 =>
    have H := HA.out
    clear HA
    simp only [laws_FnOrder.j0] at H
    by_cases c24 : x26_5 = true
    ·subst c24
     have H1 := (if_pos rfl).symm.trans H
     clear H
     have H := H1
     clear H1
     replace H := Option.bind_eq_some_iff.mp H
     obtain ⟨t701, A250, H⟩ := H
     replace H : ((laws_sameInts.f kj5 t694 t701).bind fun t704 => (some t704)) = some r := H
     have A25 := Aside0.mk A250
     clear A250
     replace H := Option.bind_eq_some_iff.mp H
     obtain ⟨t704, A260, H⟩ := H
     replace H : (some t704) = some r := H
     have A26 := Aside0.mk A260
     clear A260
     obtain rfl := Option.some.inj H
     obtain ⟨hcz27_0, hcz27_1, hcz27_2, hfz27_0, hfz27_1, hfz27_2⟩ := blkc3_ BK693.out
     go_wp2_with (first | ((with_reducible refine gate_callee (f := 36) rfl ?_); refine gL_ (some 29) Try.func36 #[.agg #[.slice Ao9 t686.length co9, .int .i64 t689, .slice Ao11 t690.length co11]] ?_; (with_reducible refine (spec_OrderOf.calls kj5 _ _ t686 t689 _ _ t690 t701 _ ?side1 ?side2 ?side3 ?side4 A25.out).mono ?_); (case side1 => repeat (first | exact (Kd.R_reads' HO_694000.out).2.2 | (with_reducible refine Kd.C_alloc ?_ _) | (with_reducible refine Kd.C_drewN ?_ _) | (with_reducible refine Kd.C_drew ?_))); (case side2 => exact (Kd.R_reads' HO_694000.out).2.1); (case side3 => repeat (first | exact (Kd.R_reads' HO_694002.out).2.2 | (with_reducible refine Kd.C_alloc ?_ _) | (with_reducible refine Kd.C_drewN ?_ _) | (with_reducible refine Kd.C_drew ?_))); (case side4 => exact (Kd.R_reads' HO_694002.out).2.1); rintro e w28 ⟨v702, rfl, ho0, hb⟩; refine ⟨_, rfl, ?_⟩; have n0_ := Aside0.mk (Kd.R_elder' rHO_4_ (Kd.R_base ho0) hb); have n1_ := Aside0.mk (Kd.R_elder' rHO_694000_ (Kd.R_base ho0) hb); have n2_ := Aside0.mk (Kd.R_elder' rHO_694002_ (Kd.R_base ho0) hb); have n3_ := Aside0.mk (Kd.R_lower (Kd.R_new' (Kd.R_new' ho0 (Kd.R_lt rHO_4_)) (Kd.R_lt rHO_694000_)) (below_size hS_)); have n4_ := Aside0.mk (blk_below (g := gb693) (o := .cells #[.slice Ao9 t686.length co9, .int .i64 t689, .slice Ao11 t690.length co11] 41 (0, 0)) bK693_ hb); have n5_ := Aside0.mk (below_step hS_ hb); clear HO_4; clear HO_694000; clear HO_694002; clear BK693; clear HB; have HO_4 := n0_; have HO_694000 := n1_; have HO_694002 := n2_; have HO703 := n3_; have BK693 := n4_; have HB := n5_; clear n0_ n1_ n2_ n3_ n4_ n5_; (try clear hb); (try clear hb2); (try clear hk); (try clear hi); (try clear ho0); obtain ⟨Ao29, co29, eo29⟩ := Kd.R_slice HO_4.out; subst eo29; obtain ⟨Ao30, co30, eo30⟩ := Kd.R_slice HO703.out; subst eo30) | ((with_reducible refine gate_callee (f := 35) rfl ?_); refine gL_ (some 30) Try.func35 #[.slice Ao29 t694.length co29, .slice Ao30 t701.length co30] ?_; (with_reducible refine (laws_sameInts.calls kj5 _ _ t694 _ _ t701 t704 _ ?side1 ?side2 ?side3 ?side4 A26.out).mono ?_); (case side1 => repeat (first | exact (Kd.R_reads' HO_4.out).2.2 | (with_reducible refine Kd.C_alloc ?_ _) | (with_reducible refine Kd.C_drewN ?_ _) | (with_reducible refine Kd.C_drew ?_))); (case side2 => exact (Kd.R_reads' HO_4.out).2.1); (case side3 => repeat (first | exact (Kd.R_reads' HO703.out).2.2 | (with_reducible refine Kd.C_alloc ?_ _) | (with_reducible refine Kd.C_drewN ?_ _) | (with_reducible refine Kd.C_drew ?_))); (case side4 => exact (Kd.R_reads' HO703.out).2.1); rintro e w' ⟨rfl, ⟨nd, rfl⟩⟩; refine ⟨_, rfl, ?_⟩))
     go_ret
     exact ⟨rG_, hS_⟩
    ·replace c24 := Bool.eq_false_iff.mpr c24
     subst c24
     have H1 := (if_neg (show ¬ (false = true) by decide)).symm.trans H
     clear H
     have H := H1
     clear H1
     have H' := Aside0.mk H
     clear H
     go_wp2
     go_loopg [5] kj5 (fun kq v5 w' => ∃ (x5_2 : Int), v5 = .int .i64 x5_2 ∧ Aside0 (laws_FnOrder.l0 kq t694 x5_2 t686 t689 t690 = some r) ∧ Aside0 (kq ≤ kj5) ∧ Aside0 (Kd.R (Kd.int .i64) 2 w' w.heap.size (fun k_ => some k_ ≠ ((.slice Ao9 t686.length co9) : Value).ownBlock) v695 t694) ∧ Aside0 (Kd.R (Kd.int .i64) 2 w' w.heap.size (fun k_ => some k_ ≠ (v695 : Value).ownBlock) (.slice Ao9 t686.length co9) t686) ∧ Aside0 (Kd.R k88 88 w' w.heap.size (fun k_ => some k_ ≠ (v695 : Value).ownBlock ∧ some k_ ≠ ((.slice Ao9 t686.length co9) : Value).ownBlock) (.slice Ao11 t690.length co11) t690) ∧ Aside0 (w'.heap[gb693]? = some (.cells #[(.slice Ao9 t686.length co9), .int .i64 t689, (.slice Ao11 t690.length co11)] 41 (0, 0))) ∧ Aside0 (Below w.heap.size w w'))
     case atStart => exact ⟨(0), rF_, H', ⟨Nat.le_refl _⟩, ⟨rHO_4_⟩, ⟨rHO_694000_⟩, ⟨rHO_694002_⟩, ⟨bK693_⟩, ⟨hS_⟩⟩
     case round =>
      clear H'
      try clear c1
      try clear c2
      try clear p2
      try clear c3
      try clear c7
      try clear c15
      try clear c24
      try clear c25
      try clear hcz10_0 hcz10_1 hcz10_2 hfz10_0 hfz10_1 hfz10_2
      try clear hcz16_0 hcz16_1 hcz16_2 hfz16_0 hfz16_1 hfz16_2
      try clear hcz20_0 hcz20_1 hcz20_2 hfz20_0 hfz20_1 hfz20_2
      try clear hcz27_0 hcz27_1 hcz27_2 hfz27_0 hfz27_1 hfz27_2
      try clear p2
      obtain ⟨x5_2, rfl, HA, HK2, HO_4, HO_694000, HO_694002, BK693, HB⟩ := hrel
      cases gk with
      | zero => exact absurd HA.out (by simp [laws_FnOrder.l0])
      | succ k2 =>
       have H := HA.out
       clear HA
       simp only [laws_FnOrder.l0] at H
       by_cases c31 : x5_2 < (t694.length : Int)
       ·rw [if_pos c31] at H
        have c31b0 : decide (x5_2 < (t694.length : Int)) = true := decide_eq_true c31
        clear c31
        by_cases c32 : 0 ≤ x5_2
        ·rw [if_pos c32] at H
         have c32b0 := eq_true c32
         have c32b1 : decide (0 ≤ x5_2) = true := decide_eq_true c32
         clear c32
         by_cases c33 : x5_2 ≤ (t694.length : Int)
         ·rw [if_pos c33] at H
          have c33b0 := eq_true c33
          have c33b1 : decide (x5_2 ≤ (t694.length : Int)) = true := decide_eq_true c33
          clear c33
          obtain ⟨y710, hy710⟩ : ∃ y_ : List Int, y_ = (t694.take (x5_2 : Int).toNat) := ⟨_, rfl⟩
          replace H : ((laws_has.f k2 y710 (rd t694 x5_2)).bind fun t715 => (if t715 = true then (some false) else ((impl_PredsOf.f k2 t686 t689 t690 (rd t694 x5_2)).bind fun t717 => (laws_FnOrder.l1 k2 t694 x5_2 t717 (x5_2 == 0) 0 t686 t689 t690)))) = some r := by first | (rw [hy710]; with_reducible exact H) | (have H2_ := (Option.bind_some _ _).symm.trans H; rw [hy710]; with_reducible exact H2_) | (have H2_ := (Option.bind_some _ _).symm.trans H; with_reducible exact H2_) | with_reducible exact H | (rw [hy710]; exact H) | exact H
          have Ny710 := Aside0.mk hy710
          clear hy710
          replace H := Option.bind_eq_some_iff.mp H
          obtain ⟨t715, A340, H⟩ := H
          replace H : (if t715 = true then (some false) else ((impl_PredsOf.f k2 t686 t689 t690 (rd t694 x5_2)).bind fun t717 => (laws_FnOrder.l1 k2 t694 x5_2 t717 (x5_2 == 0) 0 t686 t689 t690))) = some r := H
          have A34 := Aside0.mk A340
          clear A340
          by_cases c35 : t715 = true
          ·subst c35
           have H1 := (if_pos rfl).symm.trans H
           clear H
           have H := H1
           clear H1
           obtain rfl := Option.some.inj H
           obtain ⟨Ao36, co36, eo36⟩ := Kd.R_slice HO_4.out
           subst eo36
           try go_wp2
           have n0_ := Aside0.mk (Kd.R_drew HO_4.out)
           have n1_ := Aside0.mk (Kd.R_drew HO_694000.out)
           have n2_ := Aside0.mk (Kd.R_drew HO_694002.out)
           have n3_ := Aside0.mk (blk_drew BK693.out)
           have n4_ := Aside0.mk (below_drew1 HB.out)
           clear HO_4
           clear HO_694000
           clear HO_694002
           clear BK693
           clear HB
           have HO_4 := n0_
           have HO_694000 := n1_
           have HO_694002 := n2_
           have BK693 := n3_
           have HB := n4_
           clear n0_ n1_ n2_ n3_ n4_
           have q38 : (x5_2 : Int) ≤ ((t694.length : Int) : Int) := oD_
           obtain ⟨i038, hi038, _, hsz38, _⟩ := info_parts info2
           have hroom38 : t694.length ≤ co36 := (Kd.R_reads' HO_4.out).2.1
           have hC38 : Kd.C (Kd.int .i64) _ Ao36 t694.length t694 := (Kd.R_reads' HO_4.out).2.2
           have hcut38 := cut_to (P := Try.prog) 22 2 .i64 Try.underlying22 hi038 Ao36 t694.length co36 x5_2 (oD_) q38 hroom38
           have hr38 := Kd.C_take (m := (x5_2 : Int).toNat) hC38 (by omega)
           have hy38 : y710.length = (x5_2 : Int).toNat := (by rw [Ny710.out, List.length_take]; omega)
           rw [← Ny710.out] at hr38
           rw [← hy38] at hcut38
           have HR713 := Aside0.mk hr38
           have HC713 := Aside0.mk (show y710.length ≤ co36 from by omega)
           clear hr38 hC38 hroom38 hi038 hsz38
           have KY38 := Aside0.mk hy38
           clear hy38
           have KL38 := Aside0.mk (show (x5_2 : Int).toNat ≤ t694.length from by omega)
           replace q38 := eq_true q38
           have p714 : 0 ≤ (x5_2 : Int) := oD_
           have q714 : x5_2 < (t694.length : Int) := oD_
           obtain ⟨ad714, e714, hx714_0⟩ := Kd.at_int (Kd.R_reads' HO_4.out).2.2 x5_2 p714 q714
           cases e714
           replace p714 := eq_true p714
           replace q714 := eq_true q714
           refine start_ (n := 8) (S := fun w' => w'.cell? (ad714.add (x5_2).toNat) = some (.int .i64 (rd t694 x5_2))) (ds := []) #[false, false, false, false, false, false, false, false] (by kernel_rfl) rfl rfl (hx714_0) (fun hHeld => ?_); refine with_tabW laws_FnOrder.tab10 laws_FnOrder.bits10 (fun HT_ HW_ => ?_)
           generalize wr.drew = w37 at HO_4 HO_694000 HO_694002 BK693 HB HR713 hx714_0 hHeld ⊢
           refine pure_ (i := 0) (N := some 37) (v := ?_) (a' := ?_) #[true, false, false, false, false, false, false, false] rfl rfl (any_of HT_.out (by kernel_rfl)) (fun _ _ _ h => h) (Or.inl ⟨by rfl, ?_⟩) ?_ ?_
           rotate_left
           ·intro w'
            go_simp
            with_reducible rfl
           rotate_left
           ·simp only [Act.put, List.setIfInBounds_toArray, List.set_cons_zero, List.set_cons_succ, i64_w, i32_w]
            rfl
           refine pure_ (i := 1) (N := some 38) (v := ?_) (a' := ?_) #[true, true, false, false, false, false, false, false] rfl rfl (any_of HT_.out (by kernel_rfl)) (fun _ _ _ h => h) (Or.inl ⟨by rfl, ?_⟩) ?_ ?_
           rotate_left
           ·intro w'
            go_simp
            with_reducible rfl
           rotate_left
           ·simp only [Act.put, List.setIfInBounds_toArray, List.set_cons_zero, List.set_cons_succ, i64_w, i32_w]
            rfl
           refine pure_ (i := 2) (N := some 39) (v := ?_) (a' := ?_) #[true, true, true, false, false, false, false, false] rfl rfl (any_of HT_.out (by kernel_rfl)) (fun _ _ _ h => h) (Or.inl ⟨by rfl, ?_⟩) ?_ ?_
           rotate_left
           ·intro w'
            go_simp
            with_reducible rfl
           rotate_left
           ·simp only [Act.put, List.setIfInBounds_toArray, List.set_cons_zero, List.set_cons_succ, i64_w, i32_w]
            rfl
           refine pure_ (i := 3) (N := some 40) (v := ?_) (a' := ?_) #[true, true, true, true, false, false, false, false] rfl rfl (any_of HT_.out (by kernel_rfl)) (fun _ _ _ h => h) (Or.inl ⟨by rfl, ?_⟩) ?_ ?_
           rotate_left
           ·intro w'
            go_simp
            with_reducible rfl
           rotate_left
           ·simp only [Act.put, List.setIfInBounds_toArray, List.set_cons_zero, List.set_cons_succ, i64_w, i32_w]
            rfl
           refine pure_ (i := 4) (N := some 41) (v := ?_) (a' := ?_) #[true, true, true, true, true, false, false, false] rfl rfl (any_of HT_.out (by kernel_rfl)) (fun _ _ _ h => h) (Or.inl ⟨by rfl, ?_⟩) ?_ ?_
           rotate_left
           ·intro w'
            go_simp
            with_reducible rfl
           rotate_left
           ·simp only [Act.put, List.setIfInBounds_toArray, List.set_cons_zero, List.set_cons_succ, i64_w, i32_w]
            rfl
           refine pure_ (i := 5) (N := some 42) (v := ?_) (a' := ?_) #[true, true, true, true, true, true, false, false] rfl rfl (any_of HT_.out (by kernel_rfl)) (fun _ _ _ h => h) (Or.inl ⟨by rfl, ?_⟩) ?_ ?_
           rotate_left
           ·intro w'
            go_simp
            with_reducible rfl
           rotate_left
           ·simp only [Act.put, List.setIfInBounds_toArray, List.set_cons_zero, List.set_cons_succ, i64_w, i32_w]
            rfl
           refine take_ (i := 6) (N := some 43) (v := ?_) (a' := ?_) #[true, true, true, true, true, true, true, false] rfl rfl (take_ofW HT_.out HW_.out (by kernel_rfl)) (fun _ _ _ h => h) (Or.inl ⟨by rfl, ?_⟩) hHeld ?_ ?_
           rotate_left
           ·intro w' s0
            go_simp
            with_reducible rfl
           rotate_left
           ·simp only [Act.put, List.setIfInBounds_toArray, List.set_cons_zero, List.set_cons_succ, i64_w, i32_w]
            rfl
           refine one_ (i := 7) (N := some 44) #[true, true, true, true, true, true, true, true] rfl rfl (one_of HT_.out (by kernel_rfl)) (by decide) (fun K hK => ?_)
           refine goes_ Try.func37 (by kernel_rfl) rfl #[.slice (some ad714) y710.length co36, .int .i64 (rd t694 x5_2)] (by rfl) rfl rfl (by (try simp only [List.map_toArray, List.map_cons, List.map_nil]); first | done | rfl | (simp only [List.length_drop, List.length_take]; rfl)) ?_
           with_reducible refine (laws_has.calls k2 _ _ y710 (rd t694 x5_2) true _ ?side1 ?side2 A34.out).mono ?_
           (case side1 => repeat (first | exact (by repeat (first | (with_reducible exact HR713.out) | (with_reducible refine Kd.C_alloc ?_ _) | (with_reducible refine Kd.C_drewN ?_ _) | (with_reducible refine Kd.C_drew ?_) | exact HR713.out)) | (with_reducible refine Kd.C_alloc ?_ _) | (with_reducible refine Kd.C_drewN ?_ _) | (with_reducible refine Kd.C_drew ?_)))
           (case side2 => exact HC713.out)
           rintro e w' ⟨rfl, ⟨nd, rfl⟩⟩
           refine ⟨_, rfl, ?_⟩
           refine hK.out _ _ (hHeld) (fun hHeld => ?_)
           clear hK K
           refine norm_ (a' := ?_) ?_ ?_
           rotate_left
           ·show Act.put _ (some 44) _ = _
            simp only [Act.put, List.setIfInBounds_toArray, List.set_cons_zero, List.set_cons_succ, i64_w, i32_w]
            rfl
           refine done_ (done_of HT_.out (by kernel_rfl)) ?_
           try go_wp2
           go_ret
           exact ⟨rG_, hS_⟩
          ·replace c35 := Bool.eq_false_iff.mpr c35
           subst c35
           have H1 := (if_neg (show ¬ (false = true) by decide)).symm.trans H
           clear H
           have H := H1
           clear H1
           replace H := Option.bind_eq_some_iff.mp H
           obtain ⟨t717, A390, H⟩ := H
           replace H : (laws_FnOrder.l1 k2 t694 x5_2 t717 (x5_2 == 0) 0 t686 t689 t690) = some r := H
           have A39 := Aside0.mk A390
           clear A390
           have H' := Aside0.mk H
           clear H
           obtain ⟨Ao40, co40, eo40⟩ := Kd.R_slice HO_4.out
           subst eo40
           try go_wp2
           have n0_ := Aside0.mk (Kd.R_drew HO_4.out)
           have n1_ := Aside0.mk (Kd.R_drew HO_694000.out)
           have n2_ := Aside0.mk (Kd.R_drew HO_694002.out)
           have n3_ := Aside0.mk (blk_drew BK693.out)
           have n4_ := Aside0.mk (below_drew1 HB.out)
           clear HO_4
           clear HO_694000
           clear HO_694002
           clear BK693
           clear HB
           have HO_4 := n0_
           have HO_694000 := n1_
           have HO_694002 := n2_
           have BK693 := n3_
           have HB := n4_
           clear n0_ n1_ n2_ n3_ n4_
           have q42 : (x5_2 : Int) ≤ ((t694.length : Int) : Int) := oD_
           obtain ⟨i042, hi042, _, hsz42, _⟩ := info_parts info2
           have hroom42 : t694.length ≤ co40 := (Kd.R_reads' HO_4.out).2.1
           have hC42 : Kd.C (Kd.int .i64) _ Ao40 t694.length t694 := (Kd.R_reads' HO_4.out).2.2
           try clear hcut38
           have hcut42 := cut_to (P := Try.prog) 22 2 .i64 Try.underlying22 hi042 Ao40 t694.length co40 x5_2 (oD_) q42 hroom42
           have hr42 := Kd.C_take (m := (x5_2 : Int).toNat) hC42 (by omega)
           have hy42 : y710.length = (x5_2 : Int).toNat := (by rw [Ny710.out, List.length_take]; omega)
           rw [← Ny710.out] at hr42
           rw [← hy42] at hcut42
           have HR713 := Aside0.mk hr42
           have HC713 := Aside0.mk (show y710.length ≤ co40 from by omega)
           clear hr42 hC42 hroom42 hi042 hsz42
           have KY42 := Aside0.mk hy42
           clear hy42
           have KL42 := Aside0.mk (show (x5_2 : Int).toNat ≤ t694.length from by omega)
           replace q42 := eq_true q42
           have p714 : 0 ≤ (x5_2 : Int) := oD_
           have q714 : x5_2 < (t694.length : Int) := oD_
           obtain ⟨ad714, e714, hx714_0⟩ := Kd.at_int (Kd.R_reads' HO_4.out).2.2 x5_2 p714 q714
           cases e714
           replace p714 := eq_true p714
           replace q714 := eq_true q714
           refine start_ (n := 8) (S := fun w' => w'.cell? (ad714.add (x5_2).toNat) = some (.int .i64 (rd t694 x5_2))) (ds := []) #[false, false, false, false, false, false, false, false] (by kernel_rfl) rfl rfl (hx714_0) (fun hHeld => ?_); refine with_tabW laws_FnOrder.tab10 laws_FnOrder.bits10 (fun HT_ HW_ => ?_)
           generalize wr.drew = w41 at HO_4 HO_694000 HO_694002 BK693 HB HR713 hx714_0 hHeld ⊢
           refine pure_ (i := 0) (N := some 37) (v := ?_) (a' := ?_) #[true, false, false, false, false, false, false, false] rfl rfl (any_of HT_.out (by kernel_rfl)) (fun _ _ _ h => h) (Or.inl ⟨by rfl, ?_⟩) ?_ ?_
           rotate_left
           ·intro w'
            go_simp
            with_reducible rfl
           rotate_left
           ·simp only [Act.put, List.setIfInBounds_toArray, List.set_cons_zero, List.set_cons_succ, i64_w, i32_w]
            rfl
           refine pure_ (i := 1) (N := some 38) (v := ?_) (a' := ?_) #[true, true, false, false, false, false, false, false] rfl rfl (any_of HT_.out (by kernel_rfl)) (fun _ _ _ h => h) (Or.inl ⟨by rfl, ?_⟩) ?_ ?_
           rotate_left
           ·intro w'
            go_simp
            with_reducible rfl
           rotate_left
           ·simp only [Act.put, List.setIfInBounds_toArray, List.set_cons_zero, List.set_cons_succ, i64_w, i32_w]
            rfl
           refine pure_ (i := 2) (N := some 39) (v := ?_) (a' := ?_) #[true, true, true, false, false, false, false, false] rfl rfl (any_of HT_.out (by kernel_rfl)) (fun _ _ _ h => h) (Or.inl ⟨by rfl, ?_⟩) ?_ ?_
           rotate_left
           ·intro w'
            go_simp
            with_reducible rfl
           rotate_left
           ·simp only [Act.put, List.setIfInBounds_toArray, List.set_cons_zero, List.set_cons_succ, i64_w, i32_w]
            rfl
           refine pure_ (i := 3) (N := some 40) (v := ?_) (a' := ?_) #[true, true, true, true, false, false, false, false] rfl rfl (any_of HT_.out (by kernel_rfl)) (fun _ _ _ h => h) (Or.inl ⟨by rfl, ?_⟩) ?_ ?_
           rotate_left
           ·intro w'
            go_simp
            with_reducible rfl
           rotate_left
           ·simp only [Act.put, List.setIfInBounds_toArray, List.set_cons_zero, List.set_cons_succ, i64_w, i32_w]
            rfl
           refine pure_ (i := 4) (N := some 41) (v := ?_) (a' := ?_) #[true, true, true, true, true, false, false, false] rfl rfl (any_of HT_.out (by kernel_rfl)) (fun _ _ _ h => h) (Or.inl ⟨by rfl, ?_⟩) ?_ ?_
           rotate_left
           ·intro w'
            go_simp
            with_reducible rfl
           rotate_left
           ·simp only [Act.put, List.setIfInBounds_toArray, List.set_cons_zero, List.set_cons_succ, i64_w, i32_w]
            rfl
           refine pure_ (i := 5) (N := some 42) (v := ?_) (a' := ?_) #[true, true, true, true, true, true, false, false] rfl rfl (any_of HT_.out (by kernel_rfl)) (fun _ _ _ h => h) (Or.inl ⟨by rfl, ?_⟩) ?_ ?_
           rotate_left
           ·intro w'
            go_simp
            with_reducible rfl
           rotate_left
           ·simp only [Act.put, List.setIfInBounds_toArray, List.set_cons_zero, List.set_cons_succ, i64_w, i32_w]
            rfl
           refine take_ (i := 6) (N := some 43) (v := ?_) (a' := ?_) #[true, true, true, true, true, true, true, false] rfl rfl (take_ofW HT_.out HW_.out (by kernel_rfl)) (fun _ _ _ h => h) (Or.inl ⟨by rfl, ?_⟩) hHeld ?_ ?_
           rotate_left
           ·intro w' s0
            go_simp
            with_reducible rfl
           rotate_left
           ·simp only [Act.put, List.setIfInBounds_toArray, List.set_cons_zero, List.set_cons_succ, i64_w, i32_w]
            rfl
           refine one_ (i := 7) (N := some 44) #[true, true, true, true, true, true, true, true] rfl rfl (one_of HT_.out (by kernel_rfl)) (by decide) (fun K hK => ?_)
           refine goes_ Try.func37 (by kernel_rfl) rfl #[.slice (some ad714) y710.length co40, .int .i64 (rd t694 x5_2)] (by rfl) rfl rfl (by (try simp only [List.map_toArray, List.map_cons, List.map_nil]); first | done | rfl | (simp only [List.length_drop, List.length_take]; rfl)) ?_
           with_reducible refine (laws_has.calls k2 _ _ y710 (rd t694 x5_2) false _ ?side1 ?side2 A34.out).mono ?_
           (case side1 => repeat (first | exact (by repeat (first | (with_reducible exact HR713.out) | (with_reducible refine Kd.C_alloc ?_ _) | (with_reducible refine Kd.C_drewN ?_ _) | (with_reducible refine Kd.C_drew ?_) | exact HR713.out)) | (with_reducible refine Kd.C_alloc ?_ _) | (with_reducible refine Kd.C_drewN ?_ _) | (with_reducible refine Kd.C_drew ?_)))
           (case side2 => exact HC713.out)
           rintro e w' ⟨rfl, ⟨nd, rfl⟩⟩
           refine ⟨_, rfl, ?_⟩
           refine hK.out _ _ (hHeld) (fun hHeld => ?_)
           clear hK K
           refine norm_ (a' := ?_) ?_ ?_
           rotate_left
           ·show Act.put _ (some 44) _ = _
            simp only [Act.put, List.setIfInBounds_toArray, List.set_cons_zero, List.set_cons_succ, i64_w, i32_w]
            rfl
           refine done_ (done_of HT_.out (by kernel_rfl)) ?_
           try go_wp2
           (try (rw [drewN_self w41]; generalize hq_ : World.drewN w41 _ = w41; have n0_ : Aside0 (Kd.R (Kd.int .i64) 2 w41 w.heap.size (fun k_ => some k_ ≠ (.slice Ao9 t686.length co9 : Value).ownBlock) (.slice (some ad714) t694.length co40) t694) := ⟨by rw [← hq_]; exact rHO_4_⟩; have n1_ : Aside0 (Kd.R (Kd.int .i64) 2 w41 w.heap.size (fun k_ => some k_ ≠ (.slice (some ad714) t694.length co40 : Value).ownBlock) (.slice Ao9 t686.length co9) t686) := ⟨by rw [← hq_]; exact rHO_694000_⟩; have n2_ : Aside0 (Kd.R k88 88 w41 w.heap.size (fun k_ => some k_ ≠ (.slice (some ad714) t694.length co40 : Value).ownBlock ∧ some k_ ≠ (.slice Ao9 t686.length co9 : Value).ownBlock) (.slice Ao11 t690.length co11) t690) := ⟨by rw [← hq_]; exact rHO_694002_⟩; have n3_ : Aside0 (w41.heap[gb693]? = some (.cells #[.slice Ao9 t686.length co9, .int .i64 t689, .slice Ao11 t690.length co11] 41 (0, 0))) := ⟨by rw [← hq_]; exact bK693_⟩; have n4_ : Aside0 (Below w.heap.size w w41) := ⟨by rw [← hq_]; exact hS_⟩; have n5_ : Aside0 (Kd.C (Kd.int .i64) w41 (some ad714) y710.length y710) := ⟨by rw [← hq_]; exact (by repeat (first | (with_reducible exact HR713.out) | (with_reducible refine Kd.C_alloc ?_ _) | (with_reducible refine Kd.C_drewN ?_ _) | (with_reducible refine Kd.C_drew ?_) | exact HR713.out))⟩; clear HO_4 HO_694000 HO_694002 BK693 HB HR713 hq_; have HO_4 := n0_; have HO_694000 := n1_; have HO_694002 := n2_; have BK693 := n3_; have HB := n4_; have HR713 := n5_; clear n0_ n1_ n2_ n3_ n4_ n5_))
           have n0_ := Aside0.mk (Kd.R_drew HO_4.out)
           have n1_ := Aside0.mk (Kd.R_drew HO_694000.out)
           have n2_ := Aside0.mk (Kd.R_drew HO_694002.out)
           have n3_ := Aside0.mk (blk_drew BK693.out)
           have n4_ := Aside0.mk (Kd.C_drew HR713.out)
           have n5_ := Aside0.mk (below_drew1 HB.out)
           clear HO_4
           clear HO_694000
           clear HO_694002
           clear BK693
           clear HR713
           clear HB
           have HO_4 := n0_
           have HO_694000 := n1_
           have HO_694002 := n2_
           have BK693 := n3_
           have HR713 := n4_
           have HB := n5_
           clear n0_ n1_ n2_ n3_ n4_ n5_
           have p716 : 0 ≤ (x5_2 : Int) := oD_
           have q716 : x5_2 < (t694.length : Int) := oD_
           obtain ⟨ad716, e716, hx716_0⟩ := Kd.at_int (Kd.R_reads' HO_4.out).2.2 x5_2 p716 q716
           obtain rfl : ad714 = ad716 := (by injection e716)
           replace p716 := eq_true p716
           replace q716 := eq_true q716
           refine start_ (n := 7) (S := fun w' => w'.cell? ⟨gb693, 0, none⟩ = some (.slice Ao9 t686.length co9) ∧ w'.cell? ⟨gb693, 1, none⟩ = some (.int .i64 t689) ∧ w'.cell? ⟨gb693, 2, none⟩ = some (.slice Ao11 t690.length co11) ∧ w'.cell? (ad714.add (x5_2).toNat) = some (.int .i64 (rd t694 x5_2))) (ds := []) #[false, false, false, false, false, false, false] (by kernel_rfl) rfl rfl ⟨(blk_cell BK693.out 0).trans rfl, (blk_cell BK693.out 1).trans rfl, (blk_cell BK693.out 2).trans rfl, hx716_0⟩ (fun hHeld => ?_)
           generalize w41.drew = w43 at HO_4 HO_694000 HO_694002 BK693 HR713 HB hx716_0 hHeld ⊢
           refine pure_ (i := 1) (N := some 46) (v := ?_) (a' := ?_) #[false, true, false, false, false, false, false] rfl rfl (by kernel_rfl) (fun _ _ _ h => h) (Or.inl ⟨by rfl, ?_⟩) ?_ ?_
           rotate_left
           ·intro w'
            go_simp
            with_reducible rfl
           rotate_left
           ·simp only [Act.put, List.setIfInBounds_toArray, List.set_cons_zero, List.set_cons_succ, i64_w, i32_w]
            rfl
           refine pure_ (i := 2) (N := some 47) (v := ?_) (a' := ?_) #[false, true, true, false, false, false, false] rfl rfl (by kernel_rfl) (fun _ _ _ h => h) (Or.inl ⟨by rfl, ?_⟩) ?_ ?_
           rotate_left
           ·intro w'
            go_simp
            with_reducible rfl
           rotate_left
           ·simp only [Act.put, List.setIfInBounds_toArray, List.set_cons_zero, List.set_cons_succ, i64_w, i32_w]
            rfl
           refine pure_ (i := 3) (N := some 48) (v := ?_) (a' := ?_) #[false, true, true, true, false, false, false] rfl rfl (by kernel_rfl) (fun _ _ _ h => h) (Or.inl ⟨by rfl, ?_⟩) ?_ ?_
           rotate_left
           ·intro w'
            go_simp
            with_reducible rfl
           rotate_left
           ·simp only [Act.put, List.setIfInBounds_toArray, List.set_cons_zero, List.set_cons_succ, i64_w, i32_w]
            rfl
           refine take_ (i := 0) (N := some 45) (v := ?_) (a' := ?_) #[true, true, true, true, false, false, false] rfl rfl (by kernel_rfl) (fun _ _ _ h => h) (Or.inl ⟨by rfl, ?_⟩) hHeld ?_ ?_
           rotate_left
           ·rintro w' ⟨s0, s1, s2, s3⟩
            go_simp
            with_reducible rfl
           rotate_left
           ·simp only [Act.put, List.setIfInBounds_toArray, List.set_cons_zero, List.set_cons_succ, i64_w, i32_w]
            rfl
           refine take_ (i := 4) (N := some 49) (v := ?_) (a' := ?_) #[true, true, true, true, true, false, false] rfl rfl (by kernel_rfl) (fun _ _ _ h => h) (Or.inl ⟨by rfl, ?_⟩) hHeld ?_ ?_
           rotate_left
           ·rintro w' ⟨s0, s1, s2, s3⟩
            go_simp
            with_reducible rfl
           rotate_left
           ·simp only [Act.put, List.setIfInBounds_toArray, List.set_cons_zero, List.set_cons_succ, i64_w, i32_w]
            rfl
           refine one_ (i := 5) (N := some 50) #[true, true, true, true, true, true, false] rfl rfl (by kernel_rfl) (by decide) (fun K hK => ?_)
           refine goes_ Try.func38 (by kernel_rfl) rfl #[.agg #[.slice Ao9 t686.length co9, .int .i64 t689, .slice Ao11 t690.length co11], .int .i64 (rd t694 x5_2)] (by rfl) rfl rfl (by (try simp only [List.map_toArray, List.map_cons, List.map_nil]); first | done | rfl | (simp only [List.length_drop, List.length_take]; rfl)) ?_
           with_reducible refine (impl_PredsOf.calls k2 _ _ t686 t689 _ _ t690 (rd t694 x5_2) t717 _ ?side1 ?side2 ?side3 ?side4 A39.out).mono ?_
           (case side1 => repeat (first | exact (Kd.R_reads' HO_694000.out).2.2 | (with_reducible refine Kd.C_alloc ?_ _) | (with_reducible refine Kd.C_drewN ?_ _) | (with_reducible refine Kd.C_drew ?_)))
           (case side2 => exact (Kd.R_reads' HO_694000.out).2.1)
           (case side3 => repeat (first | exact (Kd.R_reads' HO_694002.out).2.2 | (with_reducible refine Kd.C_alloc ?_ _) | (with_reducible refine Kd.C_drewN ?_ _) | (with_reducible refine Kd.C_drew ?_)))
           (case side4 => exact (Kd.R_reads' HO_694002.out).2.1)
           rintro e w44 ⟨v718, rfl, ho0, hb⟩
           have HS3_ := (hb.cell (World.block_lt_of_cell? _ _ (hHeld.2.2.2))).trans (hHeld.2.2.2)
           refine ⟨_, rfl, ?_⟩
           have n0_ := Aside0.mk (Kd.R_elder' rHO_4_ (Kd.R_base ho0) hb)
           have n1_ := Aside0.mk (Kd.R_elder' rHO_694000_ (Kd.R_base ho0) hb)
           have n2_ := Aside0.mk (Kd.R_elder' rHO_694002_ (Kd.R_base ho0) hb)
           have n3_ := Aside0.mk (Kd.R_lower (Kd.R_new' (Kd.R_new' ho0 (Kd.R_lt rHO_4_)) (Kd.R_lt rHO_694000_)) (below_size hS_))
           have n4_ := Aside0.mk (blk_below (g := gb693) (o := .cells #[.slice Ao9 t686.length co9, .int .i64 t689, .slice Ao11 t690.length co11] 41 (0, 0)) bK693_ hb)
           have n5_ := Aside0.mk (Kd.C_below (by repeat (first | (with_reducible exact HR713.out) | (with_reducible refine Kd.C_alloc ?_ _) | (with_reducible refine Kd.C_drewN ?_ _) | (with_reducible refine Kd.C_drew ?_) | exact HR713.out)) hb)
           have n6_ := Aside0.mk (below_step hS_ hb)
           clear HO_4
           clear HO_694000
           clear HO_694002
           clear BK693
           clear HR713
           clear HB
           have HO_4 := n0_
           have HO_694000 := n1_
           have HO_694002 := n2_
           have HO719 := n3_
           have BK693 := n4_
           have HR713 := n5_
           have HB := n6_
           clear n0_ n1_ n2_ n3_ n4_ n5_ n6_
           (try clear hb)
           (try clear hb2)
           (try clear hk)
           (try clear hi)
           (try clear ho0)
           refine hK.out _ _ ⟨(blk_cell BK693.out 0).trans rfl, (blk_cell BK693.out 1).trans rfl, (blk_cell BK693.out 2).trans rfl, HS3_⟩ (fun hHeld => ?_)
           clear hK K
           refine norm_ (a' := ?_) ?_ ?_
           rotate_left
           ·show Act.put _ (some 50) _ = _
            simp only [Act.put, List.setIfInBounds_toArray, List.set_cons_zero, List.set_cons_succ, i64_w, i32_w]
            rfl
           refine pure_ (i := 6) (N := some 6) (v := ?_) (a' := ?_) #[true, true, true, true, true, true, true] rfl rfl (by kernel_rfl) (fun _ _ _ h => h) (Or.inl ⟨by rfl, ?_⟩) ?_ ?_
           rotate_left
           ·intro w'
            go_simp
            with_reducible rfl
           rotate_left
           ·simp only [Act.put, List.setIfInBounds_toArray, List.set_cons_zero, List.set_cons_succ, i64_w, i32_w]
            rfl
           refine done_ (by kernel_rfl) ?_
           try go_wp2
           go_loopg [7, 8] k2 (fun kq v7 v8 w' => ∃ (x7_3 : Bool) (x8_3 : Int), v7 = .bool x7_3 ∧ v8 = .int .i64 x8_3 ∧ Aside0 (laws_FnOrder.l1 kq t694 x5_2 t717 x7_3 x8_3 t686 t689 t690 = some r) ∧ Aside0 (kq ≤ k2) ∧ Aside0 (Kd.R (Kd.int .i64) 2 w' w.heap.size (fun k_ => some k_ ≠ (v718 : Value).ownBlock ∧ some k_ ≠ ((.slice Ao9 t686.length co9) : Value).ownBlock) (.slice (some ad714) t694.length co40) t694) ∧ Aside0 (Kd.R (Kd.int .i64) 2 w' w.heap.size (fun k_ => some k_ ≠ ((.slice (some ad714) t694.length co40) : Value).ownBlock ∧ some k_ ≠ ((.slice Ao9 t686.length co9) : Value).ownBlock) v718 t717) ∧ Aside0 (Kd.R (Kd.int .i64) 2 w' w.heap.size (fun k_ => some k_ ≠ ((.slice (some ad714) t694.length co40) : Value).ownBlock ∧ some k_ ≠ (v718 : Value).ownBlock) (.slice Ao9 t686.length co9) t686) ∧ Aside0 (Kd.R k88 88 w' w.heap.size (fun k_ => some k_ ≠ ((.slice (some ad714) t694.length co40) : Value).ownBlock ∧ some k_ ≠ (v718 : Value).ownBlock ∧ some k_ ≠ ((.slice Ao9 t686.length co9) : Value).ownBlock) (.slice Ao11 t690.length co11) t690) ∧ Aside0 (w'.heap[gb693]? = some (.cells #[(.slice Ao9 t686.length co9), .int .i64 t689, (.slice Ao11 t690.length co11)] 41 (0, 0))) ∧ Aside0 (Kd.C (Kd.int .i64) w' (some ad714) y710.length y710) ∧ Aside0 (Below w.heap.size w w'))
           case atStart => exact ⟨((x5_2 == 0)), (0), rF_, rF_, H', ⟨Nat.le_refl _⟩, ⟨by (with_reducible repeat (first | apply Kd.R_alloc | apply Kd.R_drewN | apply Kd.R_drew)); exact Kd.R_mono HO_4.out (fun _ hk => ⟨hk.2, hk.1⟩)⟩, ⟨by (with_reducible repeat (first | apply Kd.R_alloc | apply Kd.R_drewN | apply Kd.R_drew)); exact Kd.R_mono HO719.out (fun _ hk => ⟨hk.1.2, hk.2⟩)⟩, ⟨rHO_694000_⟩, ⟨by (with_reducible repeat (first | apply Kd.R_alloc | apply Kd.R_drewN | apply Kd.R_drew)); exact Kd.R_mono HO_694002.out (fun _ hk => ⟨hk.1.1, ⟨hk.2, hk.1.2⟩⟩)⟩, ⟨bK693_⟩, ⟨by repeat (first | (with_reducible exact HR713.out) | (with_reducible refine Kd.C_alloc ?_ _) | (with_reducible refine Kd.C_drewN ?_ _) | (with_reducible refine Kd.C_drew ?_) | exact HR713.out)⟩, ⟨hS_⟩⟩
           case round =>
            clear H'
            try clear c1
            try clear c2
            try clear p2
            try clear c3
            try clear q3
            try clear q4
            try clear c7
            try clear p7
            try clear q7
            try clear hx7
            try clear c15
            try clear c24
            try clear c25
            try clear c31
            try clear c31b0
            try clear c32
            try clear c32b0
            try clear c32b1
            try clear c33
            try clear c33b0
            try clear c33b1
            try clear c34
            try clear c35
            try clear c36
            try clear c37
            try clear c38
            try clear q38
            try clear q42
            try clear hcz10_0 hcz10_1 hcz10_2 hfz10_0 hfz10_1 hfz10_2
            try clear hcz16_0 hcz16_1 hcz16_2 hfz16_0 hfz16_1 hfz16_2
            try clear hcz20_0 hcz20_1 hcz20_2 hfz20_0 hfz20_1 hfz20_2
            try clear hcz27_0 hcz27_1 hcz27_2 hfz27_0 hfz27_1 hfz27_2
            try clear hx714_0
            try clear hx716_0
            try clear p2
            try clear p714
            try clear p716
            try clear q38
            try clear q42
            try clear q714
            try clear q716
            obtain ⟨x7_3, x8_3, rfl, rfl, HA, HK3, HO_4, HO_6, HO_694000, HO_694002, BK693, HR713, HB⟩ := hrel
            cases gk with
            | zero => exact absurd HA.out (by simp [laws_FnOrder.l1])
            | succ k3 =>
             have H := HA.out
             clear HA
             simp only [laws_FnOrder.l1] at H
             by_cases c45 : x8_3 < (t717.length : Int)
             ·rw [if_pos c45] at H
              have c45b0 : decide (x8_3 < (t717.length : Int)) = true := decide_eq_true c45
              clear c45
              by_cases c46 : x7_3 = true
              ·subst c46
               have H1 := (if_pos rfl).symm.trans H
               clear H
               have H := H1
               clear H1
               have H' := Aside0.mk H
               clear H
               obtain ⟨Ao47, co47, eo47⟩ := Kd.R_slice HO_6.out
               subst eo47
               try go_wp2
               have n0_ := Aside0.mk (Kd.R_drew HO_4.out)
               have n1_ := Aside0.mk (Kd.R_drew HO_6.out)
               have n2_ := Aside0.mk (Kd.R_drew HO_694000.out)
               have n3_ := Aside0.mk (Kd.R_drew HO_694002.out)
               have n4_ := Aside0.mk (blk_drew BK693.out)
               have n5_ := Aside0.mk (Kd.C_drew HR713.out)
               have n6_ := Aside0.mk (below_drew1 HB.out)
               clear HO_4
               clear HO_6
               clear HO_694000
               clear HO_694002
               clear BK693
               clear HR713
               clear HB
               have HO_4 := n0_
               have HO_6 := n1_
               have HO_694000 := n2_
               have HO_694002 := n3_
               have BK693 := n4_
               have HR713 := n5_
               have HB := n6_
               clear n0_ n1_ n2_ n3_ n4_ n5_ n6_
               refine start_ (n := 12) (S := fun w' => True) (ds := []) #[false, false, false, false, false, false, false, false, false, false, false, false] (by kernel_rfl) rfl rfl trivial (fun hHeld => ?_); refine with_tabW laws_FnOrder.tab17 laws_FnOrder.bits17 (fun HT_ HW_ => ?_)
               generalize wr.drew = w48 at HO_4 HO_6 HO_694000 HO_694002 BK693 HR713 HB hHeld ⊢
               refine pure_ (i := 0) (N := some 59) (v := ?_) (a' := ?_) #[true, false, false, false, false, false, false, false, false, false, false, false] rfl rfl (any_of HT_.out (by kernel_rfl)) (fun _ _ _ h => h) (Or.inl ⟨by rfl, ?_⟩) ?_ ?_
               rotate_left
               ·intro w'
                go_simp
                with_reducible rfl
               rotate_left
               ·simp only [Act.put, List.setIfInBounds_toArray, List.set_cons_zero, List.set_cons_succ, i64_w, i32_w]
                rfl
               refine pure_ (i := 1) (N := some 60) (v := ?_) (a' := ?_) #[true, true, false, false, false, false, false, false, false, false, false, false] rfl rfl (any_of HT_.out (by kernel_rfl)) (fun _ _ _ h => h) (Or.inl ⟨by rfl, ?_⟩) ?_ ?_
               rotate_left
               ·intro w'
                go_simp
                with_reducible rfl
               rotate_left
               ·simp only [Act.put, List.setIfInBounds_toArray, List.set_cons_zero, List.set_cons_succ, i64_w, i32_w]
                rfl
               refine pure_ (i := 2) (N := some 61) (v := undef) (a' := ?_) #[true, true, true, false, false, false, false, false, false, false, false, false] rfl rfl (any_of HT_.out (by kernel_rfl)) (fun _ _ _ h => h) (Or.inr ⟨by rfl, rfl⟩) ?_ ?_
               rotate_left
               ·simp only [Act.put, List.setIfInBounds_toArray, List.set_cons_zero, List.set_cons_succ, i64_w, i32_w]
                rfl
               refine pure_ (i := 3) (N := some 62) (v := undef) (a' := ?_) #[true, true, true, true, false, false, false, false, false, false, false, false] rfl rfl (any_of HT_.out (by kernel_rfl)) (fun _ _ _ h => h) (Or.inr ⟨by rfl, rfl⟩) ?_ ?_
               rotate_left
               ·simp only [Act.put, List.setIfInBounds_toArray, List.set_cons_zero, List.set_cons_succ, i64_w, i32_w]
                rfl
               refine pure_ (i := 4) (N := some 63) (v := undef) (a' := ?_) #[true, true, true, true, true, false, false, false, false, false, false, false] rfl rfl (any_of HT_.out (by kernel_rfl)) (fun _ _ _ h => h) (Or.inr ⟨by rfl, rfl⟩) ?_ ?_
               rotate_left
               ·simp only [Act.put, List.setIfInBounds_toArray, List.set_cons_zero, List.set_cons_succ, i64_w, i32_w]
                rfl
               refine pure_ (i := 5) (N := some 64) (v := undef) (a' := ?_) #[true, true, true, true, true, true, false, false, false, false, false, false] rfl rfl (any_of HT_.out (by kernel_rfl)) (fun _ _ _ h => h) (Or.inr ⟨by rfl, rfl⟩) ?_ ?_
               rotate_left
               ·simp only [Act.put, List.setIfInBounds_toArray, List.set_cons_zero, List.set_cons_succ, i64_w, i32_w]
                rfl
               refine pure_ (i := 6) (N := some 65) (v := undef) (a' := ?_) #[true, true, true, true, true, true, true, false, false, false, false, false] rfl rfl (any_of HT_.out (by kernel_rfl)) (fun _ _ _ h => h) (Or.inr ⟨by rfl, rfl⟩) ?_ ?_
               rotate_left
               ·simp only [Act.put, List.setIfInBounds_toArray, List.set_cons_zero, List.set_cons_succ, i64_w, i32_w]
                rfl
               refine pure_ (i := 7) (N := some 66) (v := undef) (a' := ?_) #[true, true, true, true, true, true, true, true, false, false, false, false] rfl rfl (any_of HT_.out (by kernel_rfl)) (fun _ _ _ h => h) (Or.inr ⟨by rfl, rfl⟩) ?_ ?_
               rotate_left
               ·simp only [Act.put, List.setIfInBounds_toArray, List.set_cons_zero, List.set_cons_succ, i64_w, i32_w]
                rfl
               refine pure_ (i := 8) (N := some 67) (v := undef) (a' := ?_) #[true, true, true, true, true, true, true, true, true, false, false, false] rfl rfl (any_of HT_.out (by kernel_rfl)) (fun _ _ _ h => h) (Or.inr ⟨by rfl, rfl⟩) ?_ ?_
               rotate_left
               ·simp only [Act.put, List.setIfInBounds_toArray, List.set_cons_zero, List.set_cons_succ, i64_w, i32_w]
                rfl
               refine pure_ (i := 9) (N := some 68) (v := undef) (a' := ?_) #[true, true, true, true, true, true, true, true, true, true, false, false] rfl rfl (any_of HT_.out (by kernel_rfl)) (fun _ _ _ h => h) (Or.inr ⟨by rfl, rfl⟩) ?_ ?_
               rotate_left
               ·simp only [Act.put, List.setIfInBounds_toArray, List.set_cons_zero, List.set_cons_succ, i64_w, i32_w]
                rfl
               refine pure_ (i := 10) (N := some 69) (v := ?_) (a' := ?_) #[true, true, true, true, true, true, true, true, true, true, true, false] rfl rfl (any_of HT_.out (by kernel_rfl)) (fun _ _ _ h => h) (Or.inl ⟨by rfl, ?_⟩) ?_ ?_
               rotate_left
               ·intro w'
                go_simp
                with_reducible rfl
               rotate_left
               ·simp only [Act.put, List.setIfInBounds_toArray, List.set_cons_zero, List.set_cons_succ, i64_w, i32_w]
                rfl
               refine pure_ (i := 11) (N := some 7) (v := ?_) (a' := ?_) #[true, true, true, true, true, true, true, true, true, true, true, true] rfl rfl (any_of HT_.out (by kernel_rfl)) (fun _ _ _ h => h) (Or.inl ⟨by rfl, ?_⟩) ?_ ?_
               rotate_left
               ·intro w'
                go_simp
                with_reducible rfl
               rotate_left
               ·simp only [Act.put, List.setIfInBounds_toArray, List.set_cons_zero, List.set_cons_succ, i64_w, i32_w]
                rfl
               refine done_ (done_of HT_.out (by kernel_rfl)) ?_
               try go_wp2
               go_roundg k3
               case measure => have := HJ5.out; have := HK2.out; have := HK3.out; omega
               case rel => exact ⟨(true), (wrap64 (x8_3 + 1)), rF_, rF_, H', ⟨by have := HJ5.out; have := HK2.out; have := HK3.out; omega⟩, ⟨rHO_4_⟩, ⟨rHO_6_⟩, ⟨rHO_694000_⟩, ⟨rHO_694002_⟩, ⟨bK693_⟩, ⟨by repeat (first | (with_reducible exact HR713.out) | (with_reducible refine Kd.C_alloc ?_ _) | (with_reducible refine Kd.C_drewN ?_ _) | (with_reducible refine Kd.C_drew ?_) | exact HR713.out)⟩, ⟨hS_⟩⟩
              ·replace c46 := Bool.eq_false_iff.mpr c46
               subst c46
               have H1 := (if_neg (show ¬ (false = true) by decide)).symm.trans H
               clear H
               have H := H1
               clear H1
               by_cases c49 : 0 ≤ x5_2
               ·rw [if_pos c49] at H
                have c49b0 := eq_true c49
                have c49b1 : decide (0 ≤ x5_2) = true := decide_eq_true c49
                clear c49
                by_cases c50 : x5_2 ≤ (t694.length : Int)
                ·rw [if_pos c50] at H
                 have c50b0 := eq_true c50
                 have c50b1 : decide (x5_2 ≤ (t694.length : Int)) = true := decide_eq_true c50
                 clear c50
                 obtain ⟨y720, hy720⟩ : ∃ y_ : List Int, y_ = (t694.take (x5_2 : Int).toNat) := ⟨_, rfl⟩
                 replace H : (if 0 ≤ x8_3 then ((laws_has.f k3 y720 (rd t717 x8_3)).bind fun t725 => (laws_FnOrder.l1 k3 t694 x5_2 t717 t725 (wrap64 (x8_3 + 1)) t686 t689 t690)) else (none)) = some r := by first | (rw [hy720]; with_reducible exact H) | (have H2_ := (Option.bind_some _ _).symm.trans H; rw [hy720]; with_reducible exact H2_) | (have H2_ := (Option.bind_some _ _).symm.trans H; with_reducible exact H2_) | with_reducible exact H | (rw [hy720]; exact H) | exact H
                 have Ny720 := Aside0.mk hy720
                 clear hy720
                 by_cases c51 : 0 ≤ x8_3
                 ·rw [if_pos c51] at H
                  have c51b0 : decide (0 ≤ x8_3) = true := decide_eq_true c51
                  clear c51
                  replace H := Option.bind_eq_some_iff.mp H
                  obtain ⟨t725, A520, H⟩ := H
                  replace H : (laws_FnOrder.l1 k3 t694 x5_2 t717 t725 (wrap64 (x8_3 + 1)) t686 t689 t690) = some r := H
                  have A52 := Aside0.mk A520
                  clear A520
                  have H' := Aside0.mk H
                  clear H
                  obtain ⟨Ao53, co53, eo53⟩ := Kd.R_slice HO_6.out
                  subst eo53
                  try go_wp2
                  have n0_ := Aside0.mk (Kd.R_drew HO_4.out)
                  have n1_ := Aside0.mk (Kd.R_drew HO_6.out)
                  have n2_ := Aside0.mk (Kd.R_drew HO_694000.out)
                  have n3_ := Aside0.mk (Kd.R_drew HO_694002.out)
                  have n4_ := Aside0.mk (blk_drew BK693.out)
                  have n5_ := Aside0.mk (Kd.C_drew HR713.out)
                  have n6_ := Aside0.mk (below_drew1 HB.out)
                  clear HO_4
                  clear HO_6
                  clear HO_694000
                  clear HO_694002
                  clear BK693
                  clear HR713
                  clear HB
                  have HO_4 := n0_
                  have HO_6 := n1_
                  have HO_694000 := n2_
                  have HO_694002 := n3_
                  have BK693 := n4_
                  have HR713 := n5_
                  have HB := n6_
                  clear n0_ n1_ n2_ n3_ n4_ n5_ n6_
                  have q55 : (x5_2 : Int) ≤ ((t694.length : Int) : Int) := oD_
                  obtain ⟨i055, hi055, _, hsz55, _⟩ := info_parts info2
                  have hroom55 : t694.length ≤ co40 := (Kd.R_reads' HO_4.out).2.1
                  have hC55 : Kd.C (Kd.int .i64) _ (some ad714) t694.length t694 := (Kd.R_reads' HO_4.out).2.2
                  try clear hcut38
                  try clear hcut42
                  have hcut55 := cut_to (P := Try.prog) 22 2 .i64 Try.underlying22 hi055 (some ad714) t694.length co40 x5_2 (oD_) q55 hroom55
                  have hr55 := Kd.C_take (m := (x5_2 : Int).toNat) hC55 (by omega)
                  have hy55 : y720.length = (x5_2 : Int).toNat := (by rw [Ny720.out, List.length_take]; omega)
                  rw [← Ny720.out] at hr55
                  rw [← hy55] at hcut55
                  have HR723 := Aside0.mk hr55
                  have HC723 := Aside0.mk (show y720.length ≤ co40 from by omega)
                  clear hr55 hC55 hroom55 hi055 hsz55
                  have KY55 := Aside0.mk hy55
                  clear hy55
                  have KL55 := Aside0.mk (show (x5_2 : Int).toNat ≤ t694.length from by omega)
                  replace q55 := eq_true q55
                  have p724 : 0 ≤ (x8_3 : Int) := oD_
                  have q724 : x8_3 < (t717.length : Int) := oD_
                  obtain ⟨ad724, e724, hx724_0⟩ := Kd.at_int (Kd.R_reads' HO_6.out).2.2 x8_3 p724 q724
                  cases e724
                  replace p724 := eq_true p724
                  replace q724 := eq_true q724
                  refine start_ (n := 12) (S := fun w' => w'.cell? (ad724.add (x8_3).toNat) = some (.int .i64 (rd t717 x8_3))) (ds := []) #[false, false, false, false, false, false, false, false, false, false, false, false] (by kernel_rfl) rfl rfl (hx724_0) (fun hHeld => ?_); refine with_tabW laws_FnOrder.tab17 laws_FnOrder.bits17 (fun HT_ HW_ => ?_)
                  generalize wr.drew = w54 at HO_4 HO_6 HO_694000 HO_694002 BK693 HR713 HB HR723 hx724_0 hHeld ⊢
                  refine pure_ (i := 0) (N := some 59) (v := ?_) (a' := ?_) #[true, false, false, false, false, false, false, false, false, false, false, false] rfl rfl (any_of HT_.out (by kernel_rfl)) (fun _ _ _ h => h) (Or.inl ⟨by rfl, ?_⟩) ?_ ?_
                  rotate_left
                  ·intro w'
                   go_simp
                   with_reducible rfl
                  rotate_left
                  ·simp only [Act.put, List.setIfInBounds_toArray, List.set_cons_zero, List.set_cons_succ, i64_w, i32_w]
                   rfl
                  refine pure_ (i := 1) (N := some 60) (v := ?_) (a' := ?_) #[true, true, false, false, false, false, false, false, false, false, false, false] rfl rfl (any_of HT_.out (by kernel_rfl)) (fun _ _ _ h => h) (Or.inl ⟨by rfl, ?_⟩) ?_ ?_
                  rotate_left
                  ·intro w'
                   go_simp
                   with_reducible rfl
                  rotate_left
                  ·simp only [Act.put, List.setIfInBounds_toArray, List.set_cons_zero, List.set_cons_succ, i64_w, i32_w]
                   rfl
                  refine pure_ (i := 2) (N := some 61) (v := ?_) (a' := ?_) #[true, true, true, false, false, false, false, false, false, false, false, false] rfl rfl (any_of HT_.out (by kernel_rfl)) (fun _ _ _ h => h) (Or.inl ⟨by rfl, ?_⟩) ?_ ?_
                  rotate_left
                  ·intro w'
                   go_simp
                   with_reducible rfl
                  rotate_left
                  ·simp only [Act.put, List.setIfInBounds_toArray, List.set_cons_zero, List.set_cons_succ, i64_w, i32_w]
                   rfl
                  refine pure_ (i := 3) (N := some 62) (v := ?_) (a' := ?_) #[true, true, true, true, false, false, false, false, false, false, false, false] rfl rfl (any_of HT_.out (by kernel_rfl)) (fun _ _ _ h => h) (Or.inl ⟨by rfl, ?_⟩) ?_ ?_
                  rotate_left
                  ·intro w'
                   go_simp
                   with_reducible rfl
                  rotate_left
                  ·simp only [Act.put, List.setIfInBounds_toArray, List.set_cons_zero, List.set_cons_succ, i64_w, i32_w]
                   rfl
                  refine pure_ (i := 4) (N := some 63) (v := ?_) (a' := ?_) #[true, true, true, true, true, false, false, false, false, false, false, false] rfl rfl (any_of HT_.out (by kernel_rfl)) (fun _ _ _ h => h) (Or.inl ⟨by rfl, ?_⟩) ?_ ?_
                  rotate_left
                  ·intro w'
                   go_simp
                   with_reducible rfl
                  rotate_left
                  ·simp only [Act.put, List.setIfInBounds_toArray, List.set_cons_zero, List.set_cons_succ, i64_w, i32_w]
                   rfl
                  refine pure_ (i := 5) (N := some 64) (v := ?_) (a' := ?_) #[true, true, true, true, true, true, false, false, false, false, false, false] rfl rfl (any_of HT_.out (by kernel_rfl)) (fun _ _ _ h => h) (Or.inl ⟨by rfl, ?_⟩) ?_ ?_
                  rotate_left
                  ·intro w'
                   go_simp
                   with_reducible rfl
                  rotate_left
                  ·simp only [Act.put, List.setIfInBounds_toArray, List.set_cons_zero, List.set_cons_succ, i64_w, i32_w]
                   rfl
                  refine pure_ (i := 6) (N := some 65) (v := ?_) (a' := ?_) #[true, true, true, true, true, true, true, false, false, false, false, false] rfl rfl (any_of HT_.out (by kernel_rfl)) (fun _ _ _ h => h) (Or.inl ⟨by rfl, ?_⟩) ?_ ?_
                  rotate_left
                  ·intro w'
                   go_simp
                   with_reducible rfl
                  rotate_left
                  ·simp only [Act.put, List.setIfInBounds_toArray, List.set_cons_zero, List.set_cons_succ, i64_w, i32_w]
                   rfl
                  refine pure_ (i := 7) (N := some 66) (v := ?_) (a' := ?_) #[true, true, true, true, true, true, true, true, false, false, false, false] rfl rfl (any_of HT_.out (by kernel_rfl)) (fun _ _ _ h => h) (Or.inl ⟨by rfl, ?_⟩) ?_ ?_
                  rotate_left
                  ·intro w'
                   go_simp
                   with_reducible rfl
                  rotate_left
                  ·simp only [Act.put, List.setIfInBounds_toArray, List.set_cons_zero, List.set_cons_succ, i64_w, i32_w]
                   rfl
                  refine take_ (i := 8) (N := some 67) (v := ?_) (a' := ?_) #[true, true, true, true, true, true, true, true, true, false, false, false] rfl rfl (take_ofW HT_.out HW_.out (by kernel_rfl)) (fun _ _ _ h => h) (Or.inl ⟨by rfl, ?_⟩) hHeld ?_ ?_
                  rotate_left
                  ·intro w' s0
                   go_simp
                   with_reducible rfl
                  rotate_left
                  ·simp only [Act.put, List.setIfInBounds_toArray, List.set_cons_zero, List.set_cons_succ, i64_w, i32_w]
                   rfl
                  refine one_ (i := 9) (N := some 68) #[true, true, true, true, true, true, true, true, true, true, false, false] rfl rfl (one_of HT_.out (by kernel_rfl)) (by decide) (fun K hK => ?_)
                  refine goes_ Try.func37 (by kernel_rfl) rfl #[.slice (some ad714) y720.length co40, .int .i64 (rd t717 x8_3)] (by rfl) rfl rfl (by (try simp only [List.map_toArray, List.map_cons, List.map_nil]); first | done | rfl | (simp only [List.length_drop, List.length_take]; rfl)) ?_
                  with_reducible refine (laws_has.calls k3 _ _ y720 (rd t717 x8_3) t725 _ ?side1 ?side2 A52.out).mono ?_
                  (case side1 => repeat (first | exact (by repeat (first | (with_reducible exact HR723.out) | (with_reducible refine Kd.C_alloc ?_ _) | (with_reducible refine Kd.C_drewN ?_ _) | (with_reducible refine Kd.C_drew ?_) | exact HR723.out)) | (with_reducible refine Kd.C_alloc ?_ _) | (with_reducible refine Kd.C_drewN ?_ _) | (with_reducible refine Kd.C_drew ?_)))
                  (case side2 => exact HC723.out)
                  rintro e w' ⟨rfl, ⟨nd, rfl⟩⟩
                  refine ⟨_, rfl, ?_⟩
                  refine hK.out _ _ (hHeld) (fun hHeld => ?_)
                  clear hK K
                  refine norm_ (a' := ?_) ?_ ?_
                  rotate_left
                  ·show Act.put _ (some 68) _ = _
                   simp only [Act.put, List.setIfInBounds_toArray, List.set_cons_zero, List.set_cons_succ, i64_w, i32_w]
                   rfl
                  refine pure_ (i := 10) (N := some 69) (v := ?_) (a' := ?_) #[true, true, true, true, true, true, true, true, true, true, true, false] rfl rfl (any_of HT_.out (by kernel_rfl)) (fun _ _ _ h => h) (Or.inl ⟨by rfl, ?_⟩) ?_ ?_
                  rotate_left
                  ·intro w'
                   go_simp
                   with_reducible rfl
                  rotate_left
                  ·simp only [Act.put, List.setIfInBounds_toArray, List.set_cons_zero, List.set_cons_succ, i64_w, i32_w]
                   rfl
                  refine pure_ (i := 11) (N := some 7) (v := ?_) (a' := ?_) #[true, true, true, true, true, true, true, true, true, true, true, true] rfl rfl (any_of HT_.out (by kernel_rfl)) (fun _ _ _ h => h) (Or.inl ⟨by rfl, ?_⟩) ?_ ?_
                  rotate_left
                  ·intro w'
                   go_simp
                   with_reducible rfl
                  rotate_left
                  ·simp only [Act.put, List.setIfInBounds_toArray, List.set_cons_zero, List.set_cons_succ, i64_w, i32_w]
                   rfl
                  refine done_ (done_of HT_.out (by kernel_rfl)) ?_
                  try go_wp2
                  go_roundg k3
                  case measure => have := HJ5.out; have := HK2.out; have := HK3.out; omega
                  case rel => exact ⟨(t725), (wrap64 (x8_3 + 1)), rF_, rF_, H', ⟨by have := HJ5.out; have := HK2.out; have := HK3.out; omega⟩, ⟨rHO_4_⟩, ⟨rHO_6_⟩, ⟨rHO_694000_⟩, ⟨rHO_694002_⟩, ⟨bK693_⟩, ⟨by repeat (first | (with_reducible exact HR713.out) | (with_reducible refine Kd.C_alloc ?_ _) | (with_reducible refine Kd.C_drewN ?_ _) | (with_reducible refine Kd.C_drew ?_) | exact HR713.out)⟩, ⟨hS_⟩⟩
                 ·rw [if_neg c51] at H
                  exact absurd H (by simp)
                ·rw [if_neg c50] at H
                 exact absurd H (by simp)
               ·rw [if_neg c49] at H
                exact absurd H (by simp)
             ·rw [if_neg c45] at H
              have c45b0 : decide (x8_3 < (t717.length : Int)) = false := decide_eq_false c45
              clear c45
              by_cases c56 : 0 ≤ x5_2
              ·rw [if_pos c56] at H
               have c56b0 : decide (0 ≤ x5_2) = true := decide_eq_true c56
               clear c56
               by_cases c57 : x5_2 < (t694.length : Int)
               ·rw [if_pos c57] at H
                have c57b0 : decide (x5_2 < (t694.length : Int)) = true := decide_eq_true c57
                clear c57
                replace H := Option.bind_eq_some_iff.mp H
                obtain ⟨t727, A580, H⟩ := H
                replace H : (if x7_3 = true then (if t727 ≥ 0 then (if x5_2 ≤ (t694.length : Int) then ((laws_has.f k3 (t694.take (x5_2 : Int).toNat) t727).bind fun t732 => (if t732 = true then (laws_FnOrder.l0 k3 t694 (wrap64 (x5_2 + 1)) t686 t689 t690) else (some false))) else (none)) else (laws_FnOrder.l0 k3 t694 (wrap64 (x5_2 + 1)) t686 t689 t690)) else (some false)) = some r := H
                have A58 := Aside0.mk A580
                clear A580
                by_cases c59 : x7_3 = true
                ·subst c59
                 have H1 := (if_pos rfl).symm.trans H
                 clear H
                 have H := H1
                 clear H1
                 by_cases c60 : t727 ≥ 0
                 ·rw [if_pos c60] at H
                  have c60b0 : decide (0 ≤ t727) = true := decide_eq_true c60
                  clear c60
                  have c61b0 := eq_true (oD_ : 0 ≤ x5_2)
                  by_cases c62 : x5_2 ≤ (t694.length : Int)
                  ·rw [if_pos c62] at H
                   have c62b0 := eq_true c62
                   have c62b1 : decide (x5_2 ≤ (t694.length : Int)) = true := decide_eq_true c62
                   clear c62
                   obtain ⟨y728, hy728⟩ : ∃ y_ : List Int, y_ = (t694.take (x5_2 : Int).toNat) := ⟨_, rfl⟩
                   replace H : ((laws_has.f k3 y728 t727).bind fun t732 => (if t732 = true then (laws_FnOrder.l0 k3 t694 (wrap64 (x5_2 + 1)) t686 t689 t690) else (some false))) = some r := by first | (rw [hy728]; with_reducible exact H) | (have H2_ := (Option.bind_some _ _).symm.trans H; rw [hy728]; with_reducible exact H2_) | (have H2_ := (Option.bind_some _ _).symm.trans H; with_reducible exact H2_) | with_reducible exact H | (rw [hy728]; exact H) | exact H
                   have Ny728 := Aside0.mk hy728
                   clear hy728
                   replace H := Option.bind_eq_some_iff.mp H
                   obtain ⟨t732, A630, H⟩ := H
                   replace H : (if t732 = true then (laws_FnOrder.l0 k3 t694 (wrap64 (x5_2 + 1)) t686 t689 t690) else (some false)) = some r := H
                   have A63 := Aside0.mk A630
                   clear A630
                   by_cases c64 : t732 = true
                   ·subst c64
                    have H1 := (if_pos rfl).symm.trans H
                    clear H
                    have H := H1
                    clear H1
                    have H' := Aside0.mk H
                    clear H
                    obtain ⟨Ao65, co65, eo65⟩ := Kd.R_slice HO_6.out
                    subst eo65
                    try go_wp2
                    have n0_ := Aside0.mk (Kd.R_drew HO_4.out)
                    have n1_ := Aside0.mk (Kd.R_drew HO_6.out)
                    have n2_ := Aside0.mk (Kd.R_drew HO_694000.out)
                    have n3_ := Aside0.mk (Kd.R_drew HO_694002.out)
                    have n4_ := Aside0.mk (blk_drew BK693.out)
                    have n5_ := Aside0.mk (Kd.C_drew HR713.out)
                    have n6_ := Aside0.mk (below_drew1 HB.out)
                    clear HO_4
                    clear HO_6
                    clear HO_694000
                    clear HO_694002
                    clear BK693
                    clear HR713
                    clear HB
                    have HO_4 := n0_
                    have HO_6 := n1_
                    have HO_694000 := n2_
                    have HO_694002 := n3_
                    have BK693 := n4_
                    have HR713 := n5_
                    have HB := n6_
                    clear n0_ n1_ n2_ n3_ n4_ n5_ n6_
                    have p726 : 0 ≤ (x5_2 : Int) := oD_
                    have q726 : x5_2 < (t694.length : Int) := oD_
                    obtain ⟨ad726, e726, hx726_0⟩ := Kd.at_int (Kd.R_reads' HO_4.out).2.2 x5_2 p726 q726
                    obtain rfl : ad714 = ad726 := (by injection e726)
                    replace p726 := eq_true p726
                    replace q726 := eq_true q726
                    refine start_ (n := 7) (S := fun w' => w'.cell? ⟨gb693, 0, none⟩ = some (.slice Ao9 t686.length co9) ∧ w'.cell? ⟨gb693, 1, none⟩ = some (.int .i64 t689) ∧ w'.cell? ⟨gb693, 2, none⟩ = some (.slice Ao11 t690.length co11) ∧ w'.cell? (ad714.add (x5_2).toNat) = some (.int .i64 (rd t694 x5_2))) (ds := []) #[false, false, false, false, false, false, false] (by kernel_rfl) rfl rfl ⟨(blk_cell BK693.out 0).trans rfl, (blk_cell BK693.out 1).trans rfl, (blk_cell BK693.out 2).trans rfl, hx726_0⟩ (fun hHeld => ?_)
                    generalize wr.drew = w66 at HO_4 HO_6 HO_694000 HO_694002 BK693 HR713 HB hx726_0 hHeld ⊢
                    refine pure_ (i := 1) (N := some 71) (v := ?_) (a' := ?_) #[false, true, false, false, false, false, false] rfl rfl (by kernel_rfl) (fun _ _ _ h => h) (Or.inl ⟨by rfl, ?_⟩) ?_ ?_
                    rotate_left
                    ·intro w'
                     go_simp
                     with_reducible rfl
                    rotate_left
                    ·simp only [Act.put, List.setIfInBounds_toArray, List.set_cons_zero, List.set_cons_succ, i64_w, i32_w]
                     rfl
                    refine pure_ (i := 2) (N := some 72) (v := ?_) (a' := ?_) #[false, true, true, false, false, false, false] rfl rfl (by kernel_rfl) (fun _ _ _ h => h) (Or.inl ⟨by rfl, ?_⟩) ?_ ?_
                    rotate_left
                    ·intro w'
                     go_simp
                     with_reducible rfl
                    rotate_left
                    ·simp only [Act.put, List.setIfInBounds_toArray, List.set_cons_zero, List.set_cons_succ, i64_w, i32_w]
                     rfl
                    refine pure_ (i := 3) (N := some 73) (v := ?_) (a' := ?_) #[false, true, true, true, false, false, false] rfl rfl (by kernel_rfl) (fun _ _ _ h => h) (Or.inl ⟨by rfl, ?_⟩) ?_ ?_
                    rotate_left
                    ·intro w'
                     go_simp
                     with_reducible rfl
                    rotate_left
                    ·simp only [Act.put, List.setIfInBounds_toArray, List.set_cons_zero, List.set_cons_succ, i64_w, i32_w]
                     rfl
                    refine take_ (i := 0) (N := some 70) (v := ?_) (a' := ?_) #[true, true, true, true, false, false, false] rfl rfl (by kernel_rfl) (fun _ _ _ h => h) (Or.inl ⟨by rfl, ?_⟩) hHeld ?_ ?_
                    rotate_left
                    ·rintro w' ⟨s0, s1, s2, s3⟩
                     go_simp
                     with_reducible rfl
                    rotate_left
                    ·simp only [Act.put, List.setIfInBounds_toArray, List.set_cons_zero, List.set_cons_succ, i64_w, i32_w]
                     rfl
                    refine take_ (i := 4) (N := some 74) (v := ?_) (a' := ?_) #[true, true, true, true, true, false, false] rfl rfl (by kernel_rfl) (fun _ _ _ h => h) (Or.inl ⟨by rfl, ?_⟩) hHeld ?_ ?_
                    rotate_left
                    ·rintro w' ⟨s0, s1, s2, s3⟩
                     go_simp
                     with_reducible rfl
                    rotate_left
                    ·simp only [Act.put, List.setIfInBounds_toArray, List.set_cons_zero, List.set_cons_succ, i64_w, i32_w]
                     rfl
                    refine one_ (i := 5) (N := some 75) #[true, true, true, true, true, true, false] rfl rfl (by kernel_rfl) (by decide) (fun K hK => ?_)
                    refine goes_ Try.func31 (by kernel_rfl) rfl #[.agg #[.slice Ao9 t686.length co9, .int .i64 t689, .slice Ao11 t690.length co11], .int .i64 (rd t694 x5_2)] (by rfl) rfl rfl (by (try simp only [List.map_toArray, List.map_cons, List.map_nil]); first | done | rfl | (simp only [List.length_drop, List.length_take]; rfl)) ?_
                    with_reducible refine (impl_IdomOf.calls k3 _ _ t686 t689 _ _ t690 (rd t694 x5_2) t727 _ ?side1 ?side2 ?side3 ?side4 A58.out).mono ?_
                    (case side1 => repeat (first | exact (Kd.R_reads' HO_694000.out).2.2 | (with_reducible refine Kd.C_alloc ?_ _) | (with_reducible refine Kd.C_drewN ?_ _) | (with_reducible refine Kd.C_drew ?_)))
                    (case side2 => exact (Kd.R_reads' HO_694000.out).2.1)
                    (case side3 => repeat (first | exact (Kd.R_reads' HO_694002.out).2.2 | (with_reducible refine Kd.C_alloc ?_ _) | (with_reducible refine Kd.C_drewN ?_ _) | (with_reducible refine Kd.C_drew ?_)))
                    (case side4 => exact (Kd.R_reads' HO_694002.out).2.1)
                    rintro e w67 ⟨rfl, hb⟩
                    have HS3_ := (hb.cell (World.block_lt_of_cell? _ _ (hHeld.2.2.2))).trans (hHeld.2.2.2)
                    refine ⟨_, rfl, ?_⟩
                    have n0_ := Aside0.mk (Kd.R_below rHO_4_ hb)
                    have n1_ := Aside0.mk (Kd.R_below rHO_6_ hb)
                    have n2_ := Aside0.mk (Kd.R_below rHO_694000_ hb)
                    have n3_ := Aside0.mk (Kd.R_below rHO_694002_ hb)
                    have n4_ := Aside0.mk (blk_below (g := gb693) (o := .cells #[.slice Ao9 t686.length co9, .int .i64 t689, .slice Ao11 t690.length co11] 41 (0, 0)) bK693_ hb)
                    have n5_ := Aside0.mk (Kd.C_below (by repeat (first | (with_reducible exact HR713.out) | (with_reducible refine Kd.C_alloc ?_ _) | (with_reducible refine Kd.C_drewN ?_ _) | (with_reducible refine Kd.C_drew ?_) | exact HR713.out)) hb)
                    have n6_ := Aside0.mk (below_step hS_ hb)
                    clear HO_4
                    clear HO_6
                    clear HO_694000
                    clear HO_694002
                    clear BK693
                    clear HR713
                    clear HB
                    have HO_4 := n0_
                    have HO_6 := n1_
                    have HO_694000 := n2_
                    have HO_694002 := n3_
                    have BK693 := n4_
                    have HR713 := n5_
                    have HB := n6_
                    clear n0_ n1_ n2_ n3_ n4_ n5_ n6_
                    (try clear hb)
                    (try clear hb2)
                    (try clear hk)
                    (try clear hi)
                    refine hK.out _ _ ⟨(blk_cell BK693.out 0).trans rfl, (blk_cell BK693.out 1).trans rfl, (blk_cell BK693.out 2).trans rfl, HS3_⟩ (fun hHeld => ?_)
                    clear hK K
                    refine norm_ (a' := ?_) ?_ ?_
                    rotate_left
                    ·show Act.put _ (some 75) _ = _
                     simp only [Act.put, List.setIfInBounds_toArray, List.set_cons_zero, List.set_cons_succ, i64_w, i32_w]
                     rfl
                    refine pure_ (i := 6) (N := some 9) (v := ?_) (a' := ?_) #[true, true, true, true, true, true, true] rfl rfl (by kernel_rfl) (fun _ _ _ h => h) (Or.inl ⟨by rfl, ?_⟩) ?_ ?_
                    rotate_left
                    ·intro w'
                     go_simp
                     with_reducible rfl
                    rotate_left
                    ·simp only [Act.put, List.setIfInBounds_toArray, List.set_cons_zero, List.set_cons_succ, i64_w, i32_w]
                     rfl
                    refine done_ (by kernel_rfl) ?_
                    have q68 : (x5_2 : Int) ≤ ((t694.length : Int) : Int) := oD_
                    obtain ⟨i068, hi068, _, hsz68, _⟩ := info_parts info2
                    have hroom68 : t694.length ≤ co40 := (Kd.R_reads' HO_4.out).2.1
                    have hC68 : Kd.C (Kd.int .i64) _ (some ad714) t694.length t694 := (Kd.R_reads' HO_4.out).2.2
                    try clear hcut38
                    try clear hcut42
                    try clear hcut55
                    have hcut68 := cut_to (P := Try.prog) 22 2 .i64 Try.underlying22 hi068 (some ad714) t694.length co40 x5_2 (oD_) q68 hroom68
                    have hr68 := Kd.C_take (m := (x5_2 : Int).toNat) hC68 (by omega)
                    have hy68 : y728.length = (x5_2 : Int).toNat := (by rw [Ny728.out, List.length_take]; omega)
                    rw [← Ny728.out] at hr68
                    rw [← hy68] at hcut68
                    have HR731 := Aside0.mk hr68
                    have HC731 := Aside0.mk (show y728.length ≤ co40 from by omega)
                    clear hr68 hC68 hroom68 hi068 hsz68
                    have KY68 := Aside0.mk hy68
                    clear hy68
                    have KL68 := Aside0.mk (show (x5_2 : Int).toNat ≤ t694.length from by omega)
                    replace q68 := eq_true q68
                    try go_wp2_with (first | (go_at_call 37; (with_reducible refine (laws_has.calls k3 _ _ y728 t727 true _ ?side1 ?side2 A63.out).mono ?_); (case side1 => repeat (first | exact (by repeat (first | (with_reducible exact HR731.out) | (with_reducible refine Kd.C_alloc ?_ _) | (with_reducible refine Kd.C_drewN ?_ _) | (with_reducible refine Kd.C_drew ?_) | exact HR731.out)) | (with_reducible refine Kd.C_alloc ?_ _) | (with_reducible refine Kd.C_drewN ?_ _) | (with_reducible refine Kd.C_drew ?_))); (case side2 => exact HC731.out); rintro e w' ⟨rfl, ⟨nd, rfl⟩⟩))
                    go_roundg k3
                    case measure => have := HJ5.out; have := HK2.out; have := HK3.out; omega
                    case rel => exact ⟨(wrap64 (x5_2 + 1)), rF_, H', ⟨by have := HJ5.out; have := HK2.out; have := HK3.out; omega⟩, ⟨by (with_reducible repeat (first | apply Kd.R_alloc | apply Kd.R_drewN | apply Kd.R_drew)); exact Kd.R_mono HO_4.out (fun _ hk => hk.2)⟩, ⟨by (with_reducible repeat (first | apply Kd.R_alloc | apply Kd.R_drewN | apply Kd.R_drew)); exact Kd.R_mono HO_694000.out (fun _ hk => hk.1)⟩, ⟨by (with_reducible repeat (first | apply Kd.R_alloc | apply Kd.R_drewN | apply Kd.R_drew)); exact Kd.R_mono HO_694002.out (fun _ hk => ⟨hk.1, hk.2.2⟩)⟩, ⟨bK693_⟩, ⟨hS_⟩⟩
                   ·replace c64 := Bool.eq_false_iff.mpr c64
                    subst c64
                    have H1 := (if_neg (show ¬ (false = true) by decide)).symm.trans H
                    clear H
                    have H := H1
                    clear H1
                    obtain rfl := Option.some.inj H
                    obtain ⟨Ao69, co69, eo69⟩ := Kd.R_slice HO_6.out
                    subst eo69
                    try go_wp2
                    have n0_ := Aside0.mk (Kd.R_drew HO_4.out)
                    have n1_ := Aside0.mk (Kd.R_drew HO_6.out)
                    have n2_ := Aside0.mk (Kd.R_drew HO_694000.out)
                    have n3_ := Aside0.mk (Kd.R_drew HO_694002.out)
                    have n4_ := Aside0.mk (blk_drew BK693.out)
                    have n5_ := Aside0.mk (Kd.C_drew HR713.out)
                    have n6_ := Aside0.mk (below_drew1 HB.out)
                    clear HO_4
                    clear HO_6
                    clear HO_694000
                    clear HO_694002
                    clear BK693
                    clear HR713
                    clear HB
                    have HO_4 := n0_
                    have HO_6 := n1_
                    have HO_694000 := n2_
                    have HO_694002 := n3_
                    have BK693 := n4_
                    have HR713 := n5_
                    have HB := n6_
                    clear n0_ n1_ n2_ n3_ n4_ n5_ n6_
                    have p726 : 0 ≤ (x5_2 : Int) := oD_
                    have q726 : x5_2 < (t694.length : Int) := oD_
                    obtain ⟨ad726, e726, hx726_0⟩ := Kd.at_int (Kd.R_reads' HO_4.out).2.2 x5_2 p726 q726
                    obtain rfl : ad714 = ad726 := (by injection e726)
                    replace p726 := eq_true p726
                    replace q726 := eq_true q726
                    refine start_ (n := 7) (S := fun w' => w'.cell? ⟨gb693, 0, none⟩ = some (.slice Ao9 t686.length co9) ∧ w'.cell? ⟨gb693, 1, none⟩ = some (.int .i64 t689) ∧ w'.cell? ⟨gb693, 2, none⟩ = some (.slice Ao11 t690.length co11) ∧ w'.cell? (ad714.add (x5_2).toNat) = some (.int .i64 (rd t694 x5_2))) (ds := []) #[false, false, false, false, false, false, false] (by kernel_rfl) rfl rfl ⟨(blk_cell BK693.out 0).trans rfl, (blk_cell BK693.out 1).trans rfl, (blk_cell BK693.out 2).trans rfl, hx726_0⟩ (fun hHeld => ?_)
                    generalize wr.drew = w70 at HO_4 HO_6 HO_694000 HO_694002 BK693 HR713 HB hx726_0 hHeld ⊢
                    refine pure_ (i := 1) (N := some 71) (v := ?_) (a' := ?_) #[false, true, false, false, false, false, false] rfl rfl (by kernel_rfl) (fun _ _ _ h => h) (Or.inl ⟨by rfl, ?_⟩) ?_ ?_
                    rotate_left
                    ·intro w'
                     go_simp
                     with_reducible rfl
                    rotate_left
                    ·simp only [Act.put, List.setIfInBounds_toArray, List.set_cons_zero, List.set_cons_succ, i64_w, i32_w]
                     rfl
                    refine pure_ (i := 2) (N := some 72) (v := ?_) (a' := ?_) #[false, true, true, false, false, false, false] rfl rfl (by kernel_rfl) (fun _ _ _ h => h) (Or.inl ⟨by rfl, ?_⟩) ?_ ?_
                    rotate_left
                    ·intro w'
                     go_simp
                     with_reducible rfl
                    rotate_left
                    ·simp only [Act.put, List.setIfInBounds_toArray, List.set_cons_zero, List.set_cons_succ, i64_w, i32_w]
                     rfl
                    refine pure_ (i := 3) (N := some 73) (v := ?_) (a' := ?_) #[false, true, true, true, false, false, false] rfl rfl (by kernel_rfl) (fun _ _ _ h => h) (Or.inl ⟨by rfl, ?_⟩) ?_ ?_
                    rotate_left
                    ·intro w'
                     go_simp
                     with_reducible rfl
                    rotate_left
                    ·simp only [Act.put, List.setIfInBounds_toArray, List.set_cons_zero, List.set_cons_succ, i64_w, i32_w]
                     rfl
                    refine take_ (i := 0) (N := some 70) (v := ?_) (a' := ?_) #[true, true, true, true, false, false, false] rfl rfl (by kernel_rfl) (fun _ _ _ h => h) (Or.inl ⟨by rfl, ?_⟩) hHeld ?_ ?_
                    rotate_left
                    ·rintro w' ⟨s0, s1, s2, s3⟩
                     go_simp
                     with_reducible rfl
                    rotate_left
                    ·simp only [Act.put, List.setIfInBounds_toArray, List.set_cons_zero, List.set_cons_succ, i64_w, i32_w]
                     rfl
                    refine take_ (i := 4) (N := some 74) (v := ?_) (a' := ?_) #[true, true, true, true, true, false, false] rfl rfl (by kernel_rfl) (fun _ _ _ h => h) (Or.inl ⟨by rfl, ?_⟩) hHeld ?_ ?_
                    rotate_left
                    ·rintro w' ⟨s0, s1, s2, s3⟩
                     go_simp
                     with_reducible rfl
                    rotate_left
                    ·simp only [Act.put, List.setIfInBounds_toArray, List.set_cons_zero, List.set_cons_succ, i64_w, i32_w]
                     rfl
                    refine one_ (i := 5) (N := some 75) #[true, true, true, true, true, true, false] rfl rfl (by kernel_rfl) (by decide) (fun K hK => ?_)
                    refine goes_ Try.func31 (by kernel_rfl) rfl #[.agg #[.slice Ao9 t686.length co9, .int .i64 t689, .slice Ao11 t690.length co11], .int .i64 (rd t694 x5_2)] (by rfl) rfl rfl (by (try simp only [List.map_toArray, List.map_cons, List.map_nil]); first | done | rfl | (simp only [List.length_drop, List.length_take]; rfl)) ?_
                    with_reducible refine (impl_IdomOf.calls k3 _ _ t686 t689 _ _ t690 (rd t694 x5_2) t727 _ ?side1 ?side2 ?side3 ?side4 A58.out).mono ?_
                    (case side1 => repeat (first | exact (Kd.R_reads' HO_694000.out).2.2 | (with_reducible refine Kd.C_alloc ?_ _) | (with_reducible refine Kd.C_drewN ?_ _) | (with_reducible refine Kd.C_drew ?_)))
                    (case side2 => exact (Kd.R_reads' HO_694000.out).2.1)
                    (case side3 => repeat (first | exact (Kd.R_reads' HO_694002.out).2.2 | (with_reducible refine Kd.C_alloc ?_ _) | (with_reducible refine Kd.C_drewN ?_ _) | (with_reducible refine Kd.C_drew ?_)))
                    (case side4 => exact (Kd.R_reads' HO_694002.out).2.1)
                    rintro e w71 ⟨rfl, hb⟩
                    have HS3_ := (hb.cell (World.block_lt_of_cell? _ _ (hHeld.2.2.2))).trans (hHeld.2.2.2)
                    refine ⟨_, rfl, ?_⟩
                    have n0_ := Aside0.mk (Kd.R_below rHO_4_ hb)
                    have n1_ := Aside0.mk (Kd.R_below rHO_6_ hb)
                    have n2_ := Aside0.mk (Kd.R_below rHO_694000_ hb)
                    have n3_ := Aside0.mk (Kd.R_below rHO_694002_ hb)
                    have n4_ := Aside0.mk (blk_below (g := gb693) (o := .cells #[.slice Ao9 t686.length co9, .int .i64 t689, .slice Ao11 t690.length co11] 41 (0, 0)) bK693_ hb)
                    have n5_ := Aside0.mk (Kd.C_below (by repeat (first | (with_reducible exact HR713.out) | (with_reducible refine Kd.C_alloc ?_ _) | (with_reducible refine Kd.C_drewN ?_ _) | (with_reducible refine Kd.C_drew ?_) | exact HR713.out)) hb)
                    have n6_ := Aside0.mk (below_step hS_ hb)
                    clear HO_4
                    clear HO_6
                    clear HO_694000
                    clear HO_694002
                    clear BK693
                    clear HR713
                    clear HB
                    have HO_4 := n0_
                    have HO_6 := n1_
                    have HO_694000 := n2_
                    have HO_694002 := n3_
                    have BK693 := n4_
                    have HR713 := n5_
                    have HB := n6_
                    clear n0_ n1_ n2_ n3_ n4_ n5_ n6_
                    (try clear hb)
                    (try clear hb2)
                    (try clear hk)
                    (try clear hi)
                    refine hK.out _ _ ⟨(blk_cell BK693.out 0).trans rfl, (blk_cell BK693.out 1).trans rfl, (blk_cell BK693.out 2).trans rfl, HS3_⟩ (fun hHeld => ?_)
                    clear hK K
                    refine norm_ (a' := ?_) ?_ ?_
                    rotate_left
                    ·show Act.put _ (some 75) _ = _
                     simp only [Act.put, List.setIfInBounds_toArray, List.set_cons_zero, List.set_cons_succ, i64_w, i32_w]
                     rfl
                    refine pure_ (i := 6) (N := some 9) (v := ?_) (a' := ?_) #[true, true, true, true, true, true, true] rfl rfl (by kernel_rfl) (fun _ _ _ h => h) (Or.inl ⟨by rfl, ?_⟩) ?_ ?_
                    rotate_left
                    ·intro w'
                     go_simp
                     with_reducible rfl
                    rotate_left
                    ·simp only [Act.put, List.setIfInBounds_toArray, List.set_cons_zero, List.set_cons_succ, i64_w, i32_w]
                     rfl
                    refine done_ (by kernel_rfl) ?_
                    have q72 : (x5_2 : Int) ≤ ((t694.length : Int) : Int) := oD_
                    obtain ⟨i072, hi072, _, hsz72, _⟩ := info_parts info2
                    have hroom72 : t694.length ≤ co40 := (Kd.R_reads' HO_4.out).2.1
                    have hC72 : Kd.C (Kd.int .i64) _ (some ad714) t694.length t694 := (Kd.R_reads' HO_4.out).2.2
                    try clear hcut38
                    try clear hcut42
                    try clear hcut55
                    try clear hcut68
                    have hcut72 := cut_to (P := Try.prog) 22 2 .i64 Try.underlying22 hi072 (some ad714) t694.length co40 x5_2 (oD_) q72 hroom72
                    have hr72 := Kd.C_take (m := (x5_2 : Int).toNat) hC72 (by omega)
                    have hy72 : y728.length = (x5_2 : Int).toNat := (by rw [Ny728.out, List.length_take]; omega)
                    rw [← Ny728.out] at hr72
                    rw [← hy72] at hcut72
                    have HR731 := Aside0.mk hr72
                    have HC731 := Aside0.mk (show y728.length ≤ co40 from by omega)
                    clear hr72 hC72 hroom72 hi072 hsz72
                    have KY72 := Aside0.mk hy72
                    clear hy72
                    have KL72 := Aside0.mk (show (x5_2 : Int).toNat ≤ t694.length from by omega)
                    replace q72 := eq_true q72
                    try go_wp2_with (first | (go_at_call 37; (with_reducible refine (laws_has.calls k3 _ _ y728 t727 false _ ?side1 ?side2 A63.out).mono ?_); (case side1 => repeat (first | exact (by repeat (first | (with_reducible exact HR731.out) | (with_reducible refine Kd.C_alloc ?_ _) | (with_reducible refine Kd.C_drewN ?_ _) | (with_reducible refine Kd.C_drew ?_) | exact HR731.out)) | (with_reducible refine Kd.C_alloc ?_ _) | (with_reducible refine Kd.C_drewN ?_ _) | (with_reducible refine Kd.C_drew ?_))); (case side2 => exact HC731.out); rintro e w' ⟨rfl, ⟨nd, rfl⟩⟩))
                    go_ret
                    exact ⟨rG_, hS_⟩
                  ·rw [if_neg c62] at H
                   exact absurd H (by simp)
                 ·rw [if_neg c60] at H
                  have c60b0 : decide (0 ≤ t727) = false := decide_eq_false c60
                  clear c60
                  have H' := Aside0.mk H
                  clear H
                  obtain ⟨Ao73, co73, eo73⟩ := Kd.R_slice HO_6.out
                  subst eo73
                  try go_wp2
                  have n0_ := Aside0.mk (Kd.R_drew HO_4.out)
                  have n1_ := Aside0.mk (Kd.R_drew HO_6.out)
                  have n2_ := Aside0.mk (Kd.R_drew HO_694000.out)
                  have n3_ := Aside0.mk (Kd.R_drew HO_694002.out)
                  have n4_ := Aside0.mk (blk_drew BK693.out)
                  have n5_ := Aside0.mk (Kd.C_drew HR713.out)
                  have n6_ := Aside0.mk (below_drew1 HB.out)
                  clear HO_4
                  clear HO_6
                  clear HO_694000
                  clear HO_694002
                  clear BK693
                  clear HR713
                  clear HB
                  have HO_4 := n0_
                  have HO_6 := n1_
                  have HO_694000 := n2_
                  have HO_694002 := n3_
                  have BK693 := n4_
                  have HR713 := n5_
                  have HB := n6_
                  clear n0_ n1_ n2_ n3_ n4_ n5_ n6_
                  have p726 : 0 ≤ (x5_2 : Int) := oD_
                  have q726 : x5_2 < (t694.length : Int) := oD_
                  obtain ⟨ad726, e726, hx726_0⟩ := Kd.at_int (Kd.R_reads' HO_4.out).2.2 x5_2 p726 q726
                  obtain rfl : ad714 = ad726 := (by injection e726)
                  replace p726 := eq_true p726
                  replace q726 := eq_true q726
                  refine start_ (n := 7) (S := fun w' => w'.cell? ⟨gb693, 0, none⟩ = some (.slice Ao9 t686.length co9) ∧ w'.cell? ⟨gb693, 1, none⟩ = some (.int .i64 t689) ∧ w'.cell? ⟨gb693, 2, none⟩ = some (.slice Ao11 t690.length co11) ∧ w'.cell? (ad714.add (x5_2).toNat) = some (.int .i64 (rd t694 x5_2))) (ds := []) #[false, false, false, false, false, false, false] (by kernel_rfl) rfl rfl ⟨(blk_cell BK693.out 0).trans rfl, (blk_cell BK693.out 1).trans rfl, (blk_cell BK693.out 2).trans rfl, hx726_0⟩ (fun hHeld => ?_)
                  generalize wr.drew = w74 at HO_4 HO_6 HO_694000 HO_694002 BK693 HR713 HB hx726_0 hHeld ⊢
                  refine pure_ (i := 1) (N := some 71) (v := ?_) (a' := ?_) #[false, true, false, false, false, false, false] rfl rfl (by kernel_rfl) (fun _ _ _ h => h) (Or.inl ⟨by rfl, ?_⟩) ?_ ?_
                  rotate_left
                  ·intro w'
                   go_simp
                   with_reducible rfl
                  rotate_left
                  ·simp only [Act.put, List.setIfInBounds_toArray, List.set_cons_zero, List.set_cons_succ, i64_w, i32_w]
                   rfl
                  refine pure_ (i := 2) (N := some 72) (v := ?_) (a' := ?_) #[false, true, true, false, false, false, false] rfl rfl (by kernel_rfl) (fun _ _ _ h => h) (Or.inl ⟨by rfl, ?_⟩) ?_ ?_
                  rotate_left
                  ·intro w'
                   go_simp
                   with_reducible rfl
                  rotate_left
                  ·simp only [Act.put, List.setIfInBounds_toArray, List.set_cons_zero, List.set_cons_succ, i64_w, i32_w]
                   rfl
                  refine pure_ (i := 3) (N := some 73) (v := ?_) (a' := ?_) #[false, true, true, true, false, false, false] rfl rfl (by kernel_rfl) (fun _ _ _ h => h) (Or.inl ⟨by rfl, ?_⟩) ?_ ?_
                  rotate_left
                  ·intro w'
                   go_simp
                   with_reducible rfl
                  rotate_left
                  ·simp only [Act.put, List.setIfInBounds_toArray, List.set_cons_zero, List.set_cons_succ, i64_w, i32_w]
                   rfl
                  refine take_ (i := 0) (N := some 70) (v := ?_) (a' := ?_) #[true, true, true, true, false, false, false] rfl rfl (by kernel_rfl) (fun _ _ _ h => h) (Or.inl ⟨by rfl, ?_⟩) hHeld ?_ ?_
                  rotate_left
                  ·rintro w' ⟨s0, s1, s2, s3⟩
                   go_simp
                   with_reducible rfl
                  rotate_left
                  ·simp only [Act.put, List.setIfInBounds_toArray, List.set_cons_zero, List.set_cons_succ, i64_w, i32_w]
                   rfl
                  refine take_ (i := 4) (N := some 74) (v := ?_) (a' := ?_) #[true, true, true, true, true, false, false] rfl rfl (by kernel_rfl) (fun _ _ _ h => h) (Or.inl ⟨by rfl, ?_⟩) hHeld ?_ ?_
                  rotate_left
                  ·rintro w' ⟨s0, s1, s2, s3⟩
                   go_simp
                   with_reducible rfl
                  rotate_left
                  ·simp only [Act.put, List.setIfInBounds_toArray, List.set_cons_zero, List.set_cons_succ, i64_w, i32_w]
                   rfl
                  refine one_ (i := 5) (N := some 75) #[true, true, true, true, true, true, false] rfl rfl (by kernel_rfl) (by decide) (fun K hK => ?_)
                  refine goes_ Try.func31 (by kernel_rfl) rfl #[.agg #[.slice Ao9 t686.length co9, .int .i64 t689, .slice Ao11 t690.length co11], .int .i64 (rd t694 x5_2)] (by rfl) rfl rfl (by (try simp only [List.map_toArray, List.map_cons, List.map_nil]); first | done | rfl | (simp only [List.length_drop, List.length_take]; rfl)) ?_
                  with_reducible refine (impl_IdomOf.calls k3 _ _ t686 t689 _ _ t690 (rd t694 x5_2) t727 _ ?side1 ?side2 ?side3 ?side4 A58.out).mono ?_
                  (case side1 => repeat (first | exact (Kd.R_reads' HO_694000.out).2.2 | (with_reducible refine Kd.C_alloc ?_ _) | (with_reducible refine Kd.C_drewN ?_ _) | (with_reducible refine Kd.C_drew ?_)))
                  (case side2 => exact (Kd.R_reads' HO_694000.out).2.1)
                  (case side3 => repeat (first | exact (Kd.R_reads' HO_694002.out).2.2 | (with_reducible refine Kd.C_alloc ?_ _) | (with_reducible refine Kd.C_drewN ?_ _) | (with_reducible refine Kd.C_drew ?_)))
                  (case side4 => exact (Kd.R_reads' HO_694002.out).2.1)
                  rintro e w75 ⟨rfl, hb⟩
                  have HS3_ := (hb.cell (World.block_lt_of_cell? _ _ (hHeld.2.2.2))).trans (hHeld.2.2.2)
                  refine ⟨_, rfl, ?_⟩
                  have n0_ := Aside0.mk (Kd.R_below rHO_4_ hb)
                  have n1_ := Aside0.mk (Kd.R_below rHO_6_ hb)
                  have n2_ := Aside0.mk (Kd.R_below rHO_694000_ hb)
                  have n3_ := Aside0.mk (Kd.R_below rHO_694002_ hb)
                  have n4_ := Aside0.mk (blk_below (g := gb693) (o := .cells #[.slice Ao9 t686.length co9, .int .i64 t689, .slice Ao11 t690.length co11] 41 (0, 0)) bK693_ hb)
                  have n5_ := Aside0.mk (Kd.C_below (by repeat (first | (with_reducible exact HR713.out) | (with_reducible refine Kd.C_alloc ?_ _) | (with_reducible refine Kd.C_drewN ?_ _) | (with_reducible refine Kd.C_drew ?_) | exact HR713.out)) hb)
                  have n6_ := Aside0.mk (below_step hS_ hb)
                  clear HO_4
                  clear HO_6
                  clear HO_694000
                  clear HO_694002
                  clear BK693
                  clear HR713
                  clear HB
                  have HO_4 := n0_
                  have HO_6 := n1_
                  have HO_694000 := n2_
                  have HO_694002 := n3_
                  have BK693 := n4_
                  have HR713 := n5_
                  have HB := n6_
                  clear n0_ n1_ n2_ n3_ n4_ n5_ n6_
                  (try clear hb)
                  (try clear hb2)
                  (try clear hk)
                  (try clear hi)
                  refine hK.out _ _ ⟨(blk_cell BK693.out 0).trans rfl, (blk_cell BK693.out 1).trans rfl, (blk_cell BK693.out 2).trans rfl, HS3_⟩ (fun hHeld => ?_)
                  clear hK K
                  refine norm_ (a' := ?_) ?_ ?_
                  rotate_left
                  ·show Act.put _ (some 75) _ = _
                   simp only [Act.put, List.setIfInBounds_toArray, List.set_cons_zero, List.set_cons_succ, i64_w, i32_w]
                   rfl
                  refine pure_ (i := 6) (N := some 9) (v := ?_) (a' := ?_) #[true, true, true, true, true, true, true] rfl rfl (by kernel_rfl) (fun _ _ _ h => h) (Or.inl ⟨by rfl, ?_⟩) ?_ ?_
                  rotate_left
                  ·intro w'
                   go_simp
                   with_reducible rfl
                  rotate_left
                  ·simp only [Act.put, List.setIfInBounds_toArray, List.set_cons_zero, List.set_cons_succ, i64_w, i32_w]
                   rfl
                  refine done_ (by kernel_rfl) ?_
                  try go_wp2
                  go_roundg k3
                  case measure => have := HJ5.out; have := HK2.out; have := HK3.out; omega
                  case rel => exact ⟨(wrap64 (x5_2 + 1)), rF_, H', ⟨by have := HJ5.out; have := HK2.out; have := HK3.out; omega⟩, ⟨by (with_reducible repeat (first | apply Kd.R_alloc | apply Kd.R_drewN | apply Kd.R_drew)); exact Kd.R_mono HO_4.out (fun _ hk => hk.2)⟩, ⟨by (with_reducible repeat (first | apply Kd.R_alloc | apply Kd.R_drewN | apply Kd.R_drew)); exact Kd.R_mono HO_694000.out (fun _ hk => hk.1)⟩, ⟨by (with_reducible repeat (first | apply Kd.R_alloc | apply Kd.R_drewN | apply Kd.R_drew)); exact Kd.R_mono HO_694002.out (fun _ hk => ⟨hk.1, hk.2.2⟩)⟩, ⟨bK693_⟩, ⟨hS_⟩⟩
                ·replace c59 := Bool.eq_false_iff.mpr c59
                 subst c59
                 have H1 := (if_neg (show ¬ (false = true) by decide)).symm.trans H
                 clear H
                 have H := H1
                 clear H1
                 obtain rfl := Option.some.inj H
                 obtain ⟨Ao76, co76, eo76⟩ := Kd.R_slice HO_6.out
                 subst eo76
                 try go_wp2
                 have n0_ := Aside0.mk (Kd.R_drew HO_4.out)
                 have n1_ := Aside0.mk (Kd.R_drew HO_6.out)
                 have n2_ := Aside0.mk (Kd.R_drew HO_694000.out)
                 have n3_ := Aside0.mk (Kd.R_drew HO_694002.out)
                 have n4_ := Aside0.mk (blk_drew BK693.out)
                 have n5_ := Aside0.mk (Kd.C_drew HR713.out)
                 have n6_ := Aside0.mk (below_drew1 HB.out)
                 clear HO_4
                 clear HO_6
                 clear HO_694000
                 clear HO_694002
                 clear BK693
                 clear HR713
                 clear HB
                 have HO_4 := n0_
                 have HO_6 := n1_
                 have HO_694000 := n2_
                 have HO_694002 := n3_
                 have BK693 := n4_
                 have HR713 := n5_
                 have HB := n6_
                 clear n0_ n1_ n2_ n3_ n4_ n5_ n6_
                 have p726 : 0 ≤ (x5_2 : Int) := oD_
                 have q726 : x5_2 < (t694.length : Int) := oD_
                 obtain ⟨ad726, e726, hx726_0⟩ := Kd.at_int (Kd.R_reads' HO_4.out).2.2 x5_2 p726 q726
                 obtain rfl : ad714 = ad726 := (by injection e726)
                 replace p726 := eq_true p726
                 replace q726 := eq_true q726
                 refine start_ (n := 7) (S := fun w' => w'.cell? ⟨gb693, 0, none⟩ = some (.slice Ao9 t686.length co9) ∧ w'.cell? ⟨gb693, 1, none⟩ = some (.int .i64 t689) ∧ w'.cell? ⟨gb693, 2, none⟩ = some (.slice Ao11 t690.length co11) ∧ w'.cell? (ad714.add (x5_2).toNat) = some (.int .i64 (rd t694 x5_2))) (ds := []) #[false, false, false, false, false, false, false] (by kernel_rfl) rfl rfl ⟨(blk_cell BK693.out 0).trans rfl, (blk_cell BK693.out 1).trans rfl, (blk_cell BK693.out 2).trans rfl, hx726_0⟩ (fun hHeld => ?_)
                 generalize wr.drew = w77 at HO_4 HO_6 HO_694000 HO_694002 BK693 HR713 HB hx726_0 hHeld ⊢
                 refine pure_ (i := 1) (N := some 71) (v := ?_) (a' := ?_) #[false, true, false, false, false, false, false] rfl rfl (by kernel_rfl) (fun _ _ _ h => h) (Or.inl ⟨by rfl, ?_⟩) ?_ ?_
                 rotate_left
                 ·intro w'
                  go_simp
                  with_reducible rfl
                 rotate_left
                 ·simp only [Act.put, List.setIfInBounds_toArray, List.set_cons_zero, List.set_cons_succ, i64_w, i32_w]
                  rfl
                 refine pure_ (i := 2) (N := some 72) (v := ?_) (a' := ?_) #[false, true, true, false, false, false, false] rfl rfl (by kernel_rfl) (fun _ _ _ h => h) (Or.inl ⟨by rfl, ?_⟩) ?_ ?_
                 rotate_left
                 ·intro w'
                  go_simp
                  with_reducible rfl
                 rotate_left
                 ·simp only [Act.put, List.setIfInBounds_toArray, List.set_cons_zero, List.set_cons_succ, i64_w, i32_w]
                  rfl
                 refine pure_ (i := 3) (N := some 73) (v := ?_) (a' := ?_) #[false, true, true, true, false, false, false] rfl rfl (by kernel_rfl) (fun _ _ _ h => h) (Or.inl ⟨by rfl, ?_⟩) ?_ ?_
                 rotate_left
                 ·intro w'
                  go_simp
                  with_reducible rfl
                 rotate_left
                 ·simp only [Act.put, List.setIfInBounds_toArray, List.set_cons_zero, List.set_cons_succ, i64_w, i32_w]
                  rfl
                 refine take_ (i := 0) (N := some 70) (v := ?_) (a' := ?_) #[true, true, true, true, false, false, false] rfl rfl (by kernel_rfl) (fun _ _ _ h => h) (Or.inl ⟨by rfl, ?_⟩) hHeld ?_ ?_
                 rotate_left
                 ·rintro w' ⟨s0, s1, s2, s3⟩
                  go_simp
                  with_reducible rfl
                 rotate_left
                 ·simp only [Act.put, List.setIfInBounds_toArray, List.set_cons_zero, List.set_cons_succ, i64_w, i32_w]
                  rfl
                 refine take_ (i := 4) (N := some 74) (v := ?_) (a' := ?_) #[true, true, true, true, true, false, false] rfl rfl (by kernel_rfl) (fun _ _ _ h => h) (Or.inl ⟨by rfl, ?_⟩) hHeld ?_ ?_
                 rotate_left
                 ·rintro w' ⟨s0, s1, s2, s3⟩
                  go_simp
                  with_reducible rfl
                 rotate_left
                 ·simp only [Act.put, List.setIfInBounds_toArray, List.set_cons_zero, List.set_cons_succ, i64_w, i32_w]
                  rfl
                 refine one_ (i := 5) (N := some 75) #[true, true, true, true, true, true, false] rfl rfl (by kernel_rfl) (by decide) (fun K hK => ?_)
                 refine goes_ Try.func31 (by kernel_rfl) rfl #[.agg #[.slice Ao9 t686.length co9, .int .i64 t689, .slice Ao11 t690.length co11], .int .i64 (rd t694 x5_2)] (by rfl) rfl rfl (by (try simp only [List.map_toArray, List.map_cons, List.map_nil]); first | done | rfl | (simp only [List.length_drop, List.length_take]; rfl)) ?_
                 with_reducible refine (impl_IdomOf.calls k3 _ _ t686 t689 _ _ t690 (rd t694 x5_2) t727 _ ?side1 ?side2 ?side3 ?side4 A58.out).mono ?_
                 (case side1 => repeat (first | exact (Kd.R_reads' HO_694000.out).2.2 | (with_reducible refine Kd.C_alloc ?_ _) | (with_reducible refine Kd.C_drewN ?_ _) | (with_reducible refine Kd.C_drew ?_)))
                 (case side2 => exact (Kd.R_reads' HO_694000.out).2.1)
                 (case side3 => repeat (first | exact (Kd.R_reads' HO_694002.out).2.2 | (with_reducible refine Kd.C_alloc ?_ _) | (with_reducible refine Kd.C_drewN ?_ _) | (with_reducible refine Kd.C_drew ?_)))
                 (case side4 => exact (Kd.R_reads' HO_694002.out).2.1)
                 rintro e w78 ⟨rfl, hb⟩
                 have HS3_ := (hb.cell (World.block_lt_of_cell? _ _ (hHeld.2.2.2))).trans (hHeld.2.2.2)
                 refine ⟨_, rfl, ?_⟩
                 have n0_ := Aside0.mk (Kd.R_below rHO_4_ hb)
                 have n1_ := Aside0.mk (Kd.R_below rHO_6_ hb)
                 have n2_ := Aside0.mk (Kd.R_below rHO_694000_ hb)
                 have n3_ := Aside0.mk (Kd.R_below rHO_694002_ hb)
                 have n4_ := Aside0.mk (blk_below (g := gb693) (o := .cells #[.slice Ao9 t686.length co9, .int .i64 t689, .slice Ao11 t690.length co11] 41 (0, 0)) bK693_ hb)
                 have n5_ := Aside0.mk (Kd.C_below (by repeat (first | (with_reducible exact HR713.out) | (with_reducible refine Kd.C_alloc ?_ _) | (with_reducible refine Kd.C_drewN ?_ _) | (with_reducible refine Kd.C_drew ?_) | exact HR713.out)) hb)
                 have n6_ := Aside0.mk (below_step hS_ hb)
                 clear HO_4
                 clear HO_6
                 clear HO_694000
                 clear HO_694002
                 clear BK693
                 clear HR713
                 clear HB
                 have HO_4 := n0_
                 have HO_6 := n1_
                 have HO_694000 := n2_
                 have HO_694002 := n3_
                 have BK693 := n4_
                 have HR713 := n5_
                 have HB := n6_
                 clear n0_ n1_ n2_ n3_ n4_ n5_ n6_
                 (try clear hb)
                 (try clear hb2)
                 (try clear hk)
                 (try clear hi)
                 refine hK.out _ _ ⟨(blk_cell BK693.out 0).trans rfl, (blk_cell BK693.out 1).trans rfl, (blk_cell BK693.out 2).trans rfl, HS3_⟩ (fun hHeld => ?_)
                 clear hK K
                 refine norm_ (a' := ?_) ?_ ?_
                 rotate_left
                 ·show Act.put _ (some 75) _ = _
                  simp only [Act.put, List.setIfInBounds_toArray, List.set_cons_zero, List.set_cons_succ, i64_w, i32_w]
                  rfl
                 refine pure_ (i := 6) (N := some 9) (v := ?_) (a' := ?_) #[true, true, true, true, true, true, true] rfl rfl (by kernel_rfl) (fun _ _ _ h => h) (Or.inl ⟨by rfl, ?_⟩) ?_ ?_
                 rotate_left
                 ·intro w'
                  go_simp
                  with_reducible rfl
                 rotate_left
                 ·simp only [Act.put, List.setIfInBounds_toArray, List.set_cons_zero, List.set_cons_succ, i64_w, i32_w]
                  rfl
                 refine done_ (by kernel_rfl) ?_
                 try go_wp2
                 go_ret
                 exact ⟨rG_, hS_⟩
               ·rw [if_neg c57] at H
                exact absurd H (by simp)
              ·rw [if_neg c56] at H
               exact absurd H (by simp)
         ·rw [if_neg c33] at H
          exact absurd H (by simp)
        ·rw [if_neg c32] at H
         exact absurd H (by simp)
       ·rw [if_neg c31] at H
        have c31b0 : decide (x5_2 < (t694.length : Int)) = false := decide_eq_false c31
        clear c31
        replace H := Option.bind_eq_some_iff.mp H
        obtain ⟨t705, A790, H⟩ := H
        replace H : ((laws_within.f k2 t705 t694).bind fun t708 => (if t708 = true then (if (t705.length : Int) = (t694.length : Int) then (if 0 < (t694.length : Int) then (some ((rd t694 0) == 0)) else (none)) else (some false)) else (some false))) = some r := H
        have A79 := Aside0.mk A790
        clear A790
        replace H := Option.bind_eq_some_iff.mp H
        obtain ⟨t708, A800, H⟩ := H
        replace H : (if t708 = true then (if (t705.length : Int) = (t694.length : Int) then (if 0 < (t694.length : Int) then (some ((rd t694 0) == 0)) else (none)) else (some false)) else (some false)) = some r := H
        have A80 := Aside0.mk A800
        clear A800
        by_cases c81 : t708 = true
        ·subst c81
         have H1 := (if_pos rfl).symm.trans H
         clear H
         have H := H1
         clear H1
         by_cases c82 : (t705.length : Int) = (t694.length : Int)
         ·rw [if_pos c82] at H
          have c82b0 : ((t705.length : Int) == (t694.length : Int)) = true := beq_iff_eq.mpr c82
          have c82b1 : ((t705.length : Int) != (t694.length : Int)) = false := bne_eq_false_iff_eq.mpr c82
          have c82b2 : (t705.length == t694.length) = true := by first | simpa using c82 | (simp at c82 ⊢; omega)
          clear c82
          by_cases c83 : 0 < (t694.length : Int)
          ·rw [if_pos c83] at H
           have c83b0 : decide (0 < (t694.length : Int)) = true := decide_eq_true c83
           have c83b1 : decide (0 < t694.length) = true := decide_eq_true (by omega)
           clear c83
           obtain rfl := Option.some.inj H
           obtain ⟨Ao84, co84, eo84⟩ := Kd.R_slice HO_4.out
           subst eo84
           obtain ⟨hcz85_0, hcz85_1, hcz85_2, hfz85_0, hfz85_1, hfz85_2⟩ := blkc3_ BK693.out
           go_wp2_with (first | ((with_reducible refine gate_callee (f := 29) rfl ?_); refine gL_ (some 91) Try.func29 #[.agg #[.slice Ao9 t686.length co9, .int .i64 t689, .slice Ao11 t690.length co11]] ?_; (with_reducible refine (impl_Reached.calls k2 _ _ t686 t689 _ _ t690 t705 _ ?side1 ?side2 ?side3 ?side4 A79.out).mono ?_); (case side1 => repeat (first | exact (Kd.R_reads' HO_694000.out).2.2 | (with_reducible refine Kd.C_alloc ?_ _) | (with_reducible refine Kd.C_drewN ?_ _) | (with_reducible refine Kd.C_drew ?_))); (case side2 => exact (Kd.R_reads' HO_694000.out).2.1); (case side3 => repeat (first | exact (Kd.R_reads' HO_694002.out).2.2 | (with_reducible refine Kd.C_alloc ?_ _) | (with_reducible refine Kd.C_drewN ?_ _) | (with_reducible refine Kd.C_drew ?_))); (case side4 => exact (Kd.R_reads' HO_694002.out).2.1); rintro e w86 ⟨v706, rfl, ho0, hb⟩; refine ⟨_, rfl, ?_⟩; have n0_ := Aside0.mk (Kd.R_elder' rHO_4_ (Kd.R_base ho0) hb); have n1_ := Aside0.mk (Kd.R_elder' rHO_694000_ (Kd.R_base ho0) hb); have n2_ := Aside0.mk (Kd.R_elder' rHO_694002_ (Kd.R_base ho0) hb); have n3_ := Aside0.mk (Kd.R_lower (Kd.R_new' (Kd.R_new' ho0 (Kd.R_lt rHO_4_)) (Kd.R_lt rHO_694000_)) (below_size hS_)); have n4_ := Aside0.mk (blk_below (g := gb693) (o := .cells #[.slice Ao9 t686.length co9, .int .i64 t689, .slice Ao11 t690.length co11] 41 (0, 0)) bK693_ hb); have n5_ := Aside0.mk (below_step hS_ hb); clear HO_4; clear HO_694000; clear HO_694002; clear BK693; clear HB; have HO_4 := n0_; have HO_694000 := n1_; have HO_694002 := n2_; have HO707 := n3_; have BK693 := n4_; have HB := n5_; clear n0_ n1_ n2_ n3_ n4_ n5_; (try clear hb); (try clear hb2); (try clear hk); (try clear hi); (try clear ho0); obtain ⟨Ao87, co87, eo87⟩ := Kd.R_slice HO707.out; subst eo87) | ((with_reducible refine gate_callee (f := 39) rfl ?_); refine gL_ (some 94) Try.func39 #[.slice Ao87 t705.length co87, .slice Ao84 t694.length co84] ?_; (with_reducible refine (laws_within.calls k2 _ _ t705 _ _ t694 true _ ?side1 ?side2 ?side3 ?side4 A80.out).mono ?_); (case side1 => repeat (first | exact (Kd.R_reads' HO707.out).2.2 | (with_reducible refine Kd.C_alloc ?_ _) | (with_reducible refine Kd.C_drewN ?_ _) | (with_reducible refine Kd.C_drew ?_))); (case side2 => exact (Kd.R_reads' HO707.out).2.1); (case side3 => repeat (first | exact (Kd.R_reads' HO_4.out).2.2 | (with_reducible refine Kd.C_alloc ?_ _) | (with_reducible refine Kd.C_drewN ?_ _) | (with_reducible refine Kd.C_drew ?_))); (case side4 => exact (Kd.R_reads' HO_4.out).2.1); rintro e w' ⟨rfl, ⟨nd, rfl⟩⟩; refine ⟨_, rfl, ?_⟩; have p709 : 0 ≤ (0 : Int) := (by omega); have q709 : 0 < (t694.length : Int) := oD_; obtain ⟨ad709, e709, hx709_0⟩ := Kd.at_int (Kd.R_reads' HO_4.out).2.2 0 p709 q709; cases e709; have qi709 : (0 < t694.length) = True := eq_true (by omega); (try rw [show ((0 : Int)).toNat = 0 from rfl] at hx709_0); (try rw [Addr.add_zero'] at hx709_0); replace p709 := eq_true p709; replace q709 := eq_true q709))
           go_ret
           exact ⟨rG_, hS_⟩
          ·rw [if_neg c83] at H
           exact absurd H (by simp)
         ·rw [if_neg c82] at H
          have c82b0 : ((t705.length : Int) == (t694.length : Int)) = false := beq_eq_false_iff_ne.mpr c82
          have c82b1 : ((t705.length : Int) != (t694.length : Int)) = true := bne_iff_ne.mpr c82
          have c82b2 : (t705.length == t694.length) = false := by first | simpa using c82 | (simp at c82 ⊢; omega)
          obtain rfl := Option.some.inj H
          obtain ⟨Ao88, co88, eo88⟩ := Kd.R_slice HO_4.out
          subst eo88
          obtain ⟨hcz89_0, hcz89_1, hcz89_2, hfz89_0, hfz89_1, hfz89_2⟩ := blkc3_ BK693.out
          go_wp2_with (first | ((with_reducible refine gate_callee (f := 29) rfl ?_); refine gL_ (some 91) Try.func29 #[.agg #[.slice Ao9 t686.length co9, .int .i64 t689, .slice Ao11 t690.length co11]] ?_; (with_reducible refine (impl_Reached.calls k2 _ _ t686 t689 _ _ t690 t705 _ ?side1 ?side2 ?side3 ?side4 A79.out).mono ?_); (case side1 => repeat (first | exact (Kd.R_reads' HO_694000.out).2.2 | (with_reducible refine Kd.C_alloc ?_ _) | (with_reducible refine Kd.C_drewN ?_ _) | (with_reducible refine Kd.C_drew ?_))); (case side2 => exact (Kd.R_reads' HO_694000.out).2.1); (case side3 => repeat (first | exact (Kd.R_reads' HO_694002.out).2.2 | (with_reducible refine Kd.C_alloc ?_ _) | (with_reducible refine Kd.C_drewN ?_ _) | (with_reducible refine Kd.C_drew ?_))); (case side4 => exact (Kd.R_reads' HO_694002.out).2.1); rintro e w90 ⟨v706, rfl, ho0, hb⟩; refine ⟨_, rfl, ?_⟩; have n0_ := Aside0.mk (Kd.R_elder' rHO_4_ (Kd.R_base ho0) hb); have n1_ := Aside0.mk (Kd.R_elder' rHO_694000_ (Kd.R_base ho0) hb); have n2_ := Aside0.mk (Kd.R_elder' rHO_694002_ (Kd.R_base ho0) hb); have n3_ := Aside0.mk (Kd.R_lower (Kd.R_new' (Kd.R_new' ho0 (Kd.R_lt rHO_4_)) (Kd.R_lt rHO_694000_)) (below_size hS_)); have n4_ := Aside0.mk (blk_below (g := gb693) (o := .cells #[.slice Ao9 t686.length co9, .int .i64 t689, .slice Ao11 t690.length co11] 41 (0, 0)) bK693_ hb); have n5_ := Aside0.mk (below_step hS_ hb); clear HO_4; clear HO_694000; clear HO_694002; clear BK693; clear HB; have HO_4 := n0_; have HO_694000 := n1_; have HO_694002 := n2_; have HO707 := n3_; have BK693 := n4_; have HB := n5_; clear n0_ n1_ n2_ n3_ n4_ n5_; (try clear hb); (try clear hb2); (try clear hk); (try clear hi); (try clear ho0); obtain ⟨Ao91, co91, eo91⟩ := Kd.R_slice HO707.out; subst eo91) | ((with_reducible refine gate_callee (f := 39) rfl ?_); refine gL_ (some 94) Try.func39 #[.slice Ao91 t705.length co91, .slice Ao88 t694.length co88] ?_; (with_reducible refine (laws_within.calls k2 _ _ t705 _ _ t694 true _ ?side1 ?side2 ?side3 ?side4 A80.out).mono ?_); (case side1 => repeat (first | exact (Kd.R_reads' HO707.out).2.2 | (with_reducible refine Kd.C_alloc ?_ _) | (with_reducible refine Kd.C_drewN ?_ _) | (with_reducible refine Kd.C_drew ?_))); (case side2 => exact (Kd.R_reads' HO707.out).2.1); (case side3 => repeat (first | exact (Kd.R_reads' HO_4.out).2.2 | (with_reducible refine Kd.C_alloc ?_ _) | (with_reducible refine Kd.C_drewN ?_ _) | (with_reducible refine Kd.C_drew ?_))); (case side4 => exact (Kd.R_reads' HO_4.out).2.1); rintro e w' ⟨rfl, ⟨nd, rfl⟩⟩; refine ⟨_, rfl, ?_⟩))
          go_ret
          exact ⟨rG_, hS_⟩
        ·replace c81 := Bool.eq_false_iff.mpr c81
         subst c81
         have H1 := (if_neg (show ¬ (false = true) by decide)).symm.trans H
         clear H
         have H := H1
         clear H1
         obtain rfl := Option.some.inj H
         obtain ⟨Ao92, co92, eo92⟩ := Kd.R_slice HO_4.out
         subst eo92
         obtain ⟨hcz93_0, hcz93_1, hcz93_2, hfz93_0, hfz93_1, hfz93_2⟩ := blkc3_ BK693.out
         go_wp2_with (first | ((with_reducible refine gate_callee (f := 29) rfl ?_); refine gL_ (some 91) Try.func29 #[.agg #[.slice Ao9 t686.length co9, .int .i64 t689, .slice Ao11 t690.length co11]] ?_; (with_reducible refine (impl_Reached.calls k2 _ _ t686 t689 _ _ t690 t705 _ ?side1 ?side2 ?side3 ?side4 A79.out).mono ?_); (case side1 => repeat (first | exact (Kd.R_reads' HO_694000.out).2.2 | (with_reducible refine Kd.C_alloc ?_ _) | (with_reducible refine Kd.C_drewN ?_ _) | (with_reducible refine Kd.C_drew ?_))); (case side2 => exact (Kd.R_reads' HO_694000.out).2.1); (case side3 => repeat (first | exact (Kd.R_reads' HO_694002.out).2.2 | (with_reducible refine Kd.C_alloc ?_ _) | (with_reducible refine Kd.C_drewN ?_ _) | (with_reducible refine Kd.C_drew ?_))); (case side4 => exact (Kd.R_reads' HO_694002.out).2.1); rintro e w94 ⟨v706, rfl, ho0, hb⟩; refine ⟨_, rfl, ?_⟩; have n0_ := Aside0.mk (Kd.R_elder' rHO_4_ (Kd.R_base ho0) hb); have n1_ := Aside0.mk (Kd.R_elder' rHO_694000_ (Kd.R_base ho0) hb); have n2_ := Aside0.mk (Kd.R_elder' rHO_694002_ (Kd.R_base ho0) hb); have n3_ := Aside0.mk (Kd.R_lower (Kd.R_new' (Kd.R_new' ho0 (Kd.R_lt rHO_4_)) (Kd.R_lt rHO_694000_)) (below_size hS_)); have n4_ := Aside0.mk (blk_below (g := gb693) (o := .cells #[.slice Ao9 t686.length co9, .int .i64 t689, .slice Ao11 t690.length co11] 41 (0, 0)) bK693_ hb); have n5_ := Aside0.mk (below_step hS_ hb); clear HO_4; clear HO_694000; clear HO_694002; clear BK693; clear HB; have HO_4 := n0_; have HO_694000 := n1_; have HO_694002 := n2_; have HO707 := n3_; have BK693 := n4_; have HB := n5_; clear n0_ n1_ n2_ n3_ n4_ n5_; (try clear hb); (try clear hb2); (try clear hk); (try clear hi); (try clear ho0); obtain ⟨Ao95, co95, eo95⟩ := Kd.R_slice HO707.out; subst eo95) | ((with_reducible refine gate_callee (f := 39) rfl ?_); refine gL_ (some 94) Try.func39 #[.slice Ao95 t705.length co95, .slice Ao92 t694.length co92] ?_; (with_reducible refine (laws_within.calls k2 _ _ t705 _ _ t694 false _ ?side1 ?side2 ?side3 ?side4 A80.out).mono ?_); (case side1 => repeat (first | exact (Kd.R_reads' HO707.out).2.2 | (with_reducible refine Kd.C_alloc ?_ _) | (with_reducible refine Kd.C_drewN ?_ _) | (with_reducible refine Kd.C_drew ?_))); (case side2 => exact (Kd.R_reads' HO707.out).2.1); (case side3 => repeat (first | exact (Kd.R_reads' HO_4.out).2.2 | (with_reducible refine Kd.C_alloc ?_ _) | (with_reducible refine Kd.C_drewN ?_ _) | (with_reducible refine Kd.C_drew ?_))); (case side4 => exact (Kd.R_reads' HO_4.out).2.1); rintro e w' ⟨rfl, ⟨nd, rfl⟩⟩; refine ⟨_, rfl, ?_⟩))
         go_ret
         exact ⟨rG_, hS_⟩
/-- THE ONE PURE STATEMENT of laws_FnOrder: yours. -/
def laws_FnOrder.Pure : Prop := ∀ (l0 : List Int), l0.length ≤ maxLen → l0.length * 1 ≤ 140737488351232 → (∀ x ∈ l0, (Lit.int .u8 x).wf = true) → ∃ k, laws_FnOrder.f k l0 = some true
theorem laws_FnOrder.walk (P : laws_FnOrder.Pure) (a0 : Option Addr) (len0 cap0 : Nat) (z0 : List Int) (w : World) (w0 : (a0 = none ∧ len0 = 0 ∧ cap0 = 0 ∧ z0 = []) ∨ ∃ x, a0 = some x ∧ len0 ≤ cap0 ∧ cap0 ≤ maxLen ∧ z0.length = cap0 ∧ (∀ i, i < z0.length → w.cell? (x.add i) = some (.int .u8 (z0.getD i 0))) ∧ ∀ n ∈ z0, (Lit.int .u8 n).wf = true) (y0 : len0 * 1 ≤ 140737488351232) :
  Calls Try.prog 7 #[.slice a0 len0 cap0] w fun e w' => e = .returned (.bool true) ∧ Below w.heap.size w w' := by
 obtain ⟨l0, rfl, hr0, hm0, hw0, hc0⟩ := ReadsInt.ofRowC w0
 obtain ⟨k, h⟩ := P l0 hm0 y0 hw0
 refine (laws_FnOrder.calls k _ _ l0 true w (Kd.C_of_reads (d := (0 : Int)) (h1 := fun _ => rfl) hr0) hc0 h).mono ?_
 rintro e w' ⟨rfl, hd⟩
 exact ⟨rfl, hd⟩
end Go.Proofs.Ytjkbafcepblacaa.X
namespace Go.Proofs.Ytjkbafcepblacaa.X
set_option linter.unusedVariables false
set_option linter.unusedSimpArgs false
open Go.RowKit Go.Proofs.YtjkbafcepblacaaW.PrintWords Go.Proofs.YtjkbafcepblacaaW.PrintLast Go.Proofs.YtjkbafcepblacaaW.PrintMore
theorem Ev.succ {α : Type} {g : Nat → Option α} {r : α} (h : Ev (fun k => g (k + 1)) r) : Ev g r := Ev.step (f := fun k => g (k + 1)) (fun _ => rfl) h
theorem Ev.cst {α : Type} {o : Option α} {r : α} (h : o = some r) : Ev (fun _ => o) r := ⟨0, fun _ _ => h⟩
theorem Ev.ipos {α : Type} {c : Prop} [Decidable c] {f g : Nat → Option α} {r : α} (hc : c) (h : Ev f r) : Ev (fun k => if c then f k else g k) r := Ev.congr (fun _ => if_pos hc) h
theorem Ev.ineg {α : Type} {c : Prop} [Decidable c] {f g : Nat → Option α} {r : α} (hc : ¬ c) (h : Ev g r) : Ev (fun k => if c then f k else g k) r := Ev.congr (fun _ => if_neg hc) h
theorem Ev.rw {α : Type} {g : Nat → Option α} {r s : α} (h : Ev g r) (e : r = s) : Ev g s := e ▸ h
theorem w64 {x : Int} (h0 : -9223372036854775808 ≤ x) (h1 : x ≤ 9223372036854775807) : wrap64 x = x := by unfold wrap64; omega
theorem getD_at {α : Type} (l : List α) (z : α) (j : Nat) (h : j < l.length) : l.getD j z = l[j] := by simp [List.getD, List.getElem?_eq_getElem h]
end Go.Proofs.Ytjkbafcepblacaa.X
namespace Go.Proofs.Ytjkbafcepblacaa.X
set_option linter.unusedVariables false
set_option linter.unusedSimpArgs false
open Go.RowKit Go.Proofs.YtjkbafcepblacaaW.PrintWords Go.Proofs.YtjkbafcepblacaaW.PrintLast Go.Proofs.YtjkbafcepblacaaW.PrintMore
abbrev Block := S88
def len {α : Type} (l : List α) : Int := (l.length : Int)
def smI (l : List Int) : Prop := l.length ≤ 1048576
end Go.Proofs.Ytjkbafcepblacaa.X
namespace Go.Proofs.Ytjkbafcepblacaa.X
open Go.RowKit Go.Proofs.YtjkbafcepblacaaW.PrintWords Go.Proofs.YtjkbafcepblacaaW.PrintLast Go.Proofs.YtjkbafcepblacaaW.PrintMore
attribute [local go_sem] max2_int min2_int max_two min_two max_three min_three max_four min_four   -- for this text's walks alone
set_option linter.unusedVariables false
set_option linter.unusedSimpArgs false
/-! ### spec_l1Copy: function 90 -/
def spec_l1Copy.f (l0 : List Int) : Option (List Int) := (some (([] : List Int) : List Int)).bind fun y103 => (if y103.length + l0.length < 17592186044416 then (some (y103 ++ l0)) else (none))
set_option maxHeartbeats 8000000 in
set_option maxRecDepth 100000 in
theorem spec_l1Copy.calls (A0 : Option Addr) (c0 : Nat) (l0 : List Int) (r : List Int) (w : World) (hr0 : Kd.C (Kd.int .i64) w A0 l0.length l0) (hc0 : l0.length ≤ c0) (h : spec_l1Copy.f l0 = some r) :
  Calls Try.prog 90 #[.slice A0 l0.length c0] w fun e w' => ∃ v0_ : Value, e = .returned (v0_) ∧ Kd.R (Kd.int .i64) 2 w' w.heap.size (fun _ => True) v0_ r ∧ Below w.heap.size w w' := by
 have HR0 := Aside0.mk hr0
 have HC0 := Aside0.mk hc0
 clear hr0 hc0
 have HB := Aside0.mk (Below.refl w.heap.size w)
 have H : ((some (([] : List Int) : List Int)).bind fun y103 => (if y103.length + l0.length < 17592186044416 then (some (y103 ++ l0)) else (none))) = some r := h
 clear h
 obtain ⟨y103, hy103⟩ : ∃ y_ : List Int, y_ = (([] : List Int)) := ⟨_, rfl⟩
 replace H : (if y103.length + l0.length < 17592186044416 then (some (y103 ++ l0)) else (none)) = some r := by first | (rw [hy103]; with_reducible exact H) | (have H2_ := (Option.bind_some _ _).symm.trans H; rw [hy103]; with_reducible exact H2_) | (have H2_ := (Option.bind_some _ _).symm.trans H; with_reducible exact H2_) | with_reducible exact H | (rw [hy103]; exact H) | exact H
 have Ny103 := Aside0.mk hy103
 clear hy103
 by_cases c2 : y103.length + l0.length < 17592186044416
 ·rw [if_pos c2] at H
  have LMc2 := Aside0.mk c2
  clear c2
  obtain ⟨y106, hy106⟩ : ∃ y_ : List Int, y_ = (y103 ++ l0) := ⟨_, rfl⟩
  replace H : (some y106) = some r := by first | (rw [hy106]; with_reducible exact H) | (have H2_ := (Option.bind_some _ _).symm.trans H; rw [hy106]; with_reducible exact H2_) | (have H2_ := (Option.bind_some _ _).symm.trans H; with_reducible exact H2_) | with_reducible exact H | (rw [hy106]; exact H) | exact H
  have Ny106 := Aside0.mk hy106
  clear hy106
  obtain rfl := Option.some.inj H
  go_enter Try.func90, Try.ntmps90
  go_wp2_with (first | ((with_reducible refine gate_dst (N := 3) rfl ?_); refine Kd.R_lit (Kd.int .i64) _ 2 ?hg (N := 3) ?hd (xs := ([] : List Int)) (inner := []) (ok := fun _ => True) (okp := fun _ => True) ?hr ?hp (fun _ hk => hk) trivial (Below.refl _ _) (Nat.le_refl _) (by simp) ?_; (case hd => rfl); (case hg => rfl); (case hr => first | (go_simp; done) | (go_simp; rfl)); (case hp => exact (Reps.none _ _)); intro v104 w3 ho4 hb hg_ hnew_; clear hg_ hnew_; (first | rw [← Ny103.out] at ho4 | (simp only [Int.reduceToNat] at ho4; rw [← Ny103.out] at ho4)); have n0_ := Aside0.mk (Kd.R_lower ho4 (below_size hB_)); have n1_ := Aside0.mk (below_step hB_ hb); clear HB; have HO105 := n0_; have HB := n1_; clear n0_ n1_; clear hb ho4) | ((with_reducible refine gate_builtin (b := .append) (xs := #[.tmp 3, .tmp 4]) rfl ?_); at_builtin; refine Kd.R_append_rows (Kd.int .i64) (w0 := w) w.heap.size rfl (.tmp 3) (.tmp 4) 22 2 (.int .i64 0) 8 rfl Try.underlying22 info2 rfl (by decide) (by omega) v104 y103 l0 _ _ _ (fun _ => True) (fun _ => False) rfl rfl ?aO ?aR (fun _ _ h => h) (fun _ h => h.elim) ?aF ?aB ?aS ?aL ?_; (case aR => exact cHR0_); (case aB => exact hB_); (case aF => exact (fun _ _ => trivial)); (case aO => exact rHO105_); (case aS => exact (below_size hB_)); (case aL => have := LMc2.out; omega); intro v107 w5 ho hb hg hat; rw [← Ny106.out] at ho; have n0_ := Aside0.mk (hb); have n1_ := Aside0.mk (ho); clear HB; clear HO105; have HB := n0_; have HO108 := n1_; clear n0_ n1_; clear ho hb hg hat))
  go_ret
  exact ⟨_, rG_, rHO108_, hB_⟩
 ·rw [if_neg c2] at H
  exact absurd H (by simp)
end Go.Proofs.Ytjkbafcepblacaa.X
namespace Go.Proofs.Ytjkbafcepblacaa.X
set_option linter.unusedVariables false
set_option linter.unusedSimpArgs false
open Go.RowKit Go.Proofs.YtjkbafcepblacaaW.PrintWords Go.Proofs.YtjkbafcepblacaaW.PrintLast Go.Proofs.YtjkbafcepblacaaW.PrintMore
theorem specIn_eq (a b c : Int) : spec_l1In.f a b c = some (decide (b ≤ a ∧ a ≤ c)) := by
  unfold spec_l1In.f
  by_cases h : a ≥ b
  · rw [if_pos h]; have h' : b ≤ a := h; simp [h']
  · rw [if_neg h]; have h' : ¬ b ≤ a := h; simp [h']
theorem implIn_eq (a b c : Int) : impl_within.f a b c = some (decide (b ≤ a ∧ a ≤ c)) := by
  unfold impl_within.f
  by_cases h : a ≥ b
  · rw [if_pos h]; have h' : b ≤ a := h; simp [h']
  · rw [if_neg h]; have h' : ¬ b ≤ a := h; simp [h']
end Go.Proofs.Ytjkbafcepblacaa.X
