/- PROVED HERE: what the functions that the law FnExactPredsOf reaches do in memory, each as a plain Lean function, and what these tell: part 3 of 5 of the proof of that law; no condition beyond those written out at each theorem. -/
import Derived.Deep.Slices
import Derived.ProofKit
import Derived.Test.YtobfgnjdcoidoaaZFnExactPredsOf0
import Derived.Test.YtobfgnjdcoidoaaZFnExactPredsOf1
namespace Go.Proofs.Ytobfgnjdcoidoaa.X
open Go.RowKit Go.Proofs.YtobfgnjdcoidoaaW.PrintWords Go.Proofs.YtobfgnjdcoidoaaW.PrintLast Go.Proofs.YtobfgnjdcoidoaaW.PrintMore
attribute [local go_sem] max2_int min2_int max_two min_two max_three min_three max_four min_four   -- for this text's walks alone
set_option linter.unusedVariables false
set_option linter.unusedSimpArgs false

/-! ### laws_eqBlockS: function 33 -/
def laws_eqBlockS.l0 : Nat → List (S80) → List (S80) → Int → Option (Bool)
 | 0, _, _, _ => none
 | k + 1, x0, x1, x5 => if x5 < (x0.length : Int) then (if 0 ≤ x5 then (if x5 < (x1.length : Int) then ((laws_eqBlock.f k ((rd_T80 x0 x5).f0) ((rd_T80 x0 x5).f1) ((rd_T80 x0 x5).f2.f0) ((rd_T80 x0 x5).f2.f1) ((rd_T80 x0 x5).f2.f2) ((rd_T80 x0 x5).f2.f3) ((rd_T80 x1 x5).f0) ((rd_T80 x1 x5).f1) ((rd_T80 x1 x5).f2.f0) ((rd_T80 x1 x5).f2.f1) ((rd_T80 x1 x5).f2.f2) ((rd_T80 x1 x5).f2.f3)).bind fun t289 => (if t289 = true then (laws_eqBlockS.l0 k x0 x1 (wrap64 (x5 + 1))) else (some false))) else (none)) else (none)) else (some true)
def laws_eqBlockS.f (k : Nat) (l0 : List (S80)) (l1 : List (S80)) : Option (Bool) := if (l0.length : Int) = (l1.length : Int) then (laws_eqBlockS.l0 k l0 l1 0) else (some false)
theorem laws_eqBlockS.mono_l : ∀ k, (∀ y0 y1 y2, LeO (laws_eqBlockS.l0 k y0 y1 y2) (laws_eqBlockS.l0 (k + 1) y0 y1 y2))
 | 0 => fun _ _ _ r h => by simp [laws_eqBlockS.l0] at h
 | k + 1 => by
  have ih0 := laws_eqBlockS.mono_l k
  ·intro y0 y1 y2
   unfold laws_eqBlockS.l0
   repeat' first
   | (with_reducible exact ih0 _ _ _)
   | (with_reducible exact laws_eqBlock.mono _ _ _ _ _ _ _ _ _ _ _ _ _)
   | (with_reducible exact LeO.refl _)
   | (with_reducible exact LeO.none _)
   | (with_reducible refine LeO.ite ?_ ?_)
   | (with_reducible refine LeO.bind ?_ (fun _ => ?_))
   | exact ih0 _ _ _
   | exact laws_eqBlock.mono _ _ _ _ _ _ _ _ _ _ _ _ _
   | exact LeO.none _
   | refine LeO.ite ?_ ?_
   | refine LeO.bind ?_ (fun _ => ?_)
theorem laws_eqBlockS.mono : ∀ a0 a1 k, LeO (laws_eqBlockS.f k a0 a1) (laws_eqBlockS.f (k + 1) a0 a1) := by
 intro a0 a1 k
 have ih0 := laws_eqBlockS.mono_l k
 unfold laws_eqBlockS.f
 repeat' first
   | (with_reducible exact ih0 _ _ _)
   | (with_reducible exact laws_eqBlock.mono _ _ _ _ _ _ _ _ _ _ _ _ _)
   | (with_reducible exact LeO.refl _)
   | (with_reducible exact LeO.none _)
   | (with_reducible refine LeO.ite ?_ ?_)
   | (with_reducible refine LeO.bind ?_ (fun _ => ?_))
   | exact ih0 _ _ _
   | exact laws_eqBlock.mono _ _ _ _ _ _ _ _ _ _ _ _ _
   | exact LeO.none _
   | refine LeO.ite ?_ ?_
   | refine LeO.bind ?_ (fun _ => ?_)
def laws_eqBlockS.T6 : Bool × List (List Nat × List Nat) := (true, [([], []), ([], []), ([0, 1], [0, 1]), ([2], [2]), ([], []), ([], []), ([4, 5], [4, 5]), ([6], [6]), ([3, 7], [3, 7]), ([8], [8])])
def laws_eqBlockS.B6 : List Nat := [0, 0, 3, 7, 0, 0, 48, 112, 255, 511]
theorem laws_eqBlockS.tab6 : rtab .any (opsOf Try.f33 6) = laws_eqBlockS.T6 := by kernel_rfl
theorem laws_eqBlockS.bits6 : waitsOk laws_eqBlockS.T6.2 laws_eqBlockS.B6 = true := by kernel_rfl
set_option maxHeartbeats 8000000 in
set_option maxRecDepth 100000 in
theorem laws_eqBlockS.calls (k : Nat) (A0 : Option Addr) (c0 : Nat) (l0 : List (S80)) (A1 : Option Addr) (c1 : Nat) (l1 : List (S80)) (r : Bool) (w : World) (hr0 : Kd.C k80 w A0 l0.length l0) (hc0 : l0.length ≤ c0) (hr1 : Kd.C k80 w A1 l1.length l1) (hc1 : l1.length ≤ c1) (h : laws_eqBlockS.f k l0 l1 = some r) :
  Calls Try.prog 33 #[.slice A0 l0.length c0, .slice A1 l1.length c1] w fun e w' => e = .returned (.bool r) ∧ Below w.heap.size w w' := by
 have hu80 := Try.underlying80
 have HR0 := Aside0.mk hr0
 have HC0 := Aside0.mk hc0
 clear hr0 hc0
 have HR1 := Aside0.mk hr1
 have HC1 := Aside0.mk hc1
 clear hr1 hc1
 have HB := Aside0.mk (Below.refl w.heap.size w)
 have H : (if (l0.length : Int) = (l1.length : Int) then (laws_eqBlockS.l0 k l0 l1 0) else (some false)) = some r := h
 clear h
 by_cases c3 : (l0.length : Int) = (l1.length : Int)
 ·rw [if_pos c3] at H
  have c3b0 : ((l0.length : Int) == (l1.length : Int)) = true := beq_iff_eq.mpr c3
  have c3b1 : ((l0.length : Int) != (l1.length : Int)) = false := bne_eq_false_iff_eq.mpr c3
  have c3b2 : (l0.length == l1.length) = true := by first | simpa using c3 | (simp at c3 ⊢; omega)
  clear c3
  have H' := Aside0.mk H
  clear H
  go_enter Try.func33, Try.ntmps33
  go_wp2
  go_loopg [5] k (fun kq v5 w' => ∃ (x5_1 : Int), v5 = .int .i64 x5_1 ∧ Aside0 (laws_eqBlockS.l0 kq l0 l1 x5_1 = some r) ∧ Aside0 (kq ≤ k) ∧ Aside0 (Below w.heap.size w w'))
  case atStart => exact ⟨(0), rF_, H', ⟨Nat.le_refl _⟩, ⟨hB_⟩⟩
  case round =>
   clear H'
   try clear c1
   try clear p2
   try clear c3
   try clear c3b0
   try clear c3b1
   try clear c3b2
   obtain ⟨x5_1, rfl, HA, HK1, HB⟩ := hrel
   cases gk with
   | zero => exact absurd HA.out (by simp [laws_eqBlockS.l0])
   | succ k1 =>
    have H := HA.out
    clear HA
    simp only [laws_eqBlockS.l0] at H
    by_cases c4 : x5_1 < (l0.length : Int)
    ·rw [if_pos c4] at H
     have c4b0 : decide (x5_1 < (l0.length : Int)) = true := decide_eq_true c4
     clear c4
     by_cases c5 : 0 ≤ x5_1
     ·rw [if_pos c5] at H
      have c5b0 : decide (0 ≤ x5_1) = true := decide_eq_true c5
      clear c5
      by_cases c6 : x5_1 < (l1.length : Int)
      ·rw [if_pos c6] at H
       have c6b0 : decide (x5_1 < (l1.length : Int)) = true := decide_eq_true c6
       clear c6
       replace H := Option.bind_eq_some_iff.mp H
       obtain ⟨t289, A70, H⟩ := H
       replace H : (if t289 = true then (laws_eqBlockS.l0 k1 l0 l1 (wrap64 (x5_1 + 1))) else (some false)) = some r := H
       have A7 := Aside0.mk A70
       clear A70
       by_cases c8 : t289 = true
       ·subst c8
        have H1 := (if_pos rfl).symm.trans H
        clear H
        have H := H1
        clear H1
        have H' := Aside0.mk H
        clear H
        try go_wp2
        have n0_ := Aside0.mk (below_drew1 HB.out)
        clear HB
        have HB := n0_
        clear n0_
        have p287 : 0 ≤ (x5_1 : Int) := oD_
        have q287 : x5_1 < (l0.length : Int) := oD_
        obtain ⟨ad287, A287_0, c287_0, A287_1, c287_1, e287, hx287_0, hx287_1, hx287_2, hx287_3, hx287_4, hx287_5, hl287_0, hi287_0, hl287_1, hi287_1⟩ := at_T80 HR0.out x5_1 p287 q287
        have hw287_5 := hx287_5
        have hw287_4 := hx287_4
        have hw287_3 := hx287_3
        have hw287_2 := hx287_2
        have hw287_1 := hx287_1
        have hw287_0 := hx287_0
        cases e287
        replace hx287_0 := (HB.out.cell (World.block_lt_of_cell? w _ hx287_0)).trans hx287_0
        replace hx287_1 := (HB.out.cell (World.block_lt_of_cell? w _ hx287_1)).trans hx287_1
        replace hx287_2 := (HB.out.cell (World.block_lt_of_cell? w _ hx287_2)).trans hx287_2
        replace hx287_3 := (HB.out.cell (World.block_lt_of_cell? w _ hx287_3)).trans hx287_3
        replace hx287_4 := (HB.out.cell (World.block_lt_of_cell? w _ hx287_4)).trans hx287_4
        replace hx287_5 := (HB.out.cell (World.block_lt_of_cell? w _ hx287_5)).trans hx287_5
        have HR287_0 := Aside0.mk hi287_0
        have HC287_0 := Aside0.mk hl287_0
        clear hi287_0 hl287_0
        have HR287_1 := Aside0.mk hi287_1
        have HC287_1 := Aside0.mk hl287_1
        clear hi287_1 hl287_1
        replace p287 := eq_true p287
        replace q287 := eq_true q287
        have p288 : 0 ≤ (x5_1 : Int) := oD_
        have q288 : x5_1 < (l1.length : Int) := oD_
        obtain ⟨ad288, A288_0, c288_0, A288_1, c288_1, e288, hx288_0, hx288_1, hx288_2, hx288_3, hx288_4, hx288_5, hl288_0, hi288_0, hl288_1, hi288_1⟩ := at_T80 HR1.out x5_1 p288 q288
        have hw288_5 := hx288_5
        have hw288_4 := hx288_4
        have hw288_3 := hx288_3
        have hw288_2 := hx288_2
        have hw288_1 := hx288_1
        have hw288_0 := hx288_0
        cases e288
        replace hx288_0 := (HB.out.cell (World.block_lt_of_cell? w _ hx288_0)).trans hx288_0
        replace hx288_1 := (HB.out.cell (World.block_lt_of_cell? w _ hx288_1)).trans hx288_1
        replace hx288_2 := (HB.out.cell (World.block_lt_of_cell? w _ hx288_2)).trans hx288_2
        replace hx288_3 := (HB.out.cell (World.block_lt_of_cell? w _ hx288_3)).trans hx288_3
        replace hx288_4 := (HB.out.cell (World.block_lt_of_cell? w _ hx288_4)).trans hx288_4
        replace hx288_5 := (HB.out.cell (World.block_lt_of_cell? w _ hx288_5)).trans hx288_5
        have HR288_0 := Aside0.mk hi288_0
        have HC288_0 := Aside0.mk hl288_0
        clear hi288_0 hl288_0
        have HR288_1 := Aside0.mk hi288_1
        have HC288_1 := Aside0.mk hl288_1
        clear hi288_1 hl288_1
        replace p288 := eq_true p288
        replace q288 := eq_true q288
        refine start_ (n := 10) (S := fun w' => w'.cell? (ad287.add ((x5_1).toNat * 6)) = some (.slice A287_0 ((rd_T80 l0 x5_1).f0).length c287_0) ∧ w'.cell? ⟨(ad287.add ((x5_1).toNat * 6)).block, (ad287.add ((x5_1).toNat * 6)).off + 1, none⟩ = some (.slice A287_1 ((rd_T80 l0 x5_1).f1).length c287_1) ∧ w'.cell? ⟨(ad287.add ((x5_1).toNat * 6)).block, (ad287.add ((x5_1).toNat * 6)).off + 2, none⟩ = some (.int .i64 ((rd_T80 l0 x5_1).f2.f0)) ∧ w'.cell? ⟨(ad287.add ((x5_1).toNat * 6)).block, (ad287.add ((x5_1).toNat * 6)).off + 3, none⟩ = some (.int .i64 ((rd_T80 l0 x5_1).f2.f1)) ∧ w'.cell? ⟨(ad287.add ((x5_1).toNat * 6)).block, (ad287.add ((x5_1).toNat * 6)).off + 4, none⟩ = some (.int .i64 ((rd_T80 l0 x5_1).f2.f2)) ∧ w'.cell? ⟨(ad287.add ((x5_1).toNat * 6)).block, (ad287.add ((x5_1).toNat * 6)).off + 5, none⟩ = some (.int .i64 ((rd_T80 l0 x5_1).f2.f3)) ∧ w'.cell? (ad288.add ((x5_1).toNat * 6)) = some (.slice A288_0 ((rd_T80 l1 x5_1).f0).length c288_0) ∧ w'.cell? ⟨(ad288.add ((x5_1).toNat * 6)).block, (ad288.add ((x5_1).toNat * 6)).off + 1, none⟩ = some (.slice A288_1 ((rd_T80 l1 x5_1).f1).length c288_1) ∧ w'.cell? ⟨(ad288.add ((x5_1).toNat * 6)).block, (ad288.add ((x5_1).toNat * 6)).off + 2, none⟩ = some (.int .i64 ((rd_T80 l1 x5_1).f2.f0)) ∧ w'.cell? ⟨(ad288.add ((x5_1).toNat * 6)).block, (ad288.add ((x5_1).toNat * 6)).off + 3, none⟩ = some (.int .i64 ((rd_T80 l1 x5_1).f2.f1)) ∧ w'.cell? ⟨(ad288.add ((x5_1).toNat * 6)).block, (ad288.add ((x5_1).toNat * 6)).off + 4, none⟩ = some (.int .i64 ((rd_T80 l1 x5_1).f2.f2)) ∧ w'.cell? ⟨(ad288.add ((x5_1).toNat * 6)).block, (ad288.add ((x5_1).toNat * 6)).off + 5, none⟩ = some (.int .i64 ((rd_T80 l1 x5_1).f2.f3))) (ds := []) #[false, false, false, false, false, false, false, false, false, false] (by kernel_rfl) rfl rfl ⟨((HB.out.cell (World.block_lt_of_cell? w _ hw287_0)).trans hw287_0), ((HB.out.cell (World.block_lt_of_cell? w _ hw287_1)).trans hw287_1), ((HB.out.cell (World.block_lt_of_cell? w _ hw287_2)).trans hw287_2), ((HB.out.cell (World.block_lt_of_cell? w _ hw287_3)).trans hw287_3), ((HB.out.cell (World.block_lt_of_cell? w _ hw287_4)).trans hw287_4), ((HB.out.cell (World.block_lt_of_cell? w _ hw287_5)).trans hw287_5), ((HB.out.cell (World.block_lt_of_cell? w _ hw288_0)).trans hw288_0), ((HB.out.cell (World.block_lt_of_cell? w _ hw288_1)).trans hw288_1), ((HB.out.cell (World.block_lt_of_cell? w _ hw288_2)).trans hw288_2), ((HB.out.cell (World.block_lt_of_cell? w _ hw288_3)).trans hw288_3), ((HB.out.cell (World.block_lt_of_cell? w _ hw288_4)).trans hw288_4), ((HB.out.cell (World.block_lt_of_cell? w _ hw288_5)).trans hw288_5)⟩ (fun hHeld => ?_); refine with_tabW laws_eqBlockS.tab6 laws_eqBlockS.bits6 (fun HT_ HW_ => ?_)
        generalize wr.drew = w9 at HB HR287_0 HR287_1 HR288_0 HR288_1 hx287_0 hx287_1 hx287_2 hx287_3 hx287_4 hx287_5 hx288_0 hx288_1 hx288_2 hx288_3 hx288_4 hx288_5 hHeld ⊢
        refine pure_ (i := 0) (N := some 17) (v := ?_) (a' := ?_) #[true, false, false, false, false, false, false, false, false, false] rfl rfl (any_of HT_.out (by kernel_rfl)) (fun _ _ _ h => h) (Or.inl ⟨by rfl, ?_⟩) ?_ ?_
        rotate_left
        ·intro w'
         go_simp
         with_reducible rfl
        rotate_left
        ·simp only [Act.put, List.setIfInBounds_toArray, List.set_cons_zero, List.set_cons_succ, i64_w, i32_w]
         rfl
        refine pure_ (i := 1) (N := some 18) (v := ?_) (a' := ?_) #[true, true, false, false, false, false, false, false, false, false] rfl rfl (any_of HT_.out (by kernel_rfl)) (fun _ _ _ h => h) (Or.inl ⟨by rfl, ?_⟩) ?_ ?_
        rotate_left
        ·intro w'
         go_simp
         with_reducible rfl
        rotate_left
        ·simp only [Act.put, List.setIfInBounds_toArray, List.set_cons_zero, List.set_cons_succ, i64_w, i32_w]
         rfl
        refine pure_ (i := 2) (N := some 19) (v := ?_) (a' := ?_) #[true, true, true, false, false, false, false, false, false, false] rfl rfl (any_of HT_.out (by kernel_rfl)) (fun _ _ _ h => h) (Or.inl ⟨by rfl, ?_⟩) ?_ ?_
        rotate_left
        ·intro w'
         go_simp
         with_reducible rfl
        rotate_left
        ·simp only [Act.put, List.setIfInBounds_toArray, List.set_cons_zero, List.set_cons_succ, i64_w, i32_w]
         rfl
        refine pure_ (i := 4) (N := some 21) (v := ?_) (a' := ?_) #[true, true, true, false, true, false, false, false, false, false] rfl rfl (any_of HT_.out (by kernel_rfl)) (fun _ _ _ h => h) (Or.inl ⟨by rfl, ?_⟩) ?_ ?_
        rotate_left
        ·intro w'
         go_simp
         with_reducible rfl
        rotate_left
        ·simp only [Act.put, List.setIfInBounds_toArray, List.set_cons_zero, List.set_cons_succ, i64_w, i32_w]
         rfl
        refine pure_ (i := 5) (N := some 22) (v := ?_) (a' := ?_) #[true, true, true, false, true, true, false, false, false, false] rfl rfl (any_of HT_.out (by kernel_rfl)) (fun _ _ _ h => h) (Or.inl ⟨by rfl, ?_⟩) ?_ ?_
        rotate_left
        ·intro w'
         go_simp
         with_reducible rfl
        rotate_left
        ·simp only [Act.put, List.setIfInBounds_toArray, List.set_cons_zero, List.set_cons_succ, i64_w, i32_w]
         rfl
        refine pure_ (i := 6) (N := some 23) (v := ?_) (a' := ?_) #[true, true, true, false, true, true, true, false, false, false] rfl rfl (any_of HT_.out (by kernel_rfl)) (fun _ _ _ h => h) (Or.inl ⟨by rfl, ?_⟩) ?_ ?_
        rotate_left
        ·intro w'
         go_simp
         with_reducible rfl
        rotate_left
        ·simp only [Act.put, List.setIfInBounds_toArray, List.set_cons_zero, List.set_cons_succ, i64_w, i32_w]
         rfl
        refine take_ (i := 3) (N := some 20) (v := ?_) (a' := ?_) #[true, true, true, true, true, true, true, false, false, false] rfl rfl (take_ofW HT_.out HW_.out (by kernel_rfl)) (fun _ _ _ h => h) (Or.inl ⟨by rfl, ?_⟩) hHeld ?_ ?_
        rotate_left
        ·rintro w' ⟨s0, s1, s2, s3, s4, s5, s6, s7, s8, s9, s10, s11⟩
         go_simp
         with_reducible rfl
        rotate_left
        ·simp only [Act.put, List.setIfInBounds_toArray, List.set_cons_zero, List.set_cons_succ, i64_w, i32_w]
         rfl
        refine take_ (i := 7) (N := some 24) (v := ?_) (a' := ?_) #[true, true, true, true, true, true, true, true, false, false] rfl rfl (take_ofW HT_.out HW_.out (by kernel_rfl)) (fun _ _ _ h => h) (Or.inl ⟨by rfl, ?_⟩) hHeld ?_ ?_
        rotate_left
        ·rintro w' ⟨s0, s1, s2, s3, s4, s5, s6, s7, s8, s9, s10, s11⟩
         go_simp
         with_reducible rfl
        rotate_left
        ·simp only [Act.put, List.setIfInBounds_toArray, List.set_cons_zero, List.set_cons_succ, i64_w, i32_w]
         rfl
        refine one_ (i := 8) (N := some 25) #[true, true, true, true, true, true, true, true, true, false] rfl rfl (one_of HT_.out (by kernel_rfl)) (by decide) (fun K hK => ?_)
        refine goes_ Try.func56 (by kernel_rfl) rfl #[.agg #[.slice A287_0 ((rd_T80 l0 x5_1).f0).length c287_0, .slice A287_1 ((rd_T80 l0 x5_1).f1).length c287_1, .int .i64 ((rd_T80 l0 x5_1).f2.f0), .int .i64 ((rd_T80 l0 x5_1).f2.f1), .int .i64 ((rd_T80 l0 x5_1).f2.f2), .int .i64 ((rd_T80 l0 x5_1).f2.f3)], .agg #[.slice A288_0 ((rd_T80 l1 x5_1).f0).length c288_0, .slice A288_1 ((rd_T80 l1 x5_1).f1).length c288_1, .int .i64 ((rd_T80 l1 x5_1).f2.f0), .int .i64 ((rd_T80 l1 x5_1).f2.f1), .int .i64 ((rd_T80 l1 x5_1).f2.f2), .int .i64 ((rd_T80 l1 x5_1).f2.f3)]] (by rfl) rfl rfl (by (try simp only [List.map_toArray, List.map_cons, List.map_nil]); first | done | rfl | (simp only [List.length_drop, List.length_take]; rfl)) ?_
        with_reducible refine (laws_eqBlock.calls k1 _ _ ((rd_T80 l0 x5_1).f0) _ _ ((rd_T80 l0 x5_1).f1) ((rd_T80 l0 x5_1).f2.f0) ((rd_T80 l0 x5_1).f2.f1) ((rd_T80 l0 x5_1).f2.f2) ((rd_T80 l0 x5_1).f2.f3) _ _ ((rd_T80 l1 x5_1).f0) _ _ ((rd_T80 l1 x5_1).f1) ((rd_T80 l1 x5_1).f2.f0) ((rd_T80 l1 x5_1).f2.f1) ((rd_T80 l1 x5_1).f2.f2) ((rd_T80 l1 x5_1).f2.f3) true _ ?side1 ?side2 ?side3 ?side4 ?side5 ?side6 ?side7 ?side8 A7.out).mono ?_
        (case side1 => repeat (first | exact (Kd.C_below HR287_0.out HB.out) | (with_reducible refine Kd.C_alloc ?_ _) | (with_reducible refine Kd.C_drewN ?_ _) | (with_reducible refine Kd.C_drew ?_)))
        (case side2 => exact HC287_0.out)
        (case side3 => repeat (first | exact (Kd.C_below HR287_1.out HB.out) | (with_reducible refine Kd.C_alloc ?_ _) | (with_reducible refine Kd.C_drewN ?_ _) | (with_reducible refine Kd.C_drew ?_)))
        (case side4 => exact HC287_1.out)
        (case side5 => repeat (first | exact (Kd.C_below HR288_0.out HB.out) | (with_reducible refine Kd.C_alloc ?_ _) | (with_reducible refine Kd.C_drewN ?_ _) | (with_reducible refine Kd.C_drew ?_)))
        (case side6 => exact HC288_0.out)
        (case side7 => repeat (first | exact (Kd.C_below HR288_1.out HB.out) | (with_reducible refine Kd.C_alloc ?_ _) | (with_reducible refine Kd.C_drewN ?_ _) | (with_reducible refine Kd.C_drew ?_)))
        (case side8 => exact HC288_1.out)
        rintro e w10 ⟨rfl, hb⟩
        refine ⟨_, rfl, ?_⟩
        have n0_ := Aside0.mk (below_step hB_ hb)
        clear HB
        have HB := n0_
        clear n0_
        (try clear hb)
        (try clear hb2)
        (try clear hk)
        (try clear hi)
        refine hK.out _ _ ⟨((HB.out.cell (World.block_lt_of_cell? w _ hw287_0)).trans hw287_0), ((HB.out.cell (World.block_lt_of_cell? w _ hw287_1)).trans hw287_1), ((HB.out.cell (World.block_lt_of_cell? w _ hw287_2)).trans hw287_2), ((HB.out.cell (World.block_lt_of_cell? w _ hw287_3)).trans hw287_3), ((HB.out.cell (World.block_lt_of_cell? w _ hw287_4)).trans hw287_4), ((HB.out.cell (World.block_lt_of_cell? w _ hw287_5)).trans hw287_5), ((HB.out.cell (World.block_lt_of_cell? w _ hw288_0)).trans hw288_0), ((HB.out.cell (World.block_lt_of_cell? w _ hw288_1)).trans hw288_1), ((HB.out.cell (World.block_lt_of_cell? w _ hw288_2)).trans hw288_2), ((HB.out.cell (World.block_lt_of_cell? w _ hw288_3)).trans hw288_3), ((HB.out.cell (World.block_lt_of_cell? w _ hw288_4)).trans hw288_4), ((HB.out.cell (World.block_lt_of_cell? w _ hw288_5)).trans hw288_5)⟩ (fun hHeld => ?_)
        clear hK K
        refine norm_ (a' := ?_) ?_ ?_
        rotate_left
        ·show Act.put _ (some 25) _ = _
         simp only [Act.put, List.setIfInBounds_toArray, List.set_cons_zero, List.set_cons_succ, i64_w, i32_w]
         rfl
        refine pure_ (i := 9) (N := some 26) (v := ?_) (a' := ?_) #[true, true, true, true, true, true, true, true, true, true] rfl rfl (any_of HT_.out (by kernel_rfl)) (fun _ _ _ h => h) (Or.inl ⟨by rfl, ?_⟩) ?_ ?_
        rotate_left
        ·intro w'
         go_simp
         with_reducible rfl
        rotate_left
        ·simp only [Act.put, List.setIfInBounds_toArray, List.set_cons_zero, List.set_cons_succ, i64_w, i32_w]
         rfl
        refine done_ (done_of HT_.out (by kernel_rfl)) ?_
        try go_wp2
        go_roundg k1
        case measure => have := HK1.out; omega
        case rel => exact ⟨(wrap64 (x5_1 + 1)), rF_, H', ⟨by have := HK1.out; omega⟩, ⟨hB_⟩⟩
       ·replace c8 := Bool.eq_false_iff.mpr c8
        subst c8
        have H1 := (if_neg (show ¬ (false = true) by decide)).symm.trans H
        clear H
        have H := H1
        clear H1
        obtain rfl := Option.some.inj H
        try go_wp2
        have n0_ := Aside0.mk (below_drew1 HB.out)
        clear HB
        have HB := n0_
        clear n0_
        have p287 : 0 ≤ (x5_1 : Int) := oD_
        have q287 : x5_1 < (l0.length : Int) := oD_
        obtain ⟨ad287, A287_0, c287_0, A287_1, c287_1, e287, hx287_0, hx287_1, hx287_2, hx287_3, hx287_4, hx287_5, hl287_0, hi287_0, hl287_1, hi287_1⟩ := at_T80 HR0.out x5_1 p287 q287
        have hw287_5 := hx287_5
        have hw287_4 := hx287_4
        have hw287_3 := hx287_3
        have hw287_2 := hx287_2
        have hw287_1 := hx287_1
        have hw287_0 := hx287_0
        cases e287
        replace hx287_0 := (HB.out.cell (World.block_lt_of_cell? w _ hx287_0)).trans hx287_0
        replace hx287_1 := (HB.out.cell (World.block_lt_of_cell? w _ hx287_1)).trans hx287_1
        replace hx287_2 := (HB.out.cell (World.block_lt_of_cell? w _ hx287_2)).trans hx287_2
        replace hx287_3 := (HB.out.cell (World.block_lt_of_cell? w _ hx287_3)).trans hx287_3
        replace hx287_4 := (HB.out.cell (World.block_lt_of_cell? w _ hx287_4)).trans hx287_4
        replace hx287_5 := (HB.out.cell (World.block_lt_of_cell? w _ hx287_5)).trans hx287_5
        have HR287_0 := Aside0.mk hi287_0
        have HC287_0 := Aside0.mk hl287_0
        clear hi287_0 hl287_0
        have HR287_1 := Aside0.mk hi287_1
        have HC287_1 := Aside0.mk hl287_1
        clear hi287_1 hl287_1
        replace p287 := eq_true p287
        replace q287 := eq_true q287
        have p288 : 0 ≤ (x5_1 : Int) := oD_
        have q288 : x5_1 < (l1.length : Int) := oD_
        obtain ⟨ad288, A288_0, c288_0, A288_1, c288_1, e288, hx288_0, hx288_1, hx288_2, hx288_3, hx288_4, hx288_5, hl288_0, hi288_0, hl288_1, hi288_1⟩ := at_T80 HR1.out x5_1 p288 q288
        have hw288_5 := hx288_5
        have hw288_4 := hx288_4
        have hw288_3 := hx288_3
        have hw288_2 := hx288_2
        have hw288_1 := hx288_1
        have hw288_0 := hx288_0
        cases e288
        replace hx288_0 := (HB.out.cell (World.block_lt_of_cell? w _ hx288_0)).trans hx288_0
        replace hx288_1 := (HB.out.cell (World.block_lt_of_cell? w _ hx288_1)).trans hx288_1
        replace hx288_2 := (HB.out.cell (World.block_lt_of_cell? w _ hx288_2)).trans hx288_2
        replace hx288_3 := (HB.out.cell (World.block_lt_of_cell? w _ hx288_3)).trans hx288_3
        replace hx288_4 := (HB.out.cell (World.block_lt_of_cell? w _ hx288_4)).trans hx288_4
        replace hx288_5 := (HB.out.cell (World.block_lt_of_cell? w _ hx288_5)).trans hx288_5
        have HR288_0 := Aside0.mk hi288_0
        have HC288_0 := Aside0.mk hl288_0
        clear hi288_0 hl288_0
        have HR288_1 := Aside0.mk hi288_1
        have HC288_1 := Aside0.mk hl288_1
        clear hi288_1 hl288_1
        replace p288 := eq_true p288
        replace q288 := eq_true q288
        refine start_ (n := 10) (S := fun w' => w'.cell? (ad287.add ((x5_1).toNat * 6)) = some (.slice A287_0 ((rd_T80 l0 x5_1).f0).length c287_0) ∧ w'.cell? ⟨(ad287.add ((x5_1).toNat * 6)).block, (ad287.add ((x5_1).toNat * 6)).off + 1, none⟩ = some (.slice A287_1 ((rd_T80 l0 x5_1).f1).length c287_1) ∧ w'.cell? ⟨(ad287.add ((x5_1).toNat * 6)).block, (ad287.add ((x5_1).toNat * 6)).off + 2, none⟩ = some (.int .i64 ((rd_T80 l0 x5_1).f2.f0)) ∧ w'.cell? ⟨(ad287.add ((x5_1).toNat * 6)).block, (ad287.add ((x5_1).toNat * 6)).off + 3, none⟩ = some (.int .i64 ((rd_T80 l0 x5_1).f2.f1)) ∧ w'.cell? ⟨(ad287.add ((x5_1).toNat * 6)).block, (ad287.add ((x5_1).toNat * 6)).off + 4, none⟩ = some (.int .i64 ((rd_T80 l0 x5_1).f2.f2)) ∧ w'.cell? ⟨(ad287.add ((x5_1).toNat * 6)).block, (ad287.add ((x5_1).toNat * 6)).off + 5, none⟩ = some (.int .i64 ((rd_T80 l0 x5_1).f2.f3)) ∧ w'.cell? (ad288.add ((x5_1).toNat * 6)) = some (.slice A288_0 ((rd_T80 l1 x5_1).f0).length c288_0) ∧ w'.cell? ⟨(ad288.add ((x5_1).toNat * 6)).block, (ad288.add ((x5_1).toNat * 6)).off + 1, none⟩ = some (.slice A288_1 ((rd_T80 l1 x5_1).f1).length c288_1) ∧ w'.cell? ⟨(ad288.add ((x5_1).toNat * 6)).block, (ad288.add ((x5_1).toNat * 6)).off + 2, none⟩ = some (.int .i64 ((rd_T80 l1 x5_1).f2.f0)) ∧ w'.cell? ⟨(ad288.add ((x5_1).toNat * 6)).block, (ad288.add ((x5_1).toNat * 6)).off + 3, none⟩ = some (.int .i64 ((rd_T80 l1 x5_1).f2.f1)) ∧ w'.cell? ⟨(ad288.add ((x5_1).toNat * 6)).block, (ad288.add ((x5_1).toNat * 6)).off + 4, none⟩ = some (.int .i64 ((rd_T80 l1 x5_1).f2.f2)) ∧ w'.cell? ⟨(ad288.add ((x5_1).toNat * 6)).block, (ad288.add ((x5_1).toNat * 6)).off + 5, none⟩ = some (.int .i64 ((rd_T80 l1 x5_1).f2.f3))) (ds := []) #[false, false, false, false, false, false, false, false, false, false] (by kernel_rfl) rfl rfl ⟨((HB.out.cell (World.block_lt_of_cell? w _ hw287_0)).trans hw287_0), ((HB.out.cell (World.block_lt_of_cell? w _ hw287_1)).trans hw287_1), ((HB.out.cell (World.block_lt_of_cell? w _ hw287_2)).trans hw287_2), ((HB.out.cell (World.block_lt_of_cell? w _ hw287_3)).trans hw287_3), ((HB.out.cell (World.block_lt_of_cell? w _ hw287_4)).trans hw287_4), ((HB.out.cell (World.block_lt_of_cell? w _ hw287_5)).trans hw287_5), ((HB.out.cell (World.block_lt_of_cell? w _ hw288_0)).trans hw288_0), ((HB.out.cell (World.block_lt_of_cell? w _ hw288_1)).trans hw288_1), ((HB.out.cell (World.block_lt_of_cell? w _ hw288_2)).trans hw288_2), ((HB.out.cell (World.block_lt_of_cell? w _ hw288_3)).trans hw288_3), ((HB.out.cell (World.block_lt_of_cell? w _ hw288_4)).trans hw288_4), ((HB.out.cell (World.block_lt_of_cell? w _ hw288_5)).trans hw288_5)⟩ (fun hHeld => ?_); refine with_tabW laws_eqBlockS.tab6 laws_eqBlockS.bits6 (fun HT_ HW_ => ?_)
        generalize wr.drew = w11 at HB HR287_0 HR287_1 HR288_0 HR288_1 hx287_0 hx287_1 hx287_2 hx287_3 hx287_4 hx287_5 hx288_0 hx288_1 hx288_2 hx288_3 hx288_4 hx288_5 hHeld ⊢
        refine pure_ (i := 0) (N := some 17) (v := ?_) (a' := ?_) #[true, false, false, false, false, false, false, false, false, false] rfl rfl (any_of HT_.out (by kernel_rfl)) (fun _ _ _ h => h) (Or.inl ⟨by rfl, ?_⟩) ?_ ?_
        rotate_left
        ·intro w'
         go_simp
         with_reducible rfl
        rotate_left
        ·simp only [Act.put, List.setIfInBounds_toArray, List.set_cons_zero, List.set_cons_succ, i64_w, i32_w]
         rfl
        refine pure_ (i := 1) (N := some 18) (v := ?_) (a' := ?_) #[true, true, false, false, false, false, false, false, false, false] rfl rfl (any_of HT_.out (by kernel_rfl)) (fun _ _ _ h => h) (Or.inl ⟨by rfl, ?_⟩) ?_ ?_
        rotate_left
        ·intro w'
         go_simp
         with_reducible rfl
        rotate_left
        ·simp only [Act.put, List.setIfInBounds_toArray, List.set_cons_zero, List.set_cons_succ, i64_w, i32_w]
         rfl
        refine pure_ (i := 2) (N := some 19) (v := ?_) (a' := ?_) #[true, true, true, false, false, false, false, false, false, false] rfl rfl (any_of HT_.out (by kernel_rfl)) (fun _ _ _ h => h) (Or.inl ⟨by rfl, ?_⟩) ?_ ?_
        rotate_left
        ·intro w'
         go_simp
         with_reducible rfl
        rotate_left
        ·simp only [Act.put, List.setIfInBounds_toArray, List.set_cons_zero, List.set_cons_succ, i64_w, i32_w]
         rfl
        refine pure_ (i := 4) (N := some 21) (v := ?_) (a' := ?_) #[true, true, true, false, true, false, false, false, false, false] rfl rfl (any_of HT_.out (by kernel_rfl)) (fun _ _ _ h => h) (Or.inl ⟨by rfl, ?_⟩) ?_ ?_
        rotate_left
        ·intro w'
         go_simp
         with_reducible rfl
        rotate_left
        ·simp only [Act.put, List.setIfInBounds_toArray, List.set_cons_zero, List.set_cons_succ, i64_w, i32_w]
         rfl
        refine pure_ (i := 5) (N := some 22) (v := ?_) (a' := ?_) #[true, true, true, false, true, true, false, false, false, false] rfl rfl (any_of HT_.out (by kernel_rfl)) (fun _ _ _ h => h) (Or.inl ⟨by rfl, ?_⟩) ?_ ?_
        rotate_left
        ·intro w'
         go_simp
         with_reducible rfl
        rotate_left
        ·simp only [Act.put, List.setIfInBounds_toArray, List.set_cons_zero, List.set_cons_succ, i64_w, i32_w]
         rfl
        refine pure_ (i := 6) (N := some 23) (v := ?_) (a' := ?_) #[true, true, true, false, true, true, true, false, false, false] rfl rfl (any_of HT_.out (by kernel_rfl)) (fun _ _ _ h => h) (Or.inl ⟨by rfl, ?_⟩) ?_ ?_
        rotate_left
        ·intro w'
         go_simp
         with_reducible rfl
        rotate_left
        ·simp only [Act.put, List.setIfInBounds_toArray, List.set_cons_zero, List.set_cons_succ, i64_w, i32_w]
         rfl
        refine take_ (i := 3) (N := some 20) (v := ?_) (a' := ?_) #[true, true, true, true, true, true, true, false, false, false] rfl rfl (take_ofW HT_.out HW_.out (by kernel_rfl)) (fun _ _ _ h => h) (Or.inl ⟨by rfl, ?_⟩) hHeld ?_ ?_
        rotate_left
        ·rintro w' ⟨s0, s1, s2, s3, s4, s5, s6, s7, s8, s9, s10, s11⟩
         go_simp
         with_reducible rfl
        rotate_left
        ·simp only [Act.put, List.setIfInBounds_toArray, List.set_cons_zero, List.set_cons_succ, i64_w, i32_w]
         rfl
        refine take_ (i := 7) (N := some 24) (v := ?_) (a' := ?_) #[true, true, true, true, true, true, true, true, false, false] rfl rfl (take_ofW HT_.out HW_.out (by kernel_rfl)) (fun _ _ _ h => h) (Or.inl ⟨by rfl, ?_⟩) hHeld ?_ ?_
        rotate_left
        ·rintro w' ⟨s0, s1, s2, s3, s4, s5, s6, s7, s8, s9, s10, s11⟩
         go_simp
         with_reducible rfl
        rotate_left
        ·simp only [Act.put, List.setIfInBounds_toArray, List.set_cons_zero, List.set_cons_succ, i64_w, i32_w]
         rfl
        refine one_ (i := 8) (N := some 25) #[true, true, true, true, true, true, true, true, true, false] rfl rfl (one_of HT_.out (by kernel_rfl)) (by decide) (fun K hK => ?_)
        refine goes_ Try.func56 (by kernel_rfl) rfl #[.agg #[.slice A287_0 ((rd_T80 l0 x5_1).f0).length c287_0, .slice A287_1 ((rd_T80 l0 x5_1).f1).length c287_1, .int .i64 ((rd_T80 l0 x5_1).f2.f0), .int .i64 ((rd_T80 l0 x5_1).f2.f1), .int .i64 ((rd_T80 l0 x5_1).f2.f2), .int .i64 ((rd_T80 l0 x5_1).f2.f3)], .agg #[.slice A288_0 ((rd_T80 l1 x5_1).f0).length c288_0, .slice A288_1 ((rd_T80 l1 x5_1).f1).length c288_1, .int .i64 ((rd_T80 l1 x5_1).f2.f0), .int .i64 ((rd_T80 l1 x5_1).f2.f1), .int .i64 ((rd_T80 l1 x5_1).f2.f2), .int .i64 ((rd_T80 l1 x5_1).f2.f3)]] (by rfl) rfl rfl (by (try simp only [List.map_toArray, List.map_cons, List.map_nil]); first | done | rfl | (simp only [List.length_drop, List.length_take]; rfl)) ?_
        with_reducible refine (laws_eqBlock.calls k1 _ _ ((rd_T80 l0 x5_1).f0) _ _ ((rd_T80 l0 x5_1).f1) ((rd_T80 l0 x5_1).f2.f0) ((rd_T80 l0 x5_1).f2.f1) ((rd_T80 l0 x5_1).f2.f2) ((rd_T80 l0 x5_1).f2.f3) _ _ ((rd_T80 l1 x5_1).f0) _ _ ((rd_T80 l1 x5_1).f1) ((rd_T80 l1 x5_1).f2.f0) ((rd_T80 l1 x5_1).f2.f1) ((rd_T80 l1 x5_1).f2.f2) ((rd_T80 l1 x5_1).f2.f3) false _ ?side1 ?side2 ?side3 ?side4 ?side5 ?side6 ?side7 ?side8 A7.out).mono ?_
        (case side1 => repeat (first | exact (Kd.C_below HR287_0.out HB.out) | (with_reducible refine Kd.C_alloc ?_ _) | (with_reducible refine Kd.C_drewN ?_ _) | (with_reducible refine Kd.C_drew ?_)))
        (case side2 => exact HC287_0.out)
        (case side3 => repeat (first | exact (Kd.C_below HR287_1.out HB.out) | (with_reducible refine Kd.C_alloc ?_ _) | (with_reducible refine Kd.C_drewN ?_ _) | (with_reducible refine Kd.C_drew ?_)))
        (case side4 => exact HC287_1.out)
        (case side5 => repeat (first | exact (Kd.C_below HR288_0.out HB.out) | (with_reducible refine Kd.C_alloc ?_ _) | (with_reducible refine Kd.C_drewN ?_ _) | (with_reducible refine Kd.C_drew ?_)))
        (case side6 => exact HC288_0.out)
        (case side7 => repeat (first | exact (Kd.C_below HR288_1.out HB.out) | (with_reducible refine Kd.C_alloc ?_ _) | (with_reducible refine Kd.C_drewN ?_ _) | (with_reducible refine Kd.C_drew ?_)))
        (case side8 => exact HC288_1.out)
        rintro e w12 ⟨rfl, hb⟩
        refine ⟨_, rfl, ?_⟩
        have n0_ := Aside0.mk (below_step hB_ hb)
        clear HB
        have HB := n0_
        clear n0_
        (try clear hb)
        (try clear hb2)
        (try clear hk)
        (try clear hi)
        refine hK.out _ _ ⟨((HB.out.cell (World.block_lt_of_cell? w _ hw287_0)).trans hw287_0), ((HB.out.cell (World.block_lt_of_cell? w _ hw287_1)).trans hw287_1), ((HB.out.cell (World.block_lt_of_cell? w _ hw287_2)).trans hw287_2), ((HB.out.cell (World.block_lt_of_cell? w _ hw287_3)).trans hw287_3), ((HB.out.cell (World.block_lt_of_cell? w _ hw287_4)).trans hw287_4), ((HB.out.cell (World.block_lt_of_cell? w _ hw287_5)).trans hw287_5), ((HB.out.cell (World.block_lt_of_cell? w _ hw288_0)).trans hw288_0), ((HB.out.cell (World.block_lt_of_cell? w _ hw288_1)).trans hw288_1), ((HB.out.cell (World.block_lt_of_cell? w _ hw288_2)).trans hw288_2), ((HB.out.cell (World.block_lt_of_cell? w _ hw288_3)).trans hw288_3), ((HB.out.cell (World.block_lt_of_cell? w _ hw288_4)).trans hw288_4), ((HB.out.cell (World.block_lt_of_cell? w _ hw288_5)).trans hw288_5)⟩ (fun hHeld => ?_)
        clear hK K
        refine norm_ (a' := ?_) ?_ ?_
        rotate_left
        ·show Act.put _ (some 25) _ = _
         simp only [Act.put, List.setIfInBounds_toArray, List.set_cons_zero, List.set_cons_succ, i64_w, i32_w]
         rfl
        refine pure_ (i := 9) (N := some 26) (v := ?_) (a' := ?_) #[true, true, true, true, true, true, true, true, true, true] rfl rfl (any_of HT_.out (by kernel_rfl)) (fun _ _ _ h => h) (Or.inl ⟨by rfl, ?_⟩) ?_ ?_
        rotate_left
        ·intro w'
         go_simp
         with_reducible rfl
        rotate_left
        ·simp only [Act.put, List.setIfInBounds_toArray, List.set_cons_zero, List.set_cons_succ, i64_w, i32_w]
         rfl
        refine done_ (done_of HT_.out (by kernel_rfl)) ?_
        try go_wp2
        go_ret
        exact ⟨rG_, hB_⟩
      ·rw [if_neg c6] at H
       exact absurd H (by simp)
     ·rw [if_neg c5] at H
      exact absurd H (by simp)
    ·rw [if_neg c4] at H
     have c4b0 : decide (x5_1 < (l0.length : Int)) = false := decide_eq_false c4
     clear c4
     obtain rfl := Option.some.inj H
     go_wp2
     go_ret
     exact ⟨rG_, hB_⟩
 ·rw [if_neg c3] at H
  have c3b0 : ((l0.length : Int) == (l1.length : Int)) = false := beq_eq_false_iff_ne.mpr c3
  have c3b1 : ((l0.length : Int) != (l1.length : Int)) = true := bne_iff_ne.mpr c3
  have c3b2 : (l0.length == l1.length) = false := by first | simpa using c3 | (simp at c3 ⊢; omega)
  obtain rfl := Option.some.inj H
  go_enter Try.func33, Try.ntmps33
  go_wp2
  go_ret
  exact ⟨rG_, hB_⟩

end Go.Proofs.Ytobfgnjdcoidoaa.X
namespace Go.Proofs.Ytobfgnjdcoidoaa.X
open Go.RowKit Go.Proofs.YtobfgnjdcoidoaaW.PrintWords Go.Proofs.YtobfgnjdcoidoaaW.PrintLast Go.Proofs.YtobfgnjdcoidoaaW.PrintMore
attribute [local go_sem] max2_int min2_int max_two min_two max_three min_three max_four min_four   -- for this text's walks alone
set_option linter.unusedVariables false
set_option linter.unusedSimpArgs false

/-! ### laws_eqFunc: function 12 -/
def laws_eqFunc.f (k : Nat) (l0_0 : List Int) (a0_1 : Int) (l0_2 : List (S80)) (l1_0 : List Int) (a1_1 : Int) (l1_2 : List (S80)) : Option (Bool) := (laws_eqInt64S.f k l0_0 l1_0).bind fun t292 => (if t292 = true then (if a0_1 = a1_1 then ((laws_eqBlockS.f k l0_2 l1_2).bind fun t293 => (if t293 = true then (some true) else (some false))) else (some false)) else (some false))
theorem laws_eqFunc.mono : ∀ a0 a1 a2 a3 a4 a5 k, LeO (laws_eqFunc.f k a0 a1 a2 a3 a4 a5) (laws_eqFunc.f (k + 1) a0 a1 a2 a3 a4 a5) := by
 intro a0 a1 a2 a3 a4 a5 k
 unfold laws_eqFunc.f
 repeat' first
   | (with_reducible exact laws_eqBlockS.mono _ _ _)
   | (with_reducible exact laws_eqInt64S.mono _ _ _)
   | (with_reducible exact LeO.refl _)
   | (with_reducible exact LeO.none _)
   | (with_reducible refine LeO.ite ?_ ?_)
   | (with_reducible refine LeO.bind ?_ (fun _ => ?_))
   | exact laws_eqBlockS.mono _ _ _
   | exact laws_eqInt64S.mono _ _ _
   | exact LeO.none _
   | refine LeO.ite ?_ ?_
   | refine LeO.bind ?_ (fun _ => ?_)
set_option maxHeartbeats 8000000 in
set_option maxRecDepth 100000 in
theorem laws_eqFunc.calls (k : Nat) (A0_0 : Option Addr) (c0_0 : Nat) (l0_0 : List Int) (a0_1 : Int) (A0_2 : Option Addr) (c0_2 : Nat) (l0_2 : List (S80)) (A1_0 : Option Addr) (c1_0 : Nat) (l1_0 : List Int) (a1_1 : Int) (A1_2 : Option Addr) (c1_2 : Nat) (l1_2 : List (S80)) (r : Bool) (w : World) (hr0_0 : Kd.C (Kd.int .i64) w A0_0 l0_0.length l0_0) (hc0_0 : l0_0.length ≤ c0_0) (hr0_2 : Kd.C k80 w A0_2 l0_2.length l0_2) (hc0_2 : l0_2.length ≤ c0_2) (hr1_0 : Kd.C (Kd.int .i64) w A1_0 l1_0.length l1_0) (hc1_0 : l1_0.length ≤ c1_0) (hr1_2 : Kd.C k80 w A1_2 l1_2.length l1_2) (hc1_2 : l1_2.length ≤ c1_2) (h : laws_eqFunc.f k l0_0 a0_1 l0_2 l1_0 a1_1 l1_2 = some r) :
  Calls Try.prog 12 #[.agg #[.slice A0_0 l0_0.length c0_0, .int .i64 a0_1, .slice A0_2 l0_2.length c0_2], .agg #[.slice A1_0 l1_0.length c1_0, .int .i64 a1_1, .slice A1_2 l1_2.length c1_2]] w fun e w' => e = .returned (.bool r) ∧ Below w.heap.size w w' := by
 have hu30 := Try.underlying30
 have HR0_0 := Aside0.mk hr0_0
 have HC0_0 := Aside0.mk hc0_0
 clear hr0_0 hc0_0
 have HR0_2 := Aside0.mk hr0_2
 have HC0_2 := Aside0.mk hc0_2
 clear hr0_2 hc0_2
 have HR1_0 := Aside0.mk hr1_0
 have HC1_0 := Aside0.mk hc1_0
 clear hr1_0 hc1_0
 have HR1_2 := Aside0.mk hr1_2
 have HC1_2 := Aside0.mk hc1_2
 clear hr1_2 hc1_2
 have HB := Aside0.mk (Below.refl w.heap.size w)
 have H : ((laws_eqInt64S.f k l0_0 l1_0).bind fun t292 => (if t292 = true then (if a0_1 = a1_1 then ((laws_eqBlockS.f k l0_2 l1_2).bind fun t293 => (if t293 = true then (some true) else (some false))) else (some false)) else (some false))) = some r := h
 clear h
 replace H := Option.bind_eq_some_iff.mp H
 obtain ⟨t292, A30, H⟩ := H
 replace H : (if t292 = true then (if a0_1 = a1_1 then ((laws_eqBlockS.f k l0_2 l1_2).bind fun t293 => (if t293 = true then (some true) else (some false))) else (some false)) else (some false)) = some r := H
 have A3 := Aside0.mk A30
 clear A30
 by_cases c4 : t292 = true
 ·subst c4
  have H1 := (if_pos rfl).symm.trans H
  clear H
  have H := H1
  clear H1
  by_cases c5 : a0_1 = a1_1
  ·rw [if_pos c5] at H
   have c5b0 : (a0_1 == a1_1) = true := beq_iff_eq.mpr c5
   have c5b1 : (a0_1 != a1_1) = false := bne_eq_false_iff_eq.mpr c5
   clear c5
   replace H := Option.bind_eq_some_iff.mp H
   obtain ⟨t293, A60, H⟩ := H
   replace H : (if t293 = true then (some true) else (some false)) = some r := H
   have A6 := Aside0.mk A60
   clear A60
   by_cases c7 : t293 = true
   ·subst c7
    have H1 := (if_pos rfl).symm.trans H
    clear H
    have H := H1
    clear H1
    obtain rfl := Option.some.inj H
    go_enter Try.func12, Try.ntmps12
    go_wp2_with (first | ((with_reducible refine gate_dst (N := 2) rfl ?_); refine box_event ?hg (N := 2) ?hd (cs := #[.slice A0_0 l0_0.length c0_0, .int .i64 a0_1, .slice A0_2 l0_2.length c0_2]) (t := 30) ?hr ?_; (case hd => rfl); (case hg => rfl); (case hr => first | (go_simp; done) | (go_simp; rfl)); intro gb290 hg w8 hbox hb; have n0_ := Aside0.mk (below_step hB_ hb); have n1_ := Aside0.mk (hbox); have n2_ := Aside0.mk ((by rw [hg]; exact (below_size hB_) : w.heap.size ≤ gb290)); have n3_ := Aside0.mk ((by rw [hg]; exact (below_size hB_) : w.heap.size ≤ gb290)); clear HB; have HB := n0_; have BK290 := n1_; have GW290 := n2_; have GE290 := n3_; clear n0_ n1_ n2_ n3_; clear hb hbox hg) | ((with_reducible refine gate_dst (N := 3) rfl ?_); refine box_event ?hg (N := 3) ?hd (cs := #[.slice A1_0 l1_0.length c1_0, .int .i64 a1_1, .slice A1_2 l1_2.length c1_2]) (t := 30) ?hr ?_; (case hd => rfl); (case hg => rfl); (case hr => first | (go_simp; done) | (go_simp; rfl)); intro gb291 hg w9 hbox hb; have n0_ := Aside0.mk (blk_below (g := gb290) (o := .cells #[.slice A0_0 l0_0.length c0_0, .int .i64 a0_1, .slice A0_2 l0_2.length c0_2] 30 (0, 0)) bK290_ hb); have n1_ := Aside0.mk (below_step hS_ hb); have n2_ := Aside0.mk (hbox); have n3_ := Aside0.mk ((by rw [hg]; exact (below_size hS_) : w.heap.size ≤ gb291)); have n4_ := Aside0.mk ((by rw [hg]; exact (below_size hS_) : w.heap.size ≤ gb291)); have n5_ := Aside0.mk ((by rw [hg]; exact Nat.ne_of_lt (blk_lt (g := gb290) (o := .cells #[.slice A0_0 l0_0.length c0_0, .int .i64 a0_1, .slice A0_2 l0_2.length c0_2] 30 (0, 0)) bK290_) : gb290 ≠ gb291)); have n6_ := Aside0.mk ((by rw [hg]; exact Nat.ne_of_gt (blk_lt (g := gb290) (o := .cells #[.slice A0_0 l0_0.length c0_0, .int .i64 a0_1, .slice A0_2 l0_2.length c0_2] 30 (0, 0)) bK290_) : gb291 ≠ gb290)); clear BK290; clear HB; have BK290 := n0_; have HB := n1_; have BK291 := n2_; have GW291 := n3_; have GE291 := n4_; have NB290_291 := n5_; have NB291_290 := n6_; clear n0_ n1_ n2_ n3_ n4_ n5_ n6_; clear hb hbox hg; have hnb10 := NB290_291.out; have hnc10 := NB291_290.out; obtain ⟨hcz11_0, hcz11_1, hcz11_2, hfz11_0, hfz11_1, hfz11_2⟩ := blkc3_ BK290.out; obtain ⟨hcz12_0, hcz12_1, hcz12_2, hfz12_0, hfz12_1, hfz12_2⟩ := blkc3_ BK291.out) | ((with_reducible refine gate_callee (f := 11) rfl ?_); refine gL_ (some 9) Try.func11 #[.slice A0_0 l0_0.length c0_0, .slice A1_0 l1_0.length c1_0] ?_; (with_reducible refine (laws_eqInt64S.calls k _ _ l0_0 _ _ l1_0 true _ ?side1 ?side2 ?side3 ?side4 A3.out).mono ?_); (case side1 => repeat (first | exact (Kd.C_below HR0_0.out HB.out) | (with_reducible refine Kd.C_alloc ?_ _) | (with_reducible refine Kd.C_drewN ?_ _) | (with_reducible refine Kd.C_drew ?_))); (case side2 => exact HC0_0.out); (case side3 => repeat (first | exact (Kd.C_below HR1_0.out HB.out) | (with_reducible refine Kd.C_alloc ?_ _) | (with_reducible refine Kd.C_drewN ?_ _) | (with_reducible refine Kd.C_drew ?_))); (case side4 => exact HC1_0.out); rintro e w' ⟨rfl, ⟨nd, rfl⟩⟩; refine ⟨_, rfl, ?_⟩) | ((with_reducible refine gate_callee (f := 33) rfl ?_); refine gL_ (some 20) Try.func33 #[.slice A0_2 l0_2.length c0_2, .slice A1_2 l1_2.length c1_2] ?_; (with_reducible refine (laws_eqBlockS.calls k _ _ l0_2 _ _ l1_2 true _ ?side1 ?side2 ?side3 ?side4 A6.out).mono ?_); (case side1 => repeat (first | exact (Kd.C_below HR0_2.out hS_) | (with_reducible refine Kd.C_alloc ?_ _) | (with_reducible refine Kd.C_drewN ?_ _) | (with_reducible refine Kd.C_drew ?_))); (case side2 => exact HC0_2.out); (case side3 => repeat (first | exact (Kd.C_below HR1_2.out hS_) | (with_reducible refine Kd.C_alloc ?_ _) | (with_reducible refine Kd.C_drewN ?_ _) | (with_reducible refine Kd.C_drew ?_))); (case side4 => exact HC1_2.out); rintro e w13 ⟨rfl, hb⟩; refine ⟨_, rfl, ?_⟩; have n0_ := Aside0.mk (blk_below (g := gb290) (o := .cells #[.slice A0_0 l0_0.length c0_0, .int .i64 a0_1, .slice A0_2 l0_2.length c0_2] 30 (0, 0)) bK290_ hb); have n1_ := Aside0.mk (blk_below (g := gb291) (o := .cells #[.slice A1_0 l1_0.length c1_0, .int .i64 a1_1, .slice A1_2 l1_2.length c1_2] 30 (0, 0)) bK291_ hb); have n2_ := Aside0.mk (below_step hS_ hb); clear BK290; clear BK291; clear HB; have BK290 := n0_; have BK291 := n1_; have HB := n2_; clear n0_ n1_ n2_; (try clear hb); (try clear hb2); (try clear hk); (try clear hi)))
    go_ret
    exact ⟨rG_, hS_⟩
   ·replace c7 := Bool.eq_false_iff.mpr c7
    subst c7
    have H1 := (if_neg (show ¬ (false = true) by decide)).symm.trans H
    clear H
    have H := H1
    clear H1
    obtain rfl := Option.some.inj H
    go_enter Try.func12, Try.ntmps12
    go_wp2_with (first | ((with_reducible refine gate_dst (N := 2) rfl ?_); refine box_event ?hg (N := 2) ?hd (cs := #[.slice A0_0 l0_0.length c0_0, .int .i64 a0_1, .slice A0_2 l0_2.length c0_2]) (t := 30) ?hr ?_; (case hd => rfl); (case hg => rfl); (case hr => first | (go_simp; done) | (go_simp; rfl)); intro gb290 hg w14 hbox hb; have n0_ := Aside0.mk (below_step hB_ hb); have n1_ := Aside0.mk (hbox); have n2_ := Aside0.mk ((by rw [hg]; exact (below_size hB_) : w.heap.size ≤ gb290)); have n3_ := Aside0.mk ((by rw [hg]; exact (below_size hB_) : w.heap.size ≤ gb290)); clear HB; have HB := n0_; have BK290 := n1_; have GW290 := n2_; have GE290 := n3_; clear n0_ n1_ n2_ n3_; clear hb hbox hg) | ((with_reducible refine gate_dst (N := 3) rfl ?_); refine box_event ?hg (N := 3) ?hd (cs := #[.slice A1_0 l1_0.length c1_0, .int .i64 a1_1, .slice A1_2 l1_2.length c1_2]) (t := 30) ?hr ?_; (case hd => rfl); (case hg => rfl); (case hr => first | (go_simp; done) | (go_simp; rfl)); intro gb291 hg w15 hbox hb; have n0_ := Aside0.mk (blk_below (g := gb290) (o := .cells #[.slice A0_0 l0_0.length c0_0, .int .i64 a0_1, .slice A0_2 l0_2.length c0_2] 30 (0, 0)) bK290_ hb); have n1_ := Aside0.mk (below_step hS_ hb); have n2_ := Aside0.mk (hbox); have n3_ := Aside0.mk ((by rw [hg]; exact (below_size hS_) : w.heap.size ≤ gb291)); have n4_ := Aside0.mk ((by rw [hg]; exact (below_size hS_) : w.heap.size ≤ gb291)); have n5_ := Aside0.mk ((by rw [hg]; exact Nat.ne_of_lt (blk_lt (g := gb290) (o := .cells #[.slice A0_0 l0_0.length c0_0, .int .i64 a0_1, .slice A0_2 l0_2.length c0_2] 30 (0, 0)) bK290_) : gb290 ≠ gb291)); have n6_ := Aside0.mk ((by rw [hg]; exact Nat.ne_of_gt (blk_lt (g := gb290) (o := .cells #[.slice A0_0 l0_0.length c0_0, .int .i64 a0_1, .slice A0_2 l0_2.length c0_2] 30 (0, 0)) bK290_) : gb291 ≠ gb290)); clear BK290; clear HB; have BK290 := n0_; have HB := n1_; have BK291 := n2_; have GW291 := n3_; have GE291 := n4_; have NB290_291 := n5_; have NB291_290 := n6_; clear n0_ n1_ n2_ n3_ n4_ n5_ n6_; clear hb hbox hg; have hnb16 := NB290_291.out; have hnc16 := NB291_290.out; obtain ⟨hcz17_0, hcz17_1, hcz17_2, hfz17_0, hfz17_1, hfz17_2⟩ := blkc3_ BK290.out; obtain ⟨hcz18_0, hcz18_1, hcz18_2, hfz18_0, hfz18_1, hfz18_2⟩ := blkc3_ BK291.out) | ((with_reducible refine gate_callee (f := 11) rfl ?_); refine gL_ (some 9) Try.func11 #[.slice A0_0 l0_0.length c0_0, .slice A1_0 l1_0.length c1_0] ?_; (with_reducible refine (laws_eqInt64S.calls k _ _ l0_0 _ _ l1_0 true _ ?side1 ?side2 ?side3 ?side4 A3.out).mono ?_); (case side1 => repeat (first | exact (Kd.C_below HR0_0.out HB.out) | (with_reducible refine Kd.C_alloc ?_ _) | (with_reducible refine Kd.C_drewN ?_ _) | (with_reducible refine Kd.C_drew ?_))); (case side2 => exact HC0_0.out); (case side3 => repeat (first | exact (Kd.C_below HR1_0.out HB.out) | (with_reducible refine Kd.C_alloc ?_ _) | (with_reducible refine Kd.C_drewN ?_ _) | (with_reducible refine Kd.C_drew ?_))); (case side4 => exact HC1_0.out); rintro e w' ⟨rfl, ⟨nd, rfl⟩⟩; refine ⟨_, rfl, ?_⟩) | ((with_reducible refine gate_callee (f := 33) rfl ?_); refine gL_ (some 20) Try.func33 #[.slice A0_2 l0_2.length c0_2, .slice A1_2 l1_2.length c1_2] ?_; (with_reducible refine (laws_eqBlockS.calls k _ _ l0_2 _ _ l1_2 false _ ?side1 ?side2 ?side3 ?side4 A6.out).mono ?_); (case side1 => repeat (first | exact (Kd.C_below HR0_2.out hS_) | (with_reducible refine Kd.C_alloc ?_ _) | (with_reducible refine Kd.C_drewN ?_ _) | (with_reducible refine Kd.C_drew ?_))); (case side2 => exact HC0_2.out); (case side3 => repeat (first | exact (Kd.C_below HR1_2.out hS_) | (with_reducible refine Kd.C_alloc ?_ _) | (with_reducible refine Kd.C_drewN ?_ _) | (with_reducible refine Kd.C_drew ?_))); (case side4 => exact HC1_2.out); rintro e w19 ⟨rfl, hb⟩; refine ⟨_, rfl, ?_⟩; have n0_ := Aside0.mk (blk_below (g := gb290) (o := .cells #[.slice A0_0 l0_0.length c0_0, .int .i64 a0_1, .slice A0_2 l0_2.length c0_2] 30 (0, 0)) bK290_ hb); have n1_ := Aside0.mk (blk_below (g := gb291) (o := .cells #[.slice A1_0 l1_0.length c1_0, .int .i64 a1_1, .slice A1_2 l1_2.length c1_2] 30 (0, 0)) bK291_ hb); have n2_ := Aside0.mk (below_step hS_ hb); clear BK290; clear BK291; clear HB; have BK290 := n0_; have BK291 := n1_; have HB := n2_; clear n0_ n1_ n2_; (try clear hb); (try clear hb2); (try clear hk); (try clear hi)))
    go_ret
    exact ⟨rG_, hS_⟩
  ·rw [if_neg c5] at H
   have c5b0 : (a0_1 == a1_1) = false := beq_eq_false_iff_ne.mpr c5
   have c5b1 : (a0_1 != a1_1) = true := bne_iff_ne.mpr c5
   obtain rfl := Option.some.inj H
   go_enter Try.func12, Try.ntmps12
   go_wp2_with (first | ((with_reducible refine gate_dst (N := 2) rfl ?_); refine box_event ?hg (N := 2) ?hd (cs := #[.slice A0_0 l0_0.length c0_0, .int .i64 a0_1, .slice A0_2 l0_2.length c0_2]) (t := 30) ?hr ?_; (case hd => rfl); (case hg => rfl); (case hr => first | (go_simp; done) | (go_simp; rfl)); intro gb290 hg w20 hbox hb; have n0_ := Aside0.mk (below_step hB_ hb); have n1_ := Aside0.mk (hbox); have n2_ := Aside0.mk ((by rw [hg]; exact (below_size hB_) : w.heap.size ≤ gb290)); have n3_ := Aside0.mk ((by rw [hg]; exact (below_size hB_) : w.heap.size ≤ gb290)); clear HB; have HB := n0_; have BK290 := n1_; have GW290 := n2_; have GE290 := n3_; clear n0_ n1_ n2_ n3_; clear hb hbox hg) | ((with_reducible refine gate_dst (N := 3) rfl ?_); refine box_event ?hg (N := 3) ?hd (cs := #[.slice A1_0 l1_0.length c1_0, .int .i64 a1_1, .slice A1_2 l1_2.length c1_2]) (t := 30) ?hr ?_; (case hd => rfl); (case hg => rfl); (case hr => first | (go_simp; done) | (go_simp; rfl)); intro gb291 hg w21 hbox hb; have n0_ := Aside0.mk (blk_below (g := gb290) (o := .cells #[.slice A0_0 l0_0.length c0_0, .int .i64 a0_1, .slice A0_2 l0_2.length c0_2] 30 (0, 0)) bK290_ hb); have n1_ := Aside0.mk (below_step hS_ hb); have n2_ := Aside0.mk (hbox); have n3_ := Aside0.mk ((by rw [hg]; exact (below_size hS_) : w.heap.size ≤ gb291)); have n4_ := Aside0.mk ((by rw [hg]; exact (below_size hS_) : w.heap.size ≤ gb291)); have n5_ := Aside0.mk ((by rw [hg]; exact Nat.ne_of_lt (blk_lt (g := gb290) (o := .cells #[.slice A0_0 l0_0.length c0_0, .int .i64 a0_1, .slice A0_2 l0_2.length c0_2] 30 (0, 0)) bK290_) : gb290 ≠ gb291)); have n6_ := Aside0.mk ((by rw [hg]; exact Nat.ne_of_gt (blk_lt (g := gb290) (o := .cells #[.slice A0_0 l0_0.length c0_0, .int .i64 a0_1, .slice A0_2 l0_2.length c0_2] 30 (0, 0)) bK290_) : gb291 ≠ gb290)); clear BK290; clear HB; have BK290 := n0_; have HB := n1_; have BK291 := n2_; have GW291 := n3_; have GE291 := n4_; have NB290_291 := n5_; have NB291_290 := n6_; clear n0_ n1_ n2_ n3_ n4_ n5_ n6_; clear hb hbox hg; have hnb22 := NB290_291.out; have hnc22 := NB291_290.out; obtain ⟨hcz23_0, hcz23_1, hcz23_2, hfz23_0, hfz23_1, hfz23_2⟩ := blkc3_ BK290.out; obtain ⟨hcz24_0, hcz24_1, hcz24_2, hfz24_0, hfz24_1, hfz24_2⟩ := blkc3_ BK291.out) | ((with_reducible refine gate_callee (f := 11) rfl ?_); refine gL_ (some 9) Try.func11 #[.slice A0_0 l0_0.length c0_0, .slice A1_0 l1_0.length c1_0] ?_; (with_reducible refine (laws_eqInt64S.calls k _ _ l0_0 _ _ l1_0 true _ ?side1 ?side2 ?side3 ?side4 A3.out).mono ?_); (case side1 => repeat (first | exact (Kd.C_below HR0_0.out HB.out) | (with_reducible refine Kd.C_alloc ?_ _) | (with_reducible refine Kd.C_drewN ?_ _) | (with_reducible refine Kd.C_drew ?_))); (case side2 => exact HC0_0.out); (case side3 => repeat (first | exact (Kd.C_below HR1_0.out HB.out) | (with_reducible refine Kd.C_alloc ?_ _) | (with_reducible refine Kd.C_drewN ?_ _) | (with_reducible refine Kd.C_drew ?_))); (case side4 => exact HC1_0.out); rintro e w' ⟨rfl, ⟨nd, rfl⟩⟩; refine ⟨_, rfl, ?_⟩))
   go_ret
   exact ⟨rG_, hS_⟩
 ·replace c4 := Bool.eq_false_iff.mpr c4
  subst c4
  have H1 := (if_neg (show ¬ (false = true) by decide)).symm.trans H
  clear H
  have H := H1
  clear H1
  obtain rfl := Option.some.inj H
  go_enter Try.func12, Try.ntmps12
  go_wp2_with (first | ((with_reducible refine gate_dst (N := 2) rfl ?_); refine box_event ?hg (N := 2) ?hd (cs := #[.slice A0_0 l0_0.length c0_0, .int .i64 a0_1, .slice A0_2 l0_2.length c0_2]) (t := 30) ?hr ?_; (case hd => rfl); (case hg => rfl); (case hr => first | (go_simp; done) | (go_simp; rfl)); intro gb290 hg w25 hbox hb; have n0_ := Aside0.mk (below_step hB_ hb); have n1_ := Aside0.mk (hbox); have n2_ := Aside0.mk ((by rw [hg]; exact (below_size hB_) : w.heap.size ≤ gb290)); have n3_ := Aside0.mk ((by rw [hg]; exact (below_size hB_) : w.heap.size ≤ gb290)); clear HB; have HB := n0_; have BK290 := n1_; have GW290 := n2_; have GE290 := n3_; clear n0_ n1_ n2_ n3_; clear hb hbox hg) | ((with_reducible refine gate_dst (N := 3) rfl ?_); refine box_event ?hg (N := 3) ?hd (cs := #[.slice A1_0 l1_0.length c1_0, .int .i64 a1_1, .slice A1_2 l1_2.length c1_2]) (t := 30) ?hr ?_; (case hd => rfl); (case hg => rfl); (case hr => first | (go_simp; done) | (go_simp; rfl)); intro gb291 hg w26 hbox hb; have n0_ := Aside0.mk (blk_below (g := gb290) (o := .cells #[.slice A0_0 l0_0.length c0_0, .int .i64 a0_1, .slice A0_2 l0_2.length c0_2] 30 (0, 0)) bK290_ hb); have n1_ := Aside0.mk (below_step hS_ hb); have n2_ := Aside0.mk (hbox); have n3_ := Aside0.mk ((by rw [hg]; exact (below_size hS_) : w.heap.size ≤ gb291)); have n4_ := Aside0.mk ((by rw [hg]; exact (below_size hS_) : w.heap.size ≤ gb291)); have n5_ := Aside0.mk ((by rw [hg]; exact Nat.ne_of_lt (blk_lt (g := gb290) (o := .cells #[.slice A0_0 l0_0.length c0_0, .int .i64 a0_1, .slice A0_2 l0_2.length c0_2] 30 (0, 0)) bK290_) : gb290 ≠ gb291)); have n6_ := Aside0.mk ((by rw [hg]; exact Nat.ne_of_gt (blk_lt (g := gb290) (o := .cells #[.slice A0_0 l0_0.length c0_0, .int .i64 a0_1, .slice A0_2 l0_2.length c0_2] 30 (0, 0)) bK290_) : gb291 ≠ gb290)); clear BK290; clear HB; have BK290 := n0_; have HB := n1_; have BK291 := n2_; have GW291 := n3_; have GE291 := n4_; have NB290_291 := n5_; have NB291_290 := n6_; clear n0_ n1_ n2_ n3_ n4_ n5_ n6_; clear hb hbox hg; have hnb27 := NB290_291.out; have hnc27 := NB291_290.out; obtain ⟨hcz28_0, hcz28_1, hcz28_2, hfz28_0, hfz28_1, hfz28_2⟩ := blkc3_ BK290.out; obtain ⟨hcz29_0, hcz29_1, hcz29_2, hfz29_0, hfz29_1, hfz29_2⟩ := blkc3_ BK291.out) | ((with_reducible refine gate_callee (f := 11) rfl ?_); refine gL_ (some 9) Try.func11 #[.slice A0_0 l0_0.length c0_0, .slice A1_0 l1_0.length c1_0] ?_; (with_reducible refine (laws_eqInt64S.calls k _ _ l0_0 _ _ l1_0 false _ ?side1 ?side2 ?side3 ?side4 A3.out).mono ?_); (case side1 => repeat (first | exact (Kd.C_below HR0_0.out HB.out) | (with_reducible refine Kd.C_alloc ?_ _) | (with_reducible refine Kd.C_drewN ?_ _) | (with_reducible refine Kd.C_drew ?_))); (case side2 => exact HC0_0.out); (case side3 => repeat (first | exact (Kd.C_below HR1_0.out HB.out) | (with_reducible refine Kd.C_alloc ?_ _) | (with_reducible refine Kd.C_drewN ?_ _) | (with_reducible refine Kd.C_drew ?_))); (case side4 => exact HC1_0.out); rintro e w' ⟨rfl, ⟨nd, rfl⟩⟩; refine ⟨_, rfl, ?_⟩))
  go_ret
  exact ⟨rG_, hS_⟩

end Go.Proofs.Ytobfgnjdcoidoaa.X
namespace Go.Proofs.Ytobfgnjdcoidoaa.X
open Go.RowKit Go.Proofs.YtobfgnjdcoidoaaW.PrintWords Go.Proofs.YtobfgnjdcoidoaaW.PrintLast Go.Proofs.YtobfgnjdcoidoaaW.PrintMore
attribute [local go_sem] max2_int min2_int max_two min_two max_three min_three max_four min_four   -- for this text's walks alone
set_option linter.unusedVariables false
set_option linter.unusedSimpArgs false

/-! ### laws_markInt64S: function 14 -/
def laws_markInt64S.l0 : Nat → List Int → Int → Int → Option (Int × List Int)
 | 0, _, _, _ => none
 | k + 1, x0, x1, x5 => if x5 < (x0.length : Int) then (if 0 ≤ x5 then (laws_markInt64S.l0 k (x0.set (x5 : Int).toNat x1) (wrap64 (x1 + 1)) (wrap64 (x5 + 1))) else (none)) else (some (x1, x0))
def laws_markInt64S.f (k : Nat) (l0 : List Int) (a1 : Int) : Option (Int × List Int) := laws_markInt64S.l0 k l0 a1 0
theorem laws_markInt64S.mono_l : ∀ k, (∀ y0 y1 y2, LeO (laws_markInt64S.l0 k y0 y1 y2) (laws_markInt64S.l0 (k + 1) y0 y1 y2))
 | 0 => fun _ _ _ r h => by simp [laws_markInt64S.l0] at h
 | k + 1 => by
  have ih0 := laws_markInt64S.mono_l k
  ·intro y0 y1 y2
   unfold laws_markInt64S.l0
   repeat' first
   | (with_reducible exact ih0 _ _ _)
   | (with_reducible exact LeO.refl _)
   | (with_reducible exact LeO.none _)
   | (with_reducible refine LeO.ite ?_ ?_)
   | (with_reducible refine LeO.bind ?_ (fun _ => ?_))
   | exact ih0 _ _ _
   | exact LeO.none _
   | refine LeO.ite ?_ ?_
   | refine LeO.bind ?_ (fun _ => ?_)
theorem laws_markInt64S.mono : ∀ a0 a1 k, LeO (laws_markInt64S.f k a0 a1) (laws_markInt64S.f (k + 1) a0 a1) := by
 intro a0 a1 k
 have ih0 := laws_markInt64S.mono_l k
 unfold laws_markInt64S.f
 repeat' first
   | (with_reducible exact ih0 _ _ _)
   | (with_reducible exact LeO.refl _)
   | (with_reducible exact LeO.none _)
   | (with_reducible refine LeO.ite ?_ ?_)
   | (with_reducible refine LeO.bind ?_ (fun _ => ?_))
   | exact ih0 _ _ _
   | exact LeO.none _
   | refine LeO.ite ?_ ?_
   | refine LeO.bind ?_ (fun _ => ?_)
set_option maxHeartbeats 8000000 in
set_option maxRecDepth 100000 in
theorem laws_markInt64S.calls (k : Nat) (P0_ : Nat → Prop) (u9000_ : Value) (l0 : List Int) (a1 : Int) (r1 : Int) (r2 : List Int) (w0 w : World) (hB : Below w0.heap.size w0 w) (ho0 : Kd.R (Kd.int .i64) 2 w w0.heap.size P0_ u9000_ l0) (h : laws_markInt64S.f k l0 a1 = some (r1, r2)) :
  Calls Try.prog 14 #[u9000_, .int .i64 a1] w fun e w' => e = .returned (.int .i64 r1) ∧ Kd.R (Kd.int .i64) 2 w' w0.heap.size (fun k_ => (P0_ k_ ∨ w.heap.size ≤ k_)) u9000_ r2 ∧ Below w0.heap.size w0 w' ∧ Kept w w' (fun k_ => P0_ k_) := by
 have HO0 := Aside0.mk (show Kd.R (Kd.int .i64) 2 w w0.heap.size (fun k_ => (P0_ k_ ∨ w.heap.size ≤ k_)) u9000_ l0 from Kd.R_mono ho0 (fun k_ hk => (.inl hk)))
 have HK := Aside0.mk (Kept.refl w (fun k_ => P0_ k_))
 have HW0 := Aside0.mk hB.size
 have HB := Aside0.mk hB
 clear hB
 have H : (laws_markInt64S.l0 k l0 a1 0) = some (r1, r2) := h
 clear h
 have H' := Aside0.mk H
 clear H
 go_enter Try.func14, Try.ntmps14
 go_wp2
 go_loopg [1, 5] k (fun kq v1 v5 w' => ∃ (x0_1 : List Int) (x1_1 : Int) (x5_1 : Int), v1 = .int .i64 x1_1 ∧ v5 = .int .i64 x5_1 ∧ Aside0 (laws_markInt64S.l0 kq x0_1 x1_1 x5_1 = some (r1, r2)) ∧ Aside0 (kq ≤ k) ∧ Aside0 (Kd.R (Kd.int .i64) 2 w' w0.heap.size (fun k_ => (P0_ k_ ∨ w.heap.size ≤ k_)) u9000_ x0_1) ∧ Aside0 (Kept w w' (fun k_ => P0_ k_)) ∧ Aside0 (Below w0.heap.size w0 w'))
 case atStart => exact ⟨(l0), (a1), (0), rF_, rF_, H', ⟨Nat.le_refl _⟩, ⟨rHO0_⟩, ⟨by repeat (first | (with_reducible first | exact HK.out | apply Kept.alloc | apply Kept.drewN | apply Kept.drew) | exact HK.out)⟩, ⟨hB_⟩⟩
 case round =>
  clear H'
  try clear c1
  try clear p2
  obtain ⟨x0_1, x1_1, x5_1, rfl, rfl, HA, HK1, HO_0, HK, HB⟩ := hrel
  cases gk with
  | zero => exact absurd HA.out (by simp [laws_markInt64S.l0])
  | succ k1 =>
   have H := HA.out
   clear HA
   simp only [laws_markInt64S.l0] at H
   by_cases c3 : x5_1 < (x0_1.length : Int)
   ·rw [if_pos c3] at H
    have c3b0 : decide (x5_1 < (x0_1.length : Int)) = true := decide_eq_true c3
    clear c3
    by_cases c4 : 0 ≤ x5_1
    ·rw [if_pos c4] at H
     have c4b0 : decide (0 ≤ x5_1) = true := decide_eq_true c4
     clear c4
     obtain ⟨y294, hy294⟩ : ∃ y_ : List Int, y_ = (x0_1.set (x5_1 : Int).toNat x1_1) := ⟨_, rfl⟩
     replace H : (laws_markInt64S.l0 k1 y294 (wrap64 (x1_1 + 1)) (wrap64 (x5_1 + 1))) = some (r1, r2) := by first | (rw [hy294]; with_reducible exact H) | (have H2_ := (Option.bind_some _ _).symm.trans H; rw [hy294]; with_reducible exact H2_) | (have H2_ := (Option.bind_some _ _).symm.trans H; with_reducible exact H2_) | with_reducible exact H | (rw [hy294]; exact H) | exact H
     have Ny294 := Aside0.mk hy294
     clear hy294
     have H' := Aside0.mk H
     clear H
     obtain ⟨Ao6, co6, eo6⟩ := Kd.R_slice HO_0.out
     subst eo6
     have p5 : 0 ≤ (x5_1 : Int) := oD_
     have q5 : (x5_1 : Int) < ((x0_1.length : Int) : Int) := oD_
     obtain ⟨go5, co5, eo5, gb5, gl5, cl5, HG5⟩ := Kd.R_form HO_0.out (by omega)
     (first | cases eo5 | (injection eo5 with ea_ en_ ec_; (first | subst ea_ | (injection ea_ with ea_; subst ea_)); subst ec_; clear en_))
     have GB5 := Aside0.mk gb5
     have GG5 := Aside0.mk HG5
     clear gb5 gl5 HG5
     have HMgo5 := Aside0.mk (show (P0_ go5 ∨ w.heap.size ≤ go5) from (HO_0.out.1 _ rfl))
     obtain ⟨hx5_0, hf5_0⟩ := Kd.R_celln 0 HO_0.out (x5_1 : Int) p5 q5
     replace p5 := eq_true p5
     replace q5 := eq_true q5
     have HP7 := Kd.R_putg HO_0.out (x5_1 : Int) x1_1
     go_wp2_with (first | ((with_reducible refine gate_store (t := 2) (p := 15) rfl ?_); refine store_event (t := 2) (p := 15) (v := ?vo_w8) (w1 := (wr.setCell ⟨go5, (x5_1 : Int).toNat, none⟩ (.int .i64 x1_1))) ?hg ?ho ?hn ?hr ?_; (case ho => rfl); (case hg => rfl); (case hn => rfl); (case hr => first | (go_simp; done) | (go_simp; rfl)); intro w8 hw; have hg : wr.grownBy w8 (some go5) := (by rw [hw]; exact HP7.2); have hp_ : Kd.R (Kd.int .i64) 2 w8 w0.heap.size (fun k_ => (P0_ k_ ∨ w.heap.size ≤ k_)) (.slice (some ⟨go5, 0, none⟩) x0_1.length co6) y294 := (by rw [hw, Ny294.out]; exact HP7.1); clear HP7; have n0_ := Aside0.mk (hp_); have n1_ := Aside0.mk ((by rw [hw]; exact below_set (HB.out) GB5.out : Below w0.heap.size w0 w8)); have n2_ := Aside0.mk (Kept.of_grown (S := (fun k_ => P0_ k_)) hg (by repeat (first | (with_reducible first | exact HK.out | apply Kept.alloc | apply Kept.drewN | apply Kept.drew) | exact HK.out)) (fun k_ e_ => (HO_0.out.1 k_ e_))); clear HO_0; clear HB; clear HK; have HO_0 := n0_; have HB := n1_; have HK := n2_; clear n0_ n1_ n2_; clear hg hw hp_))
     go_roundg k1
     case measure => have := HK1.out; omega
     case rel => exact ⟨(y294), (wrap64 (x1_1 + 1)), (wrap64 (x5_1 + 1)), rF_, rF_, H', ⟨by have := HK1.out; omega⟩, ⟨rHO_0_⟩, ⟨by repeat (first | (with_reducible first | exact HK.out | apply Kept.alloc | apply Kept.drewN | apply Kept.drew) | exact HK.out)⟩, ⟨hB_⟩⟩
    ·rw [if_neg c4] at H
     exact absurd H (by simp)
   ·rw [if_neg c3] at H
    have c3b0 : decide (x5_1 < (x0_1.length : Int)) = false := decide_eq_false c3
    clear c3
    simp only [Option.some.injEq, Prod.mk.injEq] at H
    obtain ⟨rfl, rfl⟩ := H
    obtain ⟨Ao9, co9, eo9⟩ := Kd.R_slice HO_0.out
    subst eo9
    go_wp2
    go_ret
    exact ⟨rG_, rHO_0_, hB_, by repeat (first | (with_reducible first | exact HK.out | apply Kept.alloc | apply Kept.drewN | apply Kept.drew) | exact HK.out)⟩

end Go.Proofs.Ytobfgnjdcoidoaa.X
namespace Go.Proofs.Ytobfgnjdcoidoaa.X
open Go.RowKit Go.Proofs.YtobfgnjdcoidoaaW.PrintWords Go.Proofs.YtobfgnjdcoidoaaW.PrintLast Go.Proofs.YtobfgnjdcoidoaaW.PrintMore
attribute [local go_sem] max2_int min2_int max_two min_two max_three min_three max_four min_four   -- for this text's walks alone
set_option linter.unusedVariables false
set_option linter.unusedSimpArgs false

/-! ### laws_markFunc: function 13 -/
/-- A value that may be another whole number, and is else the same. -/
def ShV (u u' : Value) : Prop := u' = u ∨ ∃ (k : IntKind) (n n' : Int), u = .int k n ∧ u' = .int k n'
theorem ShV.trans {a b c : Value} (h : ShV a b) (k : ShV b c) : ShV a c := by
 rcases h with rfl | ⟨k1, n, n', rfl, rfl⟩
 ·exact k
 ·rcases k with rfl | ⟨k2, m, m', e, rfl⟩
  ·exact .inr ⟨_, _, _, rfl, rfl⟩
  ·injection e with e1 e2
   subst e1
   exact .inr ⟨_, _, _, rfl, rfl⟩
/-- What lay in w lies in W, but for whole numbers. -/
def Shp (w W : World) : Prop := ∀ (g o : Nat) (u : Value), w.cell? ⟨g, o, none⟩ = some u → (∃ u', W.cell? ⟨g, o, none⟩ = some u' ∧ ShV u u') ∧ (w.frozen? ⟨g, o, none⟩ = false → W.frozen? ⟨g, o, none⟩ = false)
theorem Shp.refl (w : World) : Shp w w := fun g o u h => ⟨⟨u, h, .inl rfl⟩, id⟩
theorem Shp.below {w W W2 : World} (h : Shp w W) (hb : Below W.heap.size W W2) : Shp w W2 := by
 intro g o u hu
 obtain ⟨⟨u', h1, h2⟩, h3⟩ := h g o u hu
 have hlt := World.block_lt_of_cell? W _ h1
 exact ⟨⟨u', (hb.cell hlt).trans h1, h2⟩, fun hf => (hb.frozen hlt).trans (h3 hf)⟩
theorem Shp.int {w W : World} {g o : Nat} {k : IntKind} {n : Int} (h : Shp w W) (hc : w.cell? ⟨g, o, none⟩ = some (.int k n)) : ∃ n', W.cell? ⟨g, o, none⟩ = some (.int k n') := by
 obtain ⟨⟨u', h1, h2⟩, -⟩ := h g o _ hc
 rcases h2 with rfl | ⟨k', m, m', e, rfl⟩
 ·exact ⟨n, h1⟩
 ·injection e with e1 e2
  subst e1
  exact ⟨m', h1⟩
theorem Shp.slice {w W : World} {g o : Nat} {A : Option Addr} {n c : Nat} (h : Shp w W) (hc : w.cell? ⟨g, o, none⟩ = some (.slice A n c)) : W.cell? ⟨g, o, none⟩ = some (.slice A n c) := by
 obtain ⟨⟨u', h1, h2⟩, -⟩ := h g o _ hc
 rcases h2 with rfl | ⟨k', m, m', e, rfl⟩
 ·exact h1
 ·cases e
theorem Shp.frozen {w W : World} {g o : Nat} {u : Value} (h : Shp w W) (hc : w.cell? ⟨g, o, none⟩ = some u) (hf : w.frozen? ⟨g, o, none⟩ = false) : W.frozen? ⟨g, o, none⟩ = false := (h g o u hc).2 hf
theorem Shp.set {w W : World} {g o : Nat} {k : IntKind} {n : Int} (h : Shp w W) (hc : W.cell? ⟨g, o, none⟩ = some (.int k n)) (m : Int) : Shp w (W.setCell ⟨g, o, none⟩ (.int k m)) := by
 intro g' o' u hu
 obtain ⟨⟨u', h1, h2⟩, h3⟩ := h g' o' u hu
 refine ⟨?_, fun hf => by rw [World.frozen?_setCell]; exact h3 hf⟩
 by_cases e : (⟨g, o, none⟩ : Addr) = ⟨g', o', none⟩
 ·rw [← e] at h1 ⊢
  rw [hc] at h1
  obtain rfl := Option.some.inj h1
  exact ⟨_, World.cell?_setCell_same _ _ _ hc, h2.trans (.inr ⟨_, _, _, rfl, rfl⟩)⟩
 ·exact ⟨u', by first | exact (World.cell?_setCell_other _ _ _ _ e).trans h1 | exact (World.cell?_setCell_other _ _ _ e).trans h1, h2⟩
/-- While it is marked: of what was there in w nothing turns but whole numbers in blocks of P. -/
structure Mk (w0 w : World) (P : Nat → Prop) (W : World) : Prop where
 sh : Shp w W
 below : Below w0.heap.size w0 W
 kept : Kept w W P
section
variable {w0 w W W2 : World} {P : Nat → Prop} {g o : Nat} {k : IntKind} {n : Int}
theorem Mk.set (h : Mk w0 w P W) (hc : W.cell? ⟨g, o, none⟩ = some (.int k n)) (hP : P g) (hg : w0.heap.size ≤ g) (m : Int) : Mk w0 w P (W.setCell ⟨g, o, none⟩ (.int k m)) :=
 ⟨h.sh.set hc m, below_set h.below hg, h.kept.setCell (.inl hP) _⟩
theorem Mk.step (h : Mk w0 w P W) (hb : Below W.heap.size W W2) : Mk w0 w P W2 := ⟨h.sh.below hb, below_step h.below hb, h.kept.below hb⟩
end
/-- The sum over a list. -/
def tot {α : Type} (f : α → Int) : List α → Int
 | [] => 0
 | x :: l => f x + tot f l
theorem tot_nonneg {α : Type} {f : α → Int} (h : ∀ x, 0 ≤ f x) : ∀ l, 0 ≤ tot f l
 | [] => Int.le_refl _
 | x :: l => by have := h x; have := tot_nonneg h l; simp only [tot]; omega
theorem tot_next {α : Type} (f : α → Int) (z : α) : ∀ (l : List α) (j : Nat), j < l.length → tot f (l.take (j + 1)) = tot f (l.take j) + f (l.getD j z)
 | [], j, h => by simp at h
 | x :: l, 0, _ => by simp [tot]
 | x :: l, j + 1, h => by
  have := tot_next f z l j (by simpa using h)
  simp only [List.take_succ_cons, tot, List.getD_cons_succ, this]
  omega
theorem tot_take {α : Type} {f : α → Int} (h : ∀ x, 0 ≤ f x) : ∀ (l : List α) (j : Nat), tot f (l.take j) ≤ tot f l
 | [], j => by simp
 | x :: l, 0 => by have := tot_nonneg h (x :: l); simpa [tot] using this
 | x :: l, j + 1 => by have := tot_take h l j; simp only [List.take_succ_cons, tot]; omega
theorem tot_nextI {α : Type} (f : α → Int) (z : α) (l : List α) (i : Int) (h0 : 0 ≤ i) (h1 : i < (l.length : Int)) : tot f (l.take (i + 1).toNat) = tot f (l.take i.toNat) + f (l.getD i.toNat z) := by
 rw [show (i + 1).toNat = i.toNat + 1 by omega]
 exact tot_next f z l i.toNat (by omega)
def nInts (x : List Int) : Int := (x.length : Int)
def nPhi (p : S93) : Int := 1 + nInts p.f1
def nIns (p : S96) : Int := 6 + nInts p.f6
def nBlk (p : S80) : Int := tot nPhi p.f0 + tot nIns p.f1 + 4
theorem nPhi_nonneg (p : S93) : 0 ≤ nPhi p := by unfold nPhi nInts; omega
theorem nIns_nonneg (p : S96) : 0 ≤ nIns p := by unfold nIns nInts; omega
theorem nBlk_nonneg (p : S80) : 0 ≤ nBlk p := by have := tot_nonneg nPhi_nonneg p.f0; have := tot_nonneg nIns_nonneg p.f1; unfold nBlk; omega
set_option maxHeartbeats 4000000 in
set_option maxRecDepth 100000 in
theorem mk_ints (w0 w W : World) (P : Nat → Prop) (v : Value) (l : List Int) (n : Int) (hR : (Kd.int .i64).R 2 w w0.heap.size P v l) (hM : Mk w0 w P W) (h0 : 0 ≤ n) (h1 : n + nInts l ≤ 4611686018427387904) :
  Calls Try.prog 14 #[v, .int .i64 n] W fun e W' => e = .returned (.int .i64 (n + nInts l)) ∧ Mk w0 w P W' := by
 obtain ⟨A, c, rfl⟩ := Kd.R_slice hR
 have HR := Aside0.mk hR
 have HM := Aside0.mk hM
 have HN := Aside0.mk (And.intro h0 h1)
 clear hR hM h0 h1
 go_enter Try.func14, Try.ntmps14
 go_wp2
 go_loopg [1, 5] l.length (fun gg v1 v5 wr => ∃ i : Int, v1 = .int .i64 (n + i) ∧ v5 = .int .i64 i ∧ Aside0 (0 ≤ i ∧ i ≤ (l.length : Int) ∧ (l.length : Int) - i ≤ gg) ∧ Aside0 (Mk w0 w P wr))
 case atStart => exact ⟨0, by simp, rfl, ⟨by omega⟩, HM⟩
 case round =>
  clear HM
  obtain ⟨i, rfl, rfl, X, HM⟩ := hrel
  by_cases hlt : i < (l.length : Int)
  ·have hx0 := X.out.1
   obtain ⟨g, cap, eo, gb, -, -⟩ := Kd.R_form HR.out (by omega)
   injection eo with ea en ec
   subst ea
   obtain ⟨hx, hf⟩ := Kd.R_celln 0 HR.out i hx0 hlt
   obtain ⟨m, y0⟩ := HM.out.sh.int hx
   have f0 := HM.out.sh.frozen hx hf
   have hs := Aside0.mk (HM.out.set y0 (HR.out.1 g rfl) gb (n + i))
   have hw1 : wrap64 (n + i + 1) = n + i + 1 := by have := HN.out; unfold nInts at this; unfold wrap64; omega
   have hw2 : wrap64 (i + 1) = i + 1 := by have := HN.out; unfold nInts at this; unfold wrap64; omega
   have Y := Aside0.mk hlt
   have c1 : decide (i < (l.length : Int)) = true := decide_eq_true hlt
   have hi0 := eq_true hx0
   have hi1 := eq_true hlt
   clear hx hf hx0 hlt gb
   try clear en
   try clear ec
   go_wp2
   go_roundg (gk - 1)
   case measure => have := X.out; have := Y.out; clear hw1 hw2; omega
   case rel => exact ⟨i + 1, by rw [hw1, Int.add_assoc], by first | rfl | rw [hw2], ⟨by have := X.out; have := Y.out; clear hw1 hw2; omega⟩, hs⟩
  ·have c1 : decide (i < (l.length : Int)) = false := decide_eq_false hlt
   have hi : i = (l.length : Int) := by have := X.out; omega
   have HI := Aside0.mk hi
   clear hi hlt
   go_wp2
   go_ret
   exact ⟨by rw [HI.out]; rfl, HM.out⟩
set_option maxHeartbeats 16000000 in
set_option maxRecDepth 100000 in
theorem mk_phis (w0 w W : World) (P : Nat → Prop) (v : Value) (l : List S93) (n : Int) (hR : k93.R 93 w w0.heap.size P v l) (hM : Mk w0 w P W) (h0 : 0 ≤ n) (h1 : n + tot nPhi l ≤ 4611686018427387904) :
  Calls Try.prog 57 #[v, .int .i64 n] W fun e W' => e = .returned (.int .i64 (n + tot nPhi l)) ∧ Mk w0 w P W' := by
 have huT := Try.underlying93
 obtain ⟨A, c, rfl⟩ := Kd.R_slice hR
 have HR := Aside0.mk hR
 have HM := Aside0.mk hM
 have HN := Aside0.mk (And.intro h0 h1)
 have HLEN := Aside0.mk ((Kd.R_reads' hR).2.2.2.1)
 clear hR hM h0 h1
 go_enter Try.func57, Try.ntmps57
 go_wp2
 go_loopg [1, 5] l.length (fun gg v1 v5 wr => ∃ i : Int, v1 = .int .i64 (n + tot nPhi (l.take i.toNat)) ∧ v5 = .int .i64 i ∧ Aside0 (0 ≤ i ∧ i ≤ (l.length : Int) ∧ (l.length : Int) - i ≤ gg) ∧ Aside0 (Mk w0 w P wr))
 case atStart => exact ⟨0, by simp [tot], rfl, ⟨by omega⟩, HM⟩
 case round =>
  clear HM
  obtain ⟨i, rfl, rfl, X, HM⟩ := hrel
  by_cases hlt : i < (l.length : Int)
  ·have hx0 := X.out.1
   obtain ⟨g, cap, eo, gb, -, -⟩ := Kd.R_form HR.out (by omega)
   injection eo with ea en ec
   subst ea
   have PG := Aside0.mk (HR.out.1 g rfl)
   have GB := Aside0.mk gb
   have HT := Aside0.mk (tot_nextI nPhi z93 l i hx0 hlt)
   have HL := Aside0.mk (show 0 ≤ tot nPhi (l.take i.toNat) ∧ tot nPhi (l.take i.toNat) + nPhi (l.getD i.toNat z93) ≤ tot nPhi l from ⟨tot_nonneg nPhi_nonneg _, by rw [← HT.out]; exact tot_take nPhi_nonneg l _⟩)
   obtain ⟨ce, -, hE, hcc, hfr⟩ := Kd.R_elem HR.out z93 i hx0 hlt
   have Y := Aside0.mk hlt
   have c1 : decide (i < (l.length : Int)) = true := decide_eq_true hlt
   have hi0 := eq_true hx0
   have hi1 := eq_true hlt
   generalize tot nPhi (l.take i.toNat) = T at *
   generalize l.getD i.toNat z93 = x at *
   replace HL := Aside0.mk (show 0 ≤ T ∧ 0 ≤ n ∧ n + T + (nPhi x) ≤ 4611686018427387904 from by have := HL.out; have := HN.out; omega)
   obtain ⟨v1, rfl, hv1⟩ := k93_openM hE
   obtain ⟨A1, c1_, rfl⟩ := Kd.R_slice hv1
   have V1 := Aside0.mk hv1
   clear hE hv1
   unfold nPhi nInts at HL
   have X0 := Aside0.mk (show w.cell? ⟨g, i.toNat * 2, none⟩ = some _ from hcc 0 _ rfl)
   have X1 := Aside0.mk (show w.cell? ⟨g, i.toNat * 2 + 1, none⟩ = some _ from hcc 1 _ rfl)
   have Q0 := Aside0.mk (show w.frozen? ⟨g, i.toNat * 2, none⟩ = false from hfr 0)
   clear hcc hfr gb hx0 hlt
   try clear en
   try clear ec
   obtain ⟨m0, y0⟩ := HM.out.sh.int X0.out
   have g0 := HM.out.sh.frozen X0.out Q0.out
   have y1 := HM.out.sh.slice X1.out
   go_wp2_with (first
    | ((with_reducible refine gate_store (t := 2) (p := 16) rfl ?_); refine store_event (t := 2) (p := 16) (v := ?vo0) (w1 := (wr.setCell ⟨g, i.toNat * 2, none⟩ (.int .i64 ?val0))) ?hg ?ho ?hn ?hr ?_; (case ho => rfl); (case hg => rfl); (case hn => rfl); (case hr => first | (go_simp; done) | (go_simp; rfl)); intro ws0 hw; have n_ := Aside0.mk (show Mk w0 w P ws0 by rw [hw]; exact HM.out.set y0 PG.out GB.out _); clear y0 y1 g0; clear HM hw; have HM := n_; clear n_; obtain ⟨m0, y0⟩ := HM.out.sh.int X0.out; have g0 := HM.out.sh.frozen X0.out Q0.out; have y1 := HM.out.sh.slice X1.out)
    | (go_at_call 14; refine (mk_ints w0 w _ P _ _ _ (Kd.R_mono V1.out (fun _ hk => hk.1)) HM.out ?ha ?hb).mono ?_; (case ha => (have hl_ := HL.out; (try simp only [wrap64, nPhi, nInts]); omega)); (case hb => (have hl_ := HL.out; (try simp only [wrap64, nPhi, nInts]); omega)); rintro e ws1 ⟨rfl, hM⟩; clear y0 y1 g0; clear HM; have HM := Aside0.mk hM; clear hM; obtain ⟨m0, y0⟩ := HM.out.sh.int X0.out; have g0 := HM.out.sh.frozen X0.out Q0.out; have y1 := HM.out.sh.slice X1.out))
   go_roundg (gk - 1)
   case measure => have := X.out; have := Y.out; omega
   case rel => exact ⟨i + 1, by rw [HT.out]; congr 1; have hl_ := HL.out; (try simp only [wrap64, nPhi, nInts]); omega, by first | rfl | (congr 1; have := X.out; have := Y.out; have := HLEN.out; (try simp only [wrap64]); omega), ⟨by have := X.out; have := Y.out; omega⟩, HM⟩
  ·have c1 : decide (i < (l.length : Int)) = false := decide_eq_false hlt
   have hi : l.take i.toNat = l := List.take_of_length_le (by have := X.out; omega)
   have HI := Aside0.mk hi
   clear hi hlt
   go_wp2
   go_ret
   exact ⟨by rw [HI.out]; rfl, HM.out⟩
set_option maxHeartbeats 16000000 in
set_option maxRecDepth 100000 in
theorem mk_insts (w0 w W : World) (P : Nat → Prop) (v : Value) (l : List S96) (n : Int) (hR : k96.R 96 w w0.heap.size P v l) (hM : Mk w0 w P W) (h0 : 0 ≤ n) (h1 : n + tot nIns l ≤ 4611686018427387904) :
  Calls Try.prog 58 #[v, .int .i64 n] W fun e W' => e = .returned (.int .i64 (n + tot nIns l)) ∧ Mk w0 w P W' := by
 have huT := Try.underlying96
 obtain ⟨A, c, rfl⟩ := Kd.R_slice hR
 have HR := Aside0.mk hR
 have HM := Aside0.mk hM
 have HN := Aside0.mk (And.intro h0 h1)
 have HLEN := Aside0.mk ((Kd.R_reads' hR).2.2.2.1)
 clear hR hM h0 h1
 go_enter Try.func58, Try.ntmps58
 go_wp2
 go_loopg [1, 5] l.length (fun gg v1 v5 wr => ∃ i : Int, v1 = .int .i64 (n + tot nIns (l.take i.toNat)) ∧ v5 = .int .i64 i ∧ Aside0 (0 ≤ i ∧ i ≤ (l.length : Int) ∧ (l.length : Int) - i ≤ gg) ∧ Aside0 (Mk w0 w P wr))
 case atStart => exact ⟨0, by simp [tot], rfl, ⟨by omega⟩, HM⟩
 case round =>
  clear HM
  obtain ⟨i, rfl, rfl, X, HM⟩ := hrel
  by_cases hlt : i < (l.length : Int)
  ·have hx0 := X.out.1
   obtain ⟨g, cap, eo, gb, -, -⟩ := Kd.R_form HR.out (by omega)
   injection eo with ea en ec
   subst ea
   have PG := Aside0.mk (HR.out.1 g rfl)
   have GB := Aside0.mk gb
   have HT := Aside0.mk (tot_nextI nIns z96 l i hx0 hlt)
   have HL := Aside0.mk (show 0 ≤ tot nIns (l.take i.toNat) ∧ tot nIns (l.take i.toNat) + nIns (l.getD i.toNat z96) ≤ tot nIns l from ⟨tot_nonneg nIns_nonneg _, by rw [← HT.out]; exact tot_take nIns_nonneg l _⟩)
   obtain ⟨ce, -, hE, hcc, hfr⟩ := Kd.R_elem HR.out z96 i hx0 hlt
   have Y := Aside0.mk hlt
   have c1 : decide (i < (l.length : Int)) = true := decide_eq_true hlt
   have hi0 := eq_true hx0
   have hi1 := eq_true hlt
   generalize tot nIns (l.take i.toNat) = T at *
   generalize l.getD i.toNat z96 = x at *
   replace HL := Aside0.mk (show 0 ≤ T ∧ 0 ≤ n ∧ n + T + (nIns x) ≤ 4611686018427387904 from by have := HL.out; have := HN.out; omega)
   obtain ⟨v6, rfl, hv6⟩ := k96_openM hE
   obtain ⟨A1, c1_, rfl⟩ := Kd.R_slice hv6
   have V6 := Aside0.mk hv6
   clear hE hv6
   unfold nIns nInts at HL
   have X0 := Aside0.mk (show w.cell? ⟨g, i.toNat * 7, none⟩ = some _ from hcc 0 _ rfl)
   have X1 := Aside0.mk (show w.cell? ⟨g, i.toNat * 7 + 1, none⟩ = some _ from hcc 1 _ rfl)
   have X2 := Aside0.mk (show w.cell? ⟨g, i.toNat * 7 + 2, none⟩ = some _ from hcc 2 _ rfl)
   have X3 := Aside0.mk (show w.cell? ⟨g, i.toNat * 7 + 3, none⟩ = some _ from hcc 3 _ rfl)
   have X4 := Aside0.mk (show w.cell? ⟨g, i.toNat * 7 + 4, none⟩ = some _ from hcc 4 _ rfl)
   have X5 := Aside0.mk (show w.cell? ⟨g, i.toNat * 7 + 5, none⟩ = some _ from hcc 5 _ rfl)
   have X6 := Aside0.mk (show w.cell? ⟨g, i.toNat * 7 + 6, none⟩ = some _ from hcc 6 _ rfl)
   have Q0 := Aside0.mk (show w.frozen? ⟨g, i.toNat * 7, none⟩ = false from hfr 0)
   have Q1 := Aside0.mk (show w.frozen? ⟨g, i.toNat * 7 + 1, none⟩ = false from hfr 1)
   have Q2 := Aside0.mk (show w.frozen? ⟨g, i.toNat * 7 + 2, none⟩ = false from hfr 2)
   have Q3 := Aside0.mk (show w.frozen? ⟨g, i.toNat * 7 + 3, none⟩ = false from hfr 3)
   have Q4 := Aside0.mk (show w.frozen? ⟨g, i.toNat * 7 + 4, none⟩ = false from hfr 4)
   have Q5 := Aside0.mk (show w.frozen? ⟨g, i.toNat * 7 + 5, none⟩ = false from hfr 5)
   clear hcc hfr gb hx0 hlt
   try clear en
   try clear ec
   obtain ⟨m0, y0⟩ := HM.out.sh.int X0.out
   obtain ⟨m1, y1⟩ := HM.out.sh.int X1.out
   obtain ⟨m2, y2⟩ := HM.out.sh.int X2.out
   obtain ⟨m3, y3⟩ := HM.out.sh.int X3.out
   obtain ⟨m4, y4⟩ := HM.out.sh.int X4.out
   obtain ⟨m5, y5⟩ := HM.out.sh.int X5.out
   have g0 := HM.out.sh.frozen X0.out Q0.out
   have g1 := HM.out.sh.frozen X1.out Q1.out
   have g2 := HM.out.sh.frozen X2.out Q2.out
   have g3 := HM.out.sh.frozen X3.out Q3.out
   have g4 := HM.out.sh.frozen X4.out Q4.out
   have g5 := HM.out.sh.frozen X5.out Q5.out
   have y6 := HM.out.sh.slice X6.out
   go_wp2_with (first
    | ((with_reducible refine gate_store (t := 2) (p := 16) rfl ?_); refine store_event (t := 2) (p := 16) (v := ?vo0) (w1 := (wr.setCell ⟨g, i.toNat * 7, none⟩ (.int .i64 ?val0))) ?hg ?ho ?hn ?hr ?_; (case ho => rfl); (case hg => rfl); (case hn => rfl); (case hr => first | (go_simp; done) | (go_simp; rfl)); intro ws0 hw; have n_ := Aside0.mk (show Mk w0 w P ws0 by rw [hw]; exact HM.out.set y0 PG.out GB.out _); clear y0 y1 y2 y3 y4 y5 y6 g0 g1 g2 g3 g4 g5; clear HM hw; have HM := n_; clear n_; obtain ⟨m0, y0⟩ := HM.out.sh.int X0.out; obtain ⟨m1, y1⟩ := HM.out.sh.int X1.out; obtain ⟨m2, y2⟩ := HM.out.sh.int X2.out; obtain ⟨m3, y3⟩ := HM.out.sh.int X3.out; obtain ⟨m4, y4⟩ := HM.out.sh.int X4.out; obtain ⟨m5, y5⟩ := HM.out.sh.int X5.out; have g0 := HM.out.sh.frozen X0.out Q0.out; have g1 := HM.out.sh.frozen X1.out Q1.out; have g2 := HM.out.sh.frozen X2.out Q2.out; have g3 := HM.out.sh.frozen X3.out Q3.out; have g4 := HM.out.sh.frozen X4.out Q4.out; have g5 := HM.out.sh.frozen X5.out Q5.out; have y6 := HM.out.sh.slice X6.out)
    | ((with_reducible refine gate_store (t := 2) (p := 23) rfl ?_); refine store_event (t := 2) (p := 23) (v := ?vo1) (w1 := (ws0.setCell ⟨g, i.toNat * 7 + 1, none⟩ (.int .i64 ?val1))) ?hg ?ho ?hn ?hr ?_; (case ho => rfl); (case hg => rfl); (case hn => rfl); (case hr => first | (go_simp; done) | (go_simp; rfl)); intro ws1 hw; have n_ := Aside0.mk (show Mk w0 w P ws1 by rw [hw]; exact HM.out.set y1 PG.out GB.out _); clear y0 y1 y2 y3 y4 y5 y6 g0 g1 g2 g3 g4 g5; clear HM hw; have HM := n_; clear n_; obtain ⟨m0, y0⟩ := HM.out.sh.int X0.out; obtain ⟨m1, y1⟩ := HM.out.sh.int X1.out; obtain ⟨m2, y2⟩ := HM.out.sh.int X2.out; obtain ⟨m3, y3⟩ := HM.out.sh.int X3.out; obtain ⟨m4, y4⟩ := HM.out.sh.int X4.out; obtain ⟨m5, y5⟩ := HM.out.sh.int X5.out; have g0 := HM.out.sh.frozen X0.out Q0.out; have g1 := HM.out.sh.frozen X1.out Q1.out; have g2 := HM.out.sh.frozen X2.out Q2.out; have g3 := HM.out.sh.frozen X3.out Q3.out; have g4 := HM.out.sh.frozen X4.out Q4.out; have g5 := HM.out.sh.frozen X5.out Q5.out; have y6 := HM.out.sh.slice X6.out)
    | ((with_reducible refine gate_store (t := 2) (p := 30) rfl ?_); refine store_event (t := 2) (p := 30) (v := ?vo2) (w1 := (ws1.setCell ⟨g, i.toNat * 7 + 2, none⟩ (.int .i64 ?val2))) ?hg ?ho ?hn ?hr ?_; (case ho => rfl); (case hg => rfl); (case hn => rfl); (case hr => first | (go_simp; done) | (go_simp; rfl)); intro ws2 hw; have n_ := Aside0.mk (show Mk w0 w P ws2 by rw [hw]; exact HM.out.set y2 PG.out GB.out _); clear y0 y1 y2 y3 y4 y5 y6 g0 g1 g2 g3 g4 g5; clear HM hw; have HM := n_; clear n_; obtain ⟨m0, y0⟩ := HM.out.sh.int X0.out; obtain ⟨m1, y1⟩ := HM.out.sh.int X1.out; obtain ⟨m2, y2⟩ := HM.out.sh.int X2.out; obtain ⟨m3, y3⟩ := HM.out.sh.int X3.out; obtain ⟨m4, y4⟩ := HM.out.sh.int X4.out; obtain ⟨m5, y5⟩ := HM.out.sh.int X5.out; have g0 := HM.out.sh.frozen X0.out Q0.out; have g1 := HM.out.sh.frozen X1.out Q1.out; have g2 := HM.out.sh.frozen X2.out Q2.out; have g3 := HM.out.sh.frozen X3.out Q3.out; have g4 := HM.out.sh.frozen X4.out Q4.out; have g5 := HM.out.sh.frozen X5.out Q5.out; have y6 := HM.out.sh.slice X6.out)
    | ((with_reducible refine gate_store (t := 2) (p := 37) rfl ?_); refine store_event (t := 2) (p := 37) (v := ?vo3) (w1 := (ws2.setCell ⟨g, i.toNat * 7 + 3, none⟩ (.int .i64 ?val3))) ?hg ?ho ?hn ?hr ?_; (case ho => rfl); (case hg => rfl); (case hn => rfl); (case hr => first | (go_simp; done) | (go_simp; rfl)); intro ws3 hw; have n_ := Aside0.mk (show Mk w0 w P ws3 by rw [hw]; exact HM.out.set y3 PG.out GB.out _); clear y0 y1 y2 y3 y4 y5 y6 g0 g1 g2 g3 g4 g5; clear HM hw; have HM := n_; clear n_; obtain ⟨m0, y0⟩ := HM.out.sh.int X0.out; obtain ⟨m1, y1⟩ := HM.out.sh.int X1.out; obtain ⟨m2, y2⟩ := HM.out.sh.int X2.out; obtain ⟨m3, y3⟩ := HM.out.sh.int X3.out; obtain ⟨m4, y4⟩ := HM.out.sh.int X4.out; obtain ⟨m5, y5⟩ := HM.out.sh.int X5.out; have g0 := HM.out.sh.frozen X0.out Q0.out; have g1 := HM.out.sh.frozen X1.out Q1.out; have g2 := HM.out.sh.frozen X2.out Q2.out; have g3 := HM.out.sh.frozen X3.out Q3.out; have g4 := HM.out.sh.frozen X4.out Q4.out; have g5 := HM.out.sh.frozen X5.out Q5.out; have y6 := HM.out.sh.slice X6.out)
    | ((with_reducible refine gate_store (t := 2) (p := 44) rfl ?_); refine store_event (t := 2) (p := 44) (v := ?vo4) (w1 := (ws3.setCell ⟨g, i.toNat * 7 + 4, none⟩ (.int .i64 ?val4))) ?hg ?ho ?hn ?hr ?_; (case ho => rfl); (case hg => rfl); (case hn => rfl); (case hr => first | (go_simp; done) | (go_simp; rfl)); intro ws4 hw; have n_ := Aside0.mk (show Mk w0 w P ws4 by rw [hw]; exact HM.out.set y4 PG.out GB.out _); clear y0 y1 y2 y3 y4 y5 y6 g0 g1 g2 g3 g4 g5; clear HM hw; have HM := n_; clear n_; obtain ⟨m0, y0⟩ := HM.out.sh.int X0.out; obtain ⟨m1, y1⟩ := HM.out.sh.int X1.out; obtain ⟨m2, y2⟩ := HM.out.sh.int X2.out; obtain ⟨m3, y3⟩ := HM.out.sh.int X3.out; obtain ⟨m4, y4⟩ := HM.out.sh.int X4.out; obtain ⟨m5, y5⟩ := HM.out.sh.int X5.out; have g0 := HM.out.sh.frozen X0.out Q0.out; have g1 := HM.out.sh.frozen X1.out Q1.out; have g2 := HM.out.sh.frozen X2.out Q2.out; have g3 := HM.out.sh.frozen X3.out Q3.out; have g4 := HM.out.sh.frozen X4.out Q4.out; have g5 := HM.out.sh.frozen X5.out Q5.out; have y6 := HM.out.sh.slice X6.out)
    | ((with_reducible refine gate_store (t := 2) (p := 51) rfl ?_); refine store_event (t := 2) (p := 51) (v := ?vo5) (w1 := (ws4.setCell ⟨g, i.toNat * 7 + 5, none⟩ (.int .i64 ?val5))) ?hg ?ho ?hn ?hr ?_; (case ho => rfl); (case hg => rfl); (case hn => rfl); (case hr => first | (go_simp; done) | (go_simp; rfl)); intro ws5 hw; have n_ := Aside0.mk (show Mk w0 w P ws5 by rw [hw]; exact HM.out.set y5 PG.out GB.out _); clear y0 y1 y2 y3 y4 y5 y6 g0 g1 g2 g3 g4 g5; clear HM hw; have HM := n_; clear n_; obtain ⟨m0, y0⟩ := HM.out.sh.int X0.out; obtain ⟨m1, y1⟩ := HM.out.sh.int X1.out; obtain ⟨m2, y2⟩ := HM.out.sh.int X2.out; obtain ⟨m3, y3⟩ := HM.out.sh.int X3.out; obtain ⟨m4, y4⟩ := HM.out.sh.int X4.out; obtain ⟨m5, y5⟩ := HM.out.sh.int X5.out; have g0 := HM.out.sh.frozen X0.out Q0.out; have g1 := HM.out.sh.frozen X1.out Q1.out; have g2 := HM.out.sh.frozen X2.out Q2.out; have g3 := HM.out.sh.frozen X3.out Q3.out; have g4 := HM.out.sh.frozen X4.out Q4.out; have g5 := HM.out.sh.frozen X5.out Q5.out; have y6 := HM.out.sh.slice X6.out)
    | (go_at_call 14; refine (mk_ints w0 w _ P _ _ _ (Kd.R_mono V6.out (fun _ hk => hk.1)) HM.out ?ha ?hb).mono ?_; (case ha => (have hl_ := HL.out; (try simp only [wrap64, nIns, nInts]); omega)); (case hb => (have hl_ := HL.out; (try simp only [wrap64, nIns, nInts]); omega)); rintro e ws6 ⟨rfl, hM⟩; clear y0 y1 y2 y3 y4 y5 y6 g0 g1 g2 g3 g4 g5; clear HM; have HM := Aside0.mk hM; clear hM; obtain ⟨m0, y0⟩ := HM.out.sh.int X0.out; obtain ⟨m1, y1⟩ := HM.out.sh.int X1.out; obtain ⟨m2, y2⟩ := HM.out.sh.int X2.out; obtain ⟨m3, y3⟩ := HM.out.sh.int X3.out; obtain ⟨m4, y4⟩ := HM.out.sh.int X4.out; obtain ⟨m5, y5⟩ := HM.out.sh.int X5.out; have g0 := HM.out.sh.frozen X0.out Q0.out; have g1 := HM.out.sh.frozen X1.out Q1.out; have g2 := HM.out.sh.frozen X2.out Q2.out; have g3 := HM.out.sh.frozen X3.out Q3.out; have g4 := HM.out.sh.frozen X4.out Q4.out; have g5 := HM.out.sh.frozen X5.out Q5.out; have y6 := HM.out.sh.slice X6.out))
   go_roundg (gk - 1)
   case measure => have := X.out; have := Y.out; omega
   case rel => exact ⟨i + 1, by rw [HT.out]; congr 1; have hl_ := HL.out; (try simp only [wrap64, nIns, nInts]); omega, by first | rfl | (congr 1; have := X.out; have := Y.out; have := HLEN.out; (try simp only [wrap64]); omega), ⟨by have := X.out; have := Y.out; omega⟩, HM⟩
  ·have c1 : decide (i < (l.length : Int)) = false := decide_eq_false hlt
   have hi : l.take i.toNat = l := List.take_of_length_le (by have := X.out; omega)
   have HI := Aside0.mk hi
   clear hi hlt
   go_wp2
   go_ret
   exact ⟨by rw [HI.out]; rfl, HM.out⟩
set_option maxHeartbeats 16000000 in
set_option maxRecDepth 100000 in
theorem mk_blocks (w0 w W : World) (P : Nat → Prop) (v : Value) (l : List S80) (n : Int) (hR : k80.R 80 w w0.heap.size P v l) (hM : Mk w0 w P W) (h0 : 0 ≤ n) (h1 : n + tot nBlk l ≤ 4611686018427387904) :
  Calls Try.prog 34 #[v, .int .i64 n] W fun e W' => e = .returned (.int .i64 (n + tot nBlk l)) ∧ Mk w0 w P W' := by
 have huT := Try.underlying80
 have huE := Try.underlying78
 obtain ⟨A, c, rfl⟩ := Kd.R_slice hR
 have HR := Aside0.mk hR
 have HM := Aside0.mk hM
 have HN := Aside0.mk (And.intro h0 h1)
 have HLEN := Aside0.mk ((Kd.R_reads' hR).2.2.2.1)
 clear hR hM h0 h1
 go_enter Try.func34, Try.ntmps34
 go_wp2
 go_loopg [1, 5] l.length (fun gg v1 v5 wr => ∃ i : Int, v1 = .int .i64 (n + tot nBlk (l.take i.toNat)) ∧ v5 = .int .i64 i ∧ Aside0 (0 ≤ i ∧ i ≤ (l.length : Int) ∧ (l.length : Int) - i ≤ gg) ∧ Aside0 (Mk w0 w P wr))
 case atStart => exact ⟨0, by simp [tot], rfl, ⟨by omega⟩, HM⟩
 case round =>
  clear HM
  obtain ⟨i, rfl, rfl, X, HM⟩ := hrel
  by_cases hlt : i < (l.length : Int)
  ·have hx0 := X.out.1
   obtain ⟨g, cap, eo, gb, -, -⟩ := Kd.R_form HR.out (by omega)
   injection eo with ea en ec
   subst ea
   have PG := Aside0.mk (HR.out.1 g rfl)
   have GB := Aside0.mk gb
   have HT := Aside0.mk (tot_nextI nBlk z80 l i hx0 hlt)
   have HL := Aside0.mk (show 0 ≤ tot nBlk (l.take i.toNat) ∧ tot nBlk (l.take i.toNat) + nBlk (l.getD i.toNat z80) ≤ tot nBlk l from ⟨tot_nonneg nBlk_nonneg _, by rw [← HT.out]; exact tot_take nBlk_nonneg l _⟩)
   obtain ⟨ce, -, hE, hcc, hfr⟩ := Kd.R_elem HR.out z80 i hx0 hlt
   have Y := Aside0.mk hlt
   have c1 : decide (i < (l.length : Int)) = true := decide_eq_true hlt
   have hi0 := eq_true hx0
   have hi1 := eq_true hlt
   generalize tot nBlk (l.take i.toNat) = T at *
   generalize l.getD i.toNat z80 = x at *
   replace HL := Aside0.mk (show 0 ≤ T ∧ 0 ≤ n ∧ n + T + (nBlk x) ≤ 4611686018427387904 from by have := HL.out; have := HN.out; omega)
   obtain ⟨v0, v1, rfl, hv0, hv1⟩ := k80_openM hE
   obtain ⟨A0, c0_, rfl⟩ := Kd.R_slice hv0
   obtain ⟨A1, c1_, rfl⟩ := Kd.R_slice hv1
   have V0 := Aside0.mk hv0
   have V1 := Aside0.mk hv1
   clear hE hv0 hv1
   have tp := tot_nonneg nPhi_nonneg x.f0
   have ti := tot_nonneg nIns_nonneg x.f1
   unfold nBlk at HL
   replace HL := Aside0.mk (And.intro HL.out (And.intro tp ti))
   clear tp ti
   have X2 := Aside0.mk (show w.cell? ⟨g, i.toNat * 6 + 2, none⟩ = some _ from hcc 2 _ rfl)
   have X3 := Aside0.mk (show w.cell? ⟨g, i.toNat * 6 + 3, none⟩ = some _ from hcc 3 _ rfl)
   have X4 := Aside0.mk (show w.cell? ⟨g, i.toNat * 6 + 4, none⟩ = some _ from hcc 4 _ rfl)
   have X5 := Aside0.mk (show w.cell? ⟨g, i.toNat * 6 + 5, none⟩ = some _ from hcc 5 _ rfl)
   have X0 := Aside0.mk (show w.cell? ⟨g, i.toNat * 6, none⟩ = some _ from hcc 0 _ rfl)
   have X1 := Aside0.mk (show w.cell? ⟨g, i.toNat * 6 + 1, none⟩ = some _ from hcc 1 _ rfl)
   have Q2 := Aside0.mk (show w.frozen? ⟨g, i.toNat * 6 + 2, none⟩ = false from hfr 2)
   have Q3 := Aside0.mk (show w.frozen? ⟨g, i.toNat * 6 + 3, none⟩ = false from hfr 3)
   have Q4 := Aside0.mk (show w.frozen? ⟨g, i.toNat * 6 + 4, none⟩ = false from hfr 4)
   have Q5 := Aside0.mk (show w.frozen? ⟨g, i.toNat * 6 + 5, none⟩ = false from hfr 5)
   clear hcc hfr gb hx0 hlt
   try clear en
   try clear ec
   obtain ⟨m2, y2⟩ := HM.out.sh.int X2.out
   obtain ⟨m3, y3⟩ := HM.out.sh.int X3.out
   obtain ⟨m4, y4⟩ := HM.out.sh.int X4.out
   obtain ⟨m5, y5⟩ := HM.out.sh.int X5.out
   have g2 := HM.out.sh.frozen X2.out Q2.out
   have g3 := HM.out.sh.frozen X3.out Q3.out
   have g4 := HM.out.sh.frozen X4.out Q4.out
   have g5 := HM.out.sh.frozen X5.out Q5.out
   have y0 := HM.out.sh.slice X0.out
   have y1 := HM.out.sh.slice X1.out
   go_wp2_with (first
    | (go_at_call 57; refine (mk_phis w0 w _ P _ _ _ (Kd.R_mono V0.out (fun _ hk => hk.1)) HM.out ?ha ?hb).mono ?_; (case ha => (have hl_ := HL.out; (try simp only [wrap64, nBlk]); omega)); (case hb => (have hl_ := HL.out; (try simp only [wrap64, nBlk]); omega)); rintro e ws0 ⟨rfl, hM⟩; clear y2 y3 y4 y5 y0 y1 g2 g3 g4 g5; clear HM; have HM := Aside0.mk hM; clear hM; obtain ⟨m2, y2⟩ := HM.out.sh.int X2.out; obtain ⟨m3, y3⟩ := HM.out.sh.int X3.out; obtain ⟨m4, y4⟩ := HM.out.sh.int X4.out; obtain ⟨m5, y5⟩ := HM.out.sh.int X5.out; have g2 := HM.out.sh.frozen X2.out Q2.out; have g3 := HM.out.sh.frozen X3.out Q3.out; have g4 := HM.out.sh.frozen X4.out Q4.out; have g5 := HM.out.sh.frozen X5.out Q5.out; have y0 := HM.out.sh.slice X0.out; have y1 := HM.out.sh.slice X1.out)
    | (go_at_call 58; refine (mk_insts w0 w _ P _ _ _ (Kd.R_mono V1.out (fun _ hk => hk.1)) HM.out ?ha ?hb).mono ?_; (case ha => (have hl_ := HL.out; (try simp only [wrap64, nBlk]); omega)); (case hb => (have hl_ := HL.out; (try simp only [wrap64, nBlk]); omega)); rintro e ws1 ⟨rfl, hM⟩; clear y2 y3 y4 y5 y0 y1 g2 g3 g4 g5; clear HM; have HM := Aside0.mk hM; clear hM; obtain ⟨m2, y2⟩ := HM.out.sh.int X2.out; obtain ⟨m3, y3⟩ := HM.out.sh.int X3.out; obtain ⟨m4, y4⟩ := HM.out.sh.int X4.out; obtain ⟨m5, y5⟩ := HM.out.sh.int X5.out; have g2 := HM.out.sh.frozen X2.out Q2.out; have g3 := HM.out.sh.frozen X3.out Q3.out; have g4 := HM.out.sh.frozen X4.out Q4.out; have g5 := HM.out.sh.frozen X5.out Q5.out; have y0 := HM.out.sh.slice X0.out; have y1 := HM.out.sh.slice X1.out)
    | ((with_reducible refine gate_store (t := 2) (p := 31) rfl ?_); refine store_event (t := 2) (p := 31) (v := ?vo2) (w1 := (ws1.setCell ⟨g, i.toNat * 6 + 2, none⟩ (.int .i64 ?val2))) ?hg ?ho ?hn ?hr ?_; (case ho => rfl); (case hg => rfl); (case hn => rfl); (case hr => first | (go_simp; done) | (go_simp; rfl)); intro ws2 hw; have n_ := Aside0.mk (show Mk w0 w P ws2 by rw [hw]; exact HM.out.set y2 PG.out GB.out _); clear y2 y3 y4 y5 y0 y1 g2 g3 g4 g5; clear HM hw; have HM := n_; clear n_; obtain ⟨m2, y2⟩ := HM.out.sh.int X2.out; obtain ⟨m3, y3⟩ := HM.out.sh.int X3.out; obtain ⟨m4, y4⟩ := HM.out.sh.int X4.out; obtain ⟨m5, y5⟩ := HM.out.sh.int X5.out; have g2 := HM.out.sh.frozen X2.out Q2.out; have g3 := HM.out.sh.frozen X3.out Q3.out; have g4 := HM.out.sh.frozen X4.out Q4.out; have g5 := HM.out.sh.frozen X5.out Q5.out; have y0 := HM.out.sh.slice X0.out; have y1 := HM.out.sh.slice X1.out)
    | ((with_reducible refine gate_store (t := 2) (p := 39) rfl ?_); refine store_event (t := 2) (p := 39) (v := ?vo3) (w1 := (ws2.setCell ⟨g, i.toNat * 6 + 3, none⟩ (.int .i64 ?val3))) ?hg ?ho ?hn ?hr ?_; (case ho => rfl); (case hg => rfl); (case hn => rfl); (case hr => first | (go_simp; done) | (go_simp; rfl)); intro ws3 hw; have n_ := Aside0.mk (show Mk w0 w P ws3 by rw [hw]; exact HM.out.set y3 PG.out GB.out _); clear y2 y3 y4 y5 y0 y1 g2 g3 g4 g5; clear HM hw; have HM := n_; clear n_; obtain ⟨m2, y2⟩ := HM.out.sh.int X2.out; obtain ⟨m3, y3⟩ := HM.out.sh.int X3.out; obtain ⟨m4, y4⟩ := HM.out.sh.int X4.out; obtain ⟨m5, y5⟩ := HM.out.sh.int X5.out; have g2 := HM.out.sh.frozen X2.out Q2.out; have g3 := HM.out.sh.frozen X3.out Q3.out; have g4 := HM.out.sh.frozen X4.out Q4.out; have g5 := HM.out.sh.frozen X5.out Q5.out; have y0 := HM.out.sh.slice X0.out; have y1 := HM.out.sh.slice X1.out)
    | ((with_reducible refine gate_store (t := 2) (p := 47) rfl ?_); refine store_event (t := 2) (p := 47) (v := ?vo4) (w1 := (ws3.setCell ⟨g, i.toNat * 6 + 4, none⟩ (.int .i64 ?val4))) ?hg ?ho ?hn ?hr ?_; (case ho => rfl); (case hg => rfl); (case hn => rfl); (case hr => first | (go_simp; done) | (go_simp; rfl)); intro ws4 hw; have n_ := Aside0.mk (show Mk w0 w P ws4 by rw [hw]; exact HM.out.set y4 PG.out GB.out _); clear y2 y3 y4 y5 y0 y1 g2 g3 g4 g5; clear HM hw; have HM := n_; clear n_; obtain ⟨m2, y2⟩ := HM.out.sh.int X2.out; obtain ⟨m3, y3⟩ := HM.out.sh.int X3.out; obtain ⟨m4, y4⟩ := HM.out.sh.int X4.out; obtain ⟨m5, y5⟩ := HM.out.sh.int X5.out; have g2 := HM.out.sh.frozen X2.out Q2.out; have g3 := HM.out.sh.frozen X3.out Q3.out; have g4 := HM.out.sh.frozen X4.out Q4.out; have g5 := HM.out.sh.frozen X5.out Q5.out; have y0 := HM.out.sh.slice X0.out; have y1 := HM.out.sh.slice X1.out)
    | ((with_reducible refine gate_store (t := 2) (p := 55) rfl ?_); refine store_event (t := 2) (p := 55) (v := ?vo5) (w1 := (ws4.setCell ⟨g, i.toNat * 6 + 5, none⟩ (.int .i64 ?val5))) ?hg ?ho ?hn ?hr ?_; (case ho => rfl); (case hg => rfl); (case hn => rfl); (case hr => first | (go_simp; done) | (go_simp; rfl)); intro ws5 hw; have n_ := Aside0.mk (show Mk w0 w P ws5 by rw [hw]; exact HM.out.set y5 PG.out GB.out _); clear y2 y3 y4 y5 y0 y1 g2 g3 g4 g5; clear HM hw; have HM := n_; clear n_; obtain ⟨m2, y2⟩ := HM.out.sh.int X2.out; obtain ⟨m3, y3⟩ := HM.out.sh.int X3.out; obtain ⟨m4, y4⟩ := HM.out.sh.int X4.out; obtain ⟨m5, y5⟩ := HM.out.sh.int X5.out; have g2 := HM.out.sh.frozen X2.out Q2.out; have g3 := HM.out.sh.frozen X3.out Q3.out; have g4 := HM.out.sh.frozen X4.out Q4.out; have g5 := HM.out.sh.frozen X5.out Q5.out; have y0 := HM.out.sh.slice X0.out; have y1 := HM.out.sh.slice X1.out))
   go_roundg (gk - 1)
   case measure => have := X.out; have := Y.out; omega
   case rel => exact ⟨i + 1, by rw [HT.out]; congr 1; have hl_ := HL.out; (try simp only [wrap64, nBlk]); omega, by first | rfl | (congr 1; have := X.out; have := Y.out; have := HLEN.out; (try simp only [wrap64]); omega), ⟨by have := X.out; have := Y.out; omega⟩, HM⟩
  ·have c1 : decide (i < (l.length : Int)) = false := decide_eq_false hlt
   have hi : l.take i.toNat = l := List.take_of_length_le (by have := X.out; omega)
   have HI := Aside0.mk hi
   clear hi hlt
   go_wp2
   go_ret
   exact ⟨by rw [HI.out]; rfl, HM.out⟩
theorem mk_row {α : Type} {d : Kd α} {e base : Nat} {W W2 : World} {ok S : Nat → Prop} {v : Value} {xs : List α} (h : d.R e W base ok v xs) (hE : d.E = []) (hk : Kept W W2 S) (hne : ∀ k, some k = v.ownBlock → ¬ S k) : d.R e W2 base ok v xs :=
 Kd.R_mono (Kd.R_keptB (Kd.R_tight hE h) hk hne) (fun k hk' => h.1 k hk'.1.symm)
theorem mk_box {W : World} {g t : Nat} {cs : Array Value} {A B C : Prop} {E : List Nat} (hb : W.heap[g]? = some (.cells cs t (0, 0))) (e : A ∧ B ∧ C ∧ ∃ q, q ∈ E ∧ ∃ cells, W.heap[g]? = some (.cells cells q (0, 0))) (ht : ∀ q, q ∈ E → q ≠ t) : False := by
 obtain ⟨-, -, -, q, hq, cells, hc⟩ := e
 rw [hb] at hc
 injection hc with hc
 injection hc with h1 h2 h3
 exact ht q hq h2.symm
def laws_markFunc.f (l0_0 : List Int) (a0_1 : Int) (l0_2 : List S80) (a1 : Int) : Option Int := if 0 ≤ a1 ∧ a1 + nInts l0_0 + tot nBlk l0_2 ≤ 4611686018427387904 then some (a1 + nInts l0_0 + tot nBlk l0_2) else none
set_option maxHeartbeats 4000000 in
set_option maxRecDepth 100000 in
theorem laws_markFunc.calls (P0_0_ : Nat → Prop) (u9000_ : Value) (l0_0 : List Int) (a0_1 : Int) (P0_2_ : Nat → Prop) (u9002_ : Value) (l0_2 : List S80) (a1 : Int) (r : Int) (w0 w : World) (hB : Below w0.heap.size w0 w) (ho0_0 : Kd.R (Kd.int .i64) 2 w w0.heap.size P0_0_ u9000_ l0_0) (ho0_2 : Kd.R k80 80 w w0.heap.size P0_2_ u9002_ l0_2) (h : laws_markFunc.f l0_0 a0_1 l0_2 a1 = some r) :
  Calls Try.prog 13 #[.agg #[u9000_, .int .i64 a0_1, u9002_], .int .i64 a1] w fun e w' => e = .returned (.int .i64 r) ∧ Below w0.heap.size w0 w' ∧ Kept w w' (fun k_ => P0_0_ k_ ∨ P0_2_ k_) := by
 unfold laws_markFunc.f at h
 by_cases hb : 0 ≤ a1 ∧ a1 + nInts l0_0 + tot nBlk l0_2 ≤ 4611686018427387904
 ·rw [if_pos hb] at h
  obtain rfl := Option.some.inj h
  have hi : 0 ≤ nInts l0_0 := by unfold nInts; omega
  have hc := tot_nonneg nBlk_nonneg l0_2
  have HN := Aside0.mk (And.intro hb (And.intro hi hc))
  have R0 := Aside0.mk (Kd.R_mono (ok' := fun k => (P0_0_ k ∨ P0_2_ k) ∧ k < w.heap.size) (Kd.R_bound ho0_0) (fun k hk => ⟨.inl hk.1, hk.2.2.1⟩))
  have R2 := Aside0.mk (Kd.R_mono (ok' := fun k => (P0_0_ k ∨ P0_2_ k) ∧ k < w.heap.size) (Kd.R_bound ho0_2) (fun k hk => ⟨.inr hk.1, hk.2.2.1⟩))
  obtain ⟨A0, c0, rfl⟩ := Kd.R_slice ho0_0
  obtain ⟨A2, c2, rfl⟩ := Kd.R_slice ho0_2
  have HB := Aside0.mk hB
  have hu := Try.underlying30
  clear h hb hi hc ho0_0 ho0_2 hB
  go_enter Try.func13, Try.ntmps13
  go_wp2_with (first
   | ((with_reducible refine gate_dst (N := 2) rfl ?_); refine box_event ?hg (N := 2) ?hd (cs := #[.slice A0 l0_0.length c0, .int .i64 a0_1, .slice A2 l0_2.length c2]) (t := 30) ?hr ?_; (case hd => rfl); (case hg => rfl); (case hr => first | (go_simp; done) | (go_simp; rfl)); intro gb hg w2 hbox hb; have GB := Aside0.mk (show w.heap.size ≤ gb by rw [hg]; exact Nat.le_refl _); have BK := Aside0.mk hbox; have S0 := Aside0.mk (Kd.R_below R0.out hb); have S2 := Aside0.mk (Kd.R_below R2.out hb); have KW := Aside0.mk hb; have HM := Aside0.mk (show Mk w0 w2 (fun k => (P0_0_ k ∨ P0_2_ k) ∧ k < w.heap.size) w2 from ⟨Shp.refl w2, below_step HB.out hb, Kept.refl w2 _⟩); clear hg hb; have z0 : w2.cell? ⟨gb, 0, none⟩ = some (.slice A0 l0_0.length c0) := (blk_cell BK.out 0).trans rfl; have z2 : w2.cell? ⟨gb, 2, none⟩ = some (.slice A2 l0_2.length c2) := (blk_cell BK.out 2).trans rfl; clear hbox)
   | (go_at_call 14; refine (mk_ints w0 w2 _ _ _ _ _ S0.out HM.out ?ha ?hb).mono ?_; (case ha => (have hl_ := HN.out; omega)); (case hb => (have hl_ := HN.out; omega)); rintro e w3 ⟨rfl, hM⟩; have n0_ := Aside0.mk (blk_kept BK.out hM.kept (fun hk_ => by have h1_ := hk_.2; have h2_ := GB.out; omega)); clear BK HM z0 z2; have BK := n0_; have HM := Aside0.mk hM; clear n0_ hM; have z2 : w3.cell? ⟨gb, 2, none⟩ = some (.slice A2 l0_2.length c2) := (blk_cell BK.out 2).trans rfl)
   | (go_at_call 34; refine (mk_blocks w0 w2 _ _ _ _ _ S2.out HM.out ?ha ?hb).mono ?_; (case ha => (have hl_ := HN.out; omega)); (case hb => (have hl_ := HN.out; omega)); rintro e w4 ⟨rfl, hM⟩; clear BK HM z2; have HM := Aside0.mk hM; clear hM))
  go_ret
  exact ⟨rfl, HM.out.below, (Kept.of_below KW.out _).then_ HM.out.kept (fun k hk => .inl hk.1)⟩
 ·rw [if_neg hb] at h; cases h

end Go.Proofs.Ytobfgnjdcoidoaa.X
namespace Go.Proofs.Ytobfgnjdcoidoaa.X
open Go.RowKit Go.Proofs.YtobfgnjdcoidoaaW.PrintWords Go.Proofs.YtobfgnjdcoidoaaW.PrintLast Go.Proofs.YtobfgnjdcoidoaaW.PrintMore
attribute [local go_sem] max2_int min2_int max_two min_two max_three min_three max_four min_four   -- for this text's walks alone
set_option linter.unusedVariables false
set_option linter.unusedSimpArgs false

/-! ### laws_heldInt64S: function 15 -/
def laws_heldInt64S.l0 : Nat → List Int → Int → Int → Option (Int)
 | 0, _, _, _ => none
 | k + 1, x0, x1, x5 => if x5 < (x0.length : Int) then (if 0 ≤ x5 then (if (rd x0 x5) = x1 then (laws_heldInt64S.l0 k x0 (wrap64 (x1 + 1)) (wrap64 (x5 + 1))) else (some (-1))) else (none)) else (some x1)
def laws_heldInt64S.f (k : Nat) (l0 : List Int) (a1 : Int) : Option (Int) := laws_heldInt64S.l0 k l0 a1 0
theorem laws_heldInt64S.mono_l : ∀ k, (∀ y0 y1 y2, LeO (laws_heldInt64S.l0 k y0 y1 y2) (laws_heldInt64S.l0 (k + 1) y0 y1 y2))
 | 0 => fun _ _ _ r h => by simp [laws_heldInt64S.l0] at h
 | k + 1 => by
  have ih0 := laws_heldInt64S.mono_l k
  ·intro y0 y1 y2
   unfold laws_heldInt64S.l0
   repeat' first
   | (with_reducible exact ih0 _ _ _)
   | (with_reducible exact LeO.refl _)
   | (with_reducible exact LeO.none _)
   | (with_reducible refine LeO.ite ?_ ?_)
   | (with_reducible refine LeO.bind ?_ (fun _ => ?_))
   | exact ih0 _ _ _
   | exact LeO.none _
   | refine LeO.ite ?_ ?_
   | refine LeO.bind ?_ (fun _ => ?_)
theorem laws_heldInt64S.mono : ∀ a0 a1 k, LeO (laws_heldInt64S.f k a0 a1) (laws_heldInt64S.f (k + 1) a0 a1) := by
 intro a0 a1 k
 have ih0 := laws_heldInt64S.mono_l k
 unfold laws_heldInt64S.f
 repeat' first
   | (with_reducible exact ih0 _ _ _)
   | (with_reducible exact LeO.refl _)
   | (with_reducible exact LeO.none _)
   | (with_reducible refine LeO.ite ?_ ?_)
   | (with_reducible refine LeO.bind ?_ (fun _ => ?_))
   | exact ih0 _ _ _
   | exact LeO.none _
   | refine LeO.ite ?_ ?_
   | refine LeO.bind ?_ (fun _ => ?_)
set_option maxHeartbeats 8000000 in
set_option maxRecDepth 100000 in
theorem laws_heldInt64S.calls (k : Nat) (A0 : Option Addr) (c0 : Nat) (l0 : List Int) (a1 : Int) (r : Int) (w : World) (hr0 : Kd.C (Kd.int .i64) w A0 l0.length l0) (hc0 : l0.length ≤ c0) (h : laws_heldInt64S.f k l0 a1 = some r) :
  Calls Try.prog 15 #[.slice A0 l0.length c0, .int .i64 a1] w fun e w' => e = .returned (.int .i64 r) ∧ Drawn0 w w' := by
 have HR0 := Aside0.mk hr0
 have HC0 := Aside0.mk hc0
 clear hr0 hc0
 have H : (laws_heldInt64S.l0 k l0 a1 0) = some r := h
 clear h
 have H' := Aside0.mk H
 clear H
 go_enter Try.func15, Try.ntmps15
 go_wp2
 go_loopg [1, 5] k (fun kq v1 v5 w' => ∃ (x1_1 : Int) (x5_1 : Int), v1 = .int .i64 x1_1 ∧ v5 = .int .i64 x5_1 ∧ Aside0 (laws_heldInt64S.l0 kq l0 x1_1 x5_1 = some r) ∧ Aside0 (kq ≤ k) ∧ Drawn0 w w')
 case atStart => exact ⟨(a1), (0), rF_, rF_, H', ⟨Nat.le_refl _⟩, by repeat (first | exact Drawn0.refl _ | apply Drawn0.step)⟩
 case round =>
  clear H'
  try clear c1
  try clear p2
  obtain ⟨x1_1, x5_1, rfl, rfl, HA, HK1, ⟨m1, rfl⟩⟩ := hrel
  cases gk with
  | zero => exact absurd HA.out (by simp [laws_heldInt64S.l0])
  | succ k1 =>
   have H := HA.out
   clear HA
   simp only [laws_heldInt64S.l0] at H
   by_cases c3 : x5_1 < (l0.length : Int)
   ·rw [if_pos c3] at H
    have c3b0 : decide (x5_1 < (l0.length : Int)) = true := decide_eq_true c3
    clear c3
    by_cases c4 : 0 ≤ x5_1
    ·rw [if_pos c4] at H
     have c4b0 : decide (0 ≤ x5_1) = true := decide_eq_true c4
     clear c4
     by_cases c5 : (rd l0 x5_1) = x1_1
     ·rw [if_pos c5] at H
      have c5b0 : ((rd l0 x5_1) == x1_1) = true := beq_iff_eq.mpr c5
      have c5b1 : ((rd l0 x5_1) != x1_1) = false := bne_eq_false_iff_eq.mpr c5
      clear c5
      have H' := Aside0.mk H
      clear H
      have p296 : 0 ≤ (x5_1 : Int) := oD_
      have q296 : x5_1 < (l0.length : Int) := oD_
      obtain ⟨ad296, e296, hx296_0⟩ := Kd.at_int HR0.out x5_1 p296 q296
      cases e296
      replace p296 := eq_true p296
      replace q296 := eq_true q296
      go_wp2
      go_roundg k1
      case measure => have := HK1.out; omega
      case rel => exact ⟨(wrap64 (x1_1 + 1)), (wrap64 (x5_1 + 1)), rF_, rF_, H', ⟨by have := HK1.out; omega⟩, by repeat (first | exact Drawn0.refl _ | apply Drawn0.step)⟩
     ·rw [if_neg c5] at H
      have c5b0 : ((rd l0 x5_1) == x1_1) = false := beq_eq_false_iff_ne.mpr c5
      have c5b1 : ((rd l0 x5_1) != x1_1) = true := bne_iff_ne.mpr c5
      obtain rfl := Option.some.inj H
      have p296 : 0 ≤ (x5_1 : Int) := oD_
      have q296 : x5_1 < (l0.length : Int) := oD_
      obtain ⟨ad296, e296, hx296_0⟩ := Kd.at_int HR0.out x5_1 p296 q296
      cases e296
      replace p296 := eq_true p296
      replace q296 := eq_true q296
      go_wp2
      go_ret
      exact ⟨rF_, by repeat (first | exact Drawn0.refl _ | apply Drawn0.step)⟩
    ·rw [if_neg c4] at H
     exact absurd H (by simp)
   ·rw [if_neg c3] at H
    have c3b0 : decide (x5_1 < (l0.length : Int)) = false := decide_eq_false c3
    clear c3
    obtain rfl := Option.some.inj H
    go_wp2
    go_ret
    exact ⟨rF_, by repeat (first | exact Drawn0.refl _ | apply Drawn0.step)⟩

end Go.Proofs.Ytobfgnjdcoidoaa.X
namespace Go.Proofs.Ytobfgnjdcoidoaa.X
open Go.RowKit Go.Proofs.YtobfgnjdcoidoaaW.PrintWords Go.Proofs.YtobfgnjdcoidoaaW.PrintLast Go.Proofs.YtobfgnjdcoidoaaW.PrintMore
theorem pk_ {p : Prop} (h : p := by first | exact hk_ | exact hk_.1 | exact hk_.2 | exact hk_.1.1 | exact hk_.1.2 | exact hk_.2.1 | exact hk_.2.2 | exact hk_.1.1.1 | exact hk_.1.1.2 | exact hk_.1.2.1 | exact hk_.1.2.2 | exact hk_.2.1.1 | exact hk_.2.1.2 | exact hk_.2.2.1 | exact hk_.2.2.2 | exact hk_.1.1.1.1 | exact hk_.1.1.1.2 | exact hk_.1.1.2.1 | exact hk_.1.1.2.2 | exact hk_.1.2.1.1 | exact hk_.1.2.1.2 | exact hk_.1.2.2.1 | exact hk_.1.2.2.2 | exact hk_.2.1.1.1 | exact hk_.2.1.1.2 | exact hk_.2.1.2.1 | exact hk_.2.1.2.2 | exact hk_.2.2.1.1 | exact hk_.2.2.1.2 | exact hk_.2.2.2.1 | exact hk_.2.2.2.2 | exact hk_.1.1.1.1.1 | exact hk_.1.1.1.1.2 | exact hk_.1.1.1.2.1 | exact hk_.1.1.1.2.2 | exact hk_.1.1.2.1.1 | exact hk_.1.1.2.1.2 | exact hk_.1.1.2.2.1 | exact hk_.1.1.2.2.2 | exact hk_.1.2.1.1.1 | exact hk_.1.2.1.1.2 | exact hk_.1.2.1.2.1 | exact hk_.1.2.1.2.2 | exact hk_.1.2.2.1.1 | exact hk_.1.2.2.1.2 | exact hk_.1.2.2.2.1 | exact hk_.1.2.2.2.2 | exact hk_.2.1.1.1.1 | exact hk_.2.1.1.1.2 | exact hk_.2.1.1.2.1 | exact hk_.2.1.1.2.2 | exact hk_.2.1.2.1.1 | exact hk_.2.1.2.1.2 | exact hk_.2.1.2.2.1 | exact hk_.2.1.2.2.2 | exact hk_.2.2.1.1.1 | exact hk_.2.2.1.1.2 | exact hk_.2.2.1.2.1 | exact hk_.2.2.1.2.2 | exact hk_.2.2.2.1.1 | exact hk_.2.2.2.1.2 | exact hk_.2.2.2.2.1 | exact hk_.2.2.2.2.2 | exact hk_.1.1.1.1.1.2 | exact hk_.1.1.1.1.1.1.2 | exact hk_.1.1.1.1.1.1.1.2 | exact hk_.1.1.1.1.1.1.1.1.2 | exact hk_.1.1.1.1.1.1.1.1.1.2 | exact hk_.1.1.1.1.1.1.1.1.1.1.2 | exact hk_.1.1.1.1.1.1.1.1.1.1.1.2 | exact hk_.1.1.1.1.1.1.1.1.1.1.1.1.2 | exact hk_.1.1.1.1.1.1.1.1.1.1.1.1.1.2) : p := h
attribute [local go_sem] max2_int min2_int max_two min_two max_three min_three max_four min_four   -- for this text's walks alone
set_option linter.unusedVariables false
set_option linter.unusedSimpArgs false

/-! ### laws_FnExactPredsOf: function 3 -/
def laws_FnExactPredsOf.j0 : Nat → Int → List Int → List Int → Bool → List Int → Int → List (S74) → Option (Bool)
 | 0, _, _, _, _, _, _, _ => none
 | k + 1, x1, x6, x8, x46, x298000, x298001, x298002 => if x46 = true then (some false) else ((laws_markInt64S.f k x8 1).bind fun bt331 => ((laws_heldInt64S.f k bt331.2 1).bind fun t333 => (if t333 < 0 then (some false) else (if t333 = bt331.1 then ((laws_toFunc.f k x298000 x298001 x298002).bind fun bt334 => ((impl_PredsOf.f k bt334.1 bt334.2.1 bt334.2.2 x1).bind fun t341 => ((laws_eqInt64S.f k t341 x6).bind fun t344 => (if t344 = true then ((laws_heldInt64S.f k bt331.2 1).bind fun t345 => (if t345 < 0 then (some false) else (if t345 = bt331.1 then (some true) else (some false)))) else (some false))))) else (some false)))))
def laws_FnExactPredsOf.f (k : Nat) (l0_0 : List Int) (a0_1 : Int) (l0_2 : List (S74)) (a1 : Int) : Option (Bool) := (laws_szFunc.f k l0_0 a0_1 l0_2 1048576).bind fun t298 => (if t298 < 0 then (some true) else ((laws_toFunc.f k l0_0 a0_1 l0_2).bind fun bt299 => ((spec_PredsOf.f k bt299.1 bt299.2.1 bt299.2.2 a1).bind fun t306 => ((laws_toFunc.f k l0_0 a0_1 l0_2).bind fun bt309 => ((impl_PredsOf.f k bt309.1 bt309.2.1 bt309.2.2 a1).bind fun t317 => ((laws_eqInt64S.f k t317 t306).bind fun t320 => (if t320 = true then ((laws_toFunc.f k l0_0 a0_1 l0_2).bind fun bt321 => ((laws_eqFunc.f k bt309.1 bt309.2.1 bt309.2.2 bt321.1 bt321.2.1 bt321.2.2).bind fun t328 => (if t328 = true then ((laws_markFunc.f bt309.1 bt309.2.1 bt309.2.2 1).bind fun t329 => (if t329 < 0 then (laws_FnExactPredsOf.j0 k a1 t306 t317 true l0_0 a0_1 l0_2) else ((laws_eqInt64S.f k t317 t306).bind fun t330 => (laws_FnExactPredsOf.j0 k a1 t306 t317 (!t330) l0_0 a0_1 l0_2)))) else (some false)))) else (some false))))))))
theorem laws_FnExactPredsOf.mono_l : ∀ k, (∀ y0 y1 y2 y3 y4 y5 y6, LeO (laws_FnExactPredsOf.j0 k y0 y1 y2 y3 y4 y5 y6) (laws_FnExactPredsOf.j0 (k + 1) y0 y1 y2 y3 y4 y5 y6))
 | 0 => fun _ _ _ _ _ _ _ r h => by simp [laws_FnExactPredsOf.j0] at h
 | k + 1 => by
  have ih0 := laws_FnExactPredsOf.mono_l k
  ·intro y0 y1 y2 y3 y4 y5 y6
   unfold laws_FnExactPredsOf.j0
   repeat' first
   | (with_reducible exact ih0 _ _ _ _ _ _ _)
   | (with_reducible exact impl_PredsOf.mono _ _ _ _ _)
   | (with_reducible exact laws_eqFunc.mono _ _ _ _ _ _ _)
   | (with_reducible exact laws_eqInt64S.mono _ _ _)
   | (with_reducible exact laws_heldInt64S.mono _ _ _)
   | (with_reducible exact laws_markInt64S.mono _ _ _)
   | (with_reducible exact laws_szFunc.mono _ _ _ _ _)
   | (with_reducible exact laws_toFunc.mono _ _ _ _)
   | (with_reducible exact spec_PredsOf.mono _ _ _ _ _)
   | (with_reducible exact LeO.refl _)
   | (with_reducible exact LeO.none _)
   | (with_reducible refine LeO.ite ?_ ?_)
   | (with_reducible refine LeO.bind ?_ (fun _ => ?_))
   | exact ih0 _ _ _ _ _ _ _
   | exact impl_PredsOf.mono _ _ _ _ _
   | exact laws_eqFunc.mono _ _ _ _ _ _ _
   | exact laws_eqInt64S.mono _ _ _
   | exact laws_heldInt64S.mono _ _ _
   | exact laws_markInt64S.mono _ _ _
   | exact laws_szFunc.mono _ _ _ _ _
   | exact laws_toFunc.mono _ _ _ _
   | exact spec_PredsOf.mono _ _ _ _ _
   | exact LeO.none _
   | refine LeO.ite ?_ ?_
   | refine LeO.bind ?_ (fun _ => ?_)
theorem laws_FnExactPredsOf.mono : ∀ a0 a1 a2 a3 k, LeO (laws_FnExactPredsOf.f k a0 a1 a2 a3) (laws_FnExactPredsOf.f (k + 1) a0 a1 a2 a3) := by
 intro a0 a1 a2 a3 k
 have ih0 := laws_FnExactPredsOf.mono_l k
 unfold laws_FnExactPredsOf.f
 repeat' first
   | (with_reducible exact ih0 _ _ _ _ _ _ _)
   | (with_reducible exact impl_PredsOf.mono _ _ _ _ _)
   | (with_reducible exact laws_eqFunc.mono _ _ _ _ _ _ _)
   | (with_reducible exact laws_eqInt64S.mono _ _ _)
   | (with_reducible exact laws_heldInt64S.mono _ _ _)
   | (with_reducible exact laws_markInt64S.mono _ _ _)
   | (with_reducible exact laws_szFunc.mono _ _ _ _ _)
   | (with_reducible exact laws_toFunc.mono _ _ _ _)
   | (with_reducible exact spec_PredsOf.mono _ _ _ _ _)
   | (with_reducible exact LeO.refl _)
   | (with_reducible exact LeO.none _)
   | (with_reducible refine LeO.ite ?_ ?_)
   | (with_reducible refine LeO.bind ?_ (fun _ => ?_))
   | exact ih0 _ _ _ _ _ _ _
   | exact impl_PredsOf.mono _ _ _ _ _
   | exact laws_eqFunc.mono _ _ _ _ _ _ _
   | exact laws_eqInt64S.mono _ _ _
   | exact laws_heldInt64S.mono _ _ _
   | exact laws_markInt64S.mono _ _ _
   | exact laws_szFunc.mono _ _ _ _ _
   | exact laws_toFunc.mono _ _ _ _
   | exact spec_PredsOf.mono _ _ _ _ _
   | exact LeO.none _
   | refine LeO.ite ?_ ?_
   | refine LeO.bind ?_ (fun _ => ?_)
set_option maxHeartbeats 8000000 in
set_option maxRecDepth 100000 in
theorem laws_FnExactPredsOf.calls (k : Nat) (A0_0 : Option Addr) (c0_0 : Nat) (l0_0 : List Int) (a0_1 : Int) (A0_2 : Option Addr) (c0_2 : Nat) (l0_2 : List (S74)) (a1 : Int) (r : Bool) (w : World) (hr0_0 : Kd.C (Kd.int .i64) w A0_0 l0_0.length l0_0) (hc0_0 : l0_0.length ≤ c0_0) (hr0_2 : Kd.C k74 w A0_2 l0_2.length l0_2) (hc0_2 : l0_2.length ≤ c0_2) (h : laws_FnExactPredsOf.f k l0_0 a0_1 l0_2 a1 = some r) :
  Calls Try.prog 3 #[.agg #[.slice A0_0 l0_0.length c0_0, .int .i64 a0_1, .slice A0_2 l0_2.length c0_2], .int .i64 a1] w fun e w' => e = .returned (.bool r) ∧ Below w.heap.size w w' := by
 have hu25 := Try.underlying25
 have hu30 := Try.underlying30
 have HR0_0 := Aside0.mk hr0_0
 have HC0_0 := Aside0.mk hc0_0
 clear hr0_0 hc0_0
 have HR0_2 := Aside0.mk hr0_2
 have HC0_2 := Aside0.mk hc0_2
 clear hr0_2 hc0_2
 have HB := Aside0.mk (Below.refl w.heap.size w)
 have H : ((laws_szFunc.f k l0_0 a0_1 l0_2 1048576).bind fun t298 => (if t298 < 0 then (some true) else ((laws_toFunc.f k l0_0 a0_1 l0_2).bind fun bt299 => ((spec_PredsOf.f k bt299.1 bt299.2.1 bt299.2.2 a1).bind fun t306 => ((laws_toFunc.f k l0_0 a0_1 l0_2).bind fun bt309 => ((impl_PredsOf.f k bt309.1 bt309.2.1 bt309.2.2 a1).bind fun t317 => ((laws_eqInt64S.f k t317 t306).bind fun t320 => (if t320 = true then ((laws_toFunc.f k l0_0 a0_1 l0_2).bind fun bt321 => ((laws_eqFunc.f k bt309.1 bt309.2.1 bt309.2.2 bt321.1 bt321.2.1 bt321.2.2).bind fun t328 => (if t328 = true then ((laws_markFunc.f bt309.1 bt309.2.1 bt309.2.2 1).bind fun t329 => (if t329 < 0 then (laws_FnExactPredsOf.j0 k a1 t306 t317 true l0_0 a0_1 l0_2) else ((laws_eqInt64S.f k t317 t306).bind fun t330 => (laws_FnExactPredsOf.j0 k a1 t306 t317 (!t330) l0_0 a0_1 l0_2)))) else (some false)))) else (some false))))))))) = some r := h
 clear h
 replace H := Option.bind_eq_some_iff.mp H
 obtain ⟨t298, A30, H⟩ := H
 replace H : (if t298 < 0 then (some true) else ((laws_toFunc.f k l0_0 a0_1 l0_2).bind fun bt299 => ((spec_PredsOf.f k bt299.1 bt299.2.1 bt299.2.2 a1).bind fun t306 => ((laws_toFunc.f k l0_0 a0_1 l0_2).bind fun bt309 => ((impl_PredsOf.f k bt309.1 bt309.2.1 bt309.2.2 a1).bind fun t317 => ((laws_eqInt64S.f k t317 t306).bind fun t320 => (if t320 = true then ((laws_toFunc.f k l0_0 a0_1 l0_2).bind fun bt321 => ((laws_eqFunc.f k bt309.1 bt309.2.1 bt309.2.2 bt321.1 bt321.2.1 bt321.2.2).bind fun t328 => (if t328 = true then ((laws_markFunc.f bt309.1 bt309.2.1 bt309.2.2 1).bind fun t329 => (if t329 < 0 then (laws_FnExactPredsOf.j0 k a1 t306 t317 true l0_0 a0_1 l0_2) else ((laws_eqInt64S.f k t317 t306).bind fun t330 => (laws_FnExactPredsOf.j0 k a1 t306 t317 (!t330) l0_0 a0_1 l0_2)))) else (some false)))) else (some false)))))))) = some r := H
 have A3 := Aside0.mk A30
 clear A30
 by_cases c4 : t298 < 0
 ·rw [if_pos c4] at H
  have c4b0 : decide (t298 < 0) = true := decide_eq_true c4
  clear c4
  obtain rfl := Option.some.inj H
  go_enter Try.func3, Try.ntmps3
  go_wp2_with (first | ((with_reducible refine gate_dst (N := 2) rfl ?_); refine box_event ?hg (N := 2) ?hd (cs := #[.slice A0_0 l0_0.length c0_0, .int .i64 a0_1, .slice A0_2 l0_2.length c0_2]) (t := 25) ?hr ?_; (case hd => rfl); (case hg => rfl); (case hr => first | (go_simp; done) | (go_simp; rfl)); intro gb297 hg w5 hbox hb; have n0_ := Aside0.mk (below_step hB_ hb); have n1_ := Aside0.mk (hbox); have n2_ := Aside0.mk ((by rw [hg]; exact (below_size hB_) : w.heap.size ≤ gb297)); have n3_ := Aside0.mk ((by rw [hg]; exact (below_size hB_) : w.heap.size ≤ gb297)); clear HB; have HB := n0_; have BK297 := n1_; have GW297 := n2_; have GE297 := n3_; clear n0_ n1_ n2_ n3_; clear hb hbox hg; obtain ⟨hcz6_0, hcz6_1, hcz6_2, hfz6_0, hfz6_1, hfz6_2⟩ := blkc3_ BK297.out) | ((with_reducible refine gate_callee (f := 7) rfl ?_); refine gL_ (some 15) Try.func7 #[.agg #[.slice A0_0 l0_0.length c0_0, .int .i64 a0_1, .slice A0_2 l0_2.length c0_2], .int .i64 1048576] ?_; (with_reducible refine (laws_szFunc.calls k _ _ l0_0 a0_1 _ _ l0_2 1048576 t298 _ ?side1 ?side2 ?side3 ?side4 A3.out).mono ?_); (case side1 => repeat (first | exact (Kd.C_below HR0_0.out HB.out) | (with_reducible refine Kd.C_alloc ?_ _) | (with_reducible refine Kd.C_drewN ?_ _) | (with_reducible refine Kd.C_drew ?_))); (case side2 => exact HC0_0.out); (case side3 => repeat (first | exact (Kd.C_below HR0_2.out HB.out) | (with_reducible refine Kd.C_alloc ?_ _) | (with_reducible refine Kd.C_drewN ?_ _) | (with_reducible refine Kd.C_drew ?_))); (case side4 => exact HC0_2.out); rintro e w7 ⟨rfl, hb⟩; refine ⟨_, rfl, ?_⟩; have n0_ := Aside0.mk (blk_below (g := gb297) (o := .cells #[.slice A0_0 l0_0.length c0_0, .int .i64 a0_1, .slice A0_2 l0_2.length c0_2] 25 (0, 0)) bK297_ hb); have n1_ := Aside0.mk (below_step hS_ hb); clear BK297; clear HB; have BK297 := n0_; have HB := n1_; clear n0_ n1_; (try clear hb); (try clear hb2); (try clear hk); (try clear hi)))
  go_ret
  exact ⟨rG_, hS_⟩
 ·rw [if_neg c4] at H
  have c4b0 : decide (t298 < 0) = false := decide_eq_false c4
  clear c4
  replace H := Option.bind_eq_some_iff.mp H
  obtain ⟨⟨t299, t302, t303⟩, A80, H⟩ := H
  replace H : ((spec_PredsOf.f k t299 t302 t303 a1).bind fun t306 => ((laws_toFunc.f k l0_0 a0_1 l0_2).bind fun bt309 => ((impl_PredsOf.f k bt309.1 bt309.2.1 bt309.2.2 a1).bind fun t317 => ((laws_eqInt64S.f k t317 t306).bind fun t320 => (if t320 = true then ((laws_toFunc.f k l0_0 a0_1 l0_2).bind fun bt321 => ((laws_eqFunc.f k bt309.1 bt309.2.1 bt309.2.2 bt321.1 bt321.2.1 bt321.2.2).bind fun t328 => (if t328 = true then ((laws_markFunc.f bt309.1 bt309.2.1 bt309.2.2 1).bind fun t329 => (if t329 < 0 then (laws_FnExactPredsOf.j0 k a1 t306 t317 true l0_0 a0_1 l0_2) else ((laws_eqInt64S.f k t317 t306).bind fun t330 => (laws_FnExactPredsOf.j0 k a1 t306 t317 (!t330) l0_0 a0_1 l0_2)))) else (some false)))) else (some false)))))) = some r := H
  have A8 := Aside0.mk A80
  clear A80
  replace H := Option.bind_eq_some_iff.mp H
  obtain ⟨t306, A90, H⟩ := H
  replace H : ((laws_toFunc.f k l0_0 a0_1 l0_2).bind fun bt309 => ((impl_PredsOf.f k bt309.1 bt309.2.1 bt309.2.2 a1).bind fun t317 => ((laws_eqInt64S.f k t317 t306).bind fun t320 => (if t320 = true then ((laws_toFunc.f k l0_0 a0_1 l0_2).bind fun bt321 => ((laws_eqFunc.f k bt309.1 bt309.2.1 bt309.2.2 bt321.1 bt321.2.1 bt321.2.2).bind fun t328 => (if t328 = true then ((laws_markFunc.f bt309.1 bt309.2.1 bt309.2.2 1).bind fun t329 => (if t329 < 0 then (laws_FnExactPredsOf.j0 k a1 t306 t317 true l0_0 a0_1 l0_2) else ((laws_eqInt64S.f k t317 t306).bind fun t330 => (laws_FnExactPredsOf.j0 k a1 t306 t317 (!t330) l0_0 a0_1 l0_2)))) else (some false)))) else (some false))))) = some r := H
  have A9 := Aside0.mk A90
  clear A90
  replace H := Option.bind_eq_some_iff.mp H
  obtain ⟨⟨t309, t312, t313⟩, A100, H⟩ := H
  replace H : ((impl_PredsOf.f k t309 t312 t313 a1).bind fun t317 => ((laws_eqInt64S.f k t317 t306).bind fun t320 => (if t320 = true then ((laws_toFunc.f k l0_0 a0_1 l0_2).bind fun bt321 => ((laws_eqFunc.f k t309 t312 t313 bt321.1 bt321.2.1 bt321.2.2).bind fun t328 => (if t328 = true then ((laws_markFunc.f t309 t312 t313 1).bind fun t329 => (if t329 < 0 then (laws_FnExactPredsOf.j0 k a1 t306 t317 true l0_0 a0_1 l0_2) else ((laws_eqInt64S.f k t317 t306).bind fun t330 => (laws_FnExactPredsOf.j0 k a1 t306 t317 (!t330) l0_0 a0_1 l0_2)))) else (some false)))) else (some false)))) = some r := H
  have A10 := Aside0.mk A100
  clear A100
  replace H := Option.bind_eq_some_iff.mp H
  obtain ⟨t317, A110, H⟩ := H
  replace H : ((laws_eqInt64S.f k t317 t306).bind fun t320 => (if t320 = true then ((laws_toFunc.f k l0_0 a0_1 l0_2).bind fun bt321 => ((laws_eqFunc.f k t309 t312 t313 bt321.1 bt321.2.1 bt321.2.2).bind fun t328 => (if t328 = true then ((laws_markFunc.f t309 t312 t313 1).bind fun t329 => (if t329 < 0 then (laws_FnExactPredsOf.j0 k a1 t306 t317 true l0_0 a0_1 l0_2) else ((laws_eqInt64S.f k t317 t306).bind fun t330 => (laws_FnExactPredsOf.j0 k a1 t306 t317 (!t330) l0_0 a0_1 l0_2)))) else (some false)))) else (some false))) = some r := H
  have A11 := Aside0.mk A110
  clear A110
  replace H := Option.bind_eq_some_iff.mp H
  obtain ⟨t320, A120, H⟩ := H
  replace H : (if t320 = true then ((laws_toFunc.f k l0_0 a0_1 l0_2).bind fun bt321 => ((laws_eqFunc.f k t309 t312 t313 bt321.1 bt321.2.1 bt321.2.2).bind fun t328 => (if t328 = true then ((laws_markFunc.f t309 t312 t313 1).bind fun t329 => (if t329 < 0 then (laws_FnExactPredsOf.j0 k a1 t306 t317 true l0_0 a0_1 l0_2) else ((laws_eqInt64S.f k t317 t306).bind fun t330 => (laws_FnExactPredsOf.j0 k a1 t306 t317 (!t330) l0_0 a0_1 l0_2)))) else (some false)))) else (some false)) = some r := H
  have A12 := Aside0.mk A120
  clear A120
  by_cases c13 : t320 = true
  ·subst c13
   have H1 := (if_pos rfl).symm.trans H
   clear H
   have H := H1
   clear H1
   replace H := Option.bind_eq_some_iff.mp H
   obtain ⟨⟨t321, t324, t325⟩, A140, H⟩ := H
   replace H : ((laws_eqFunc.f k t309 t312 t313 t321 t324 t325).bind fun t328 => (if t328 = true then ((laws_markFunc.f t309 t312 t313 1).bind fun t329 => (if t329 < 0 then (laws_FnExactPredsOf.j0 k a1 t306 t317 true l0_0 a0_1 l0_2) else ((laws_eqInt64S.f k t317 t306).bind fun t330 => (laws_FnExactPredsOf.j0 k a1 t306 t317 (!t330) l0_0 a0_1 l0_2)))) else (some false))) = some r := H
   have A14 := Aside0.mk A140
   clear A140
   replace H := Option.bind_eq_some_iff.mp H
   obtain ⟨t328, A150, H⟩ := H
   replace H : (if t328 = true then ((laws_markFunc.f t309 t312 t313 1).bind fun t329 => (if t329 < 0 then (laws_FnExactPredsOf.j0 k a1 t306 t317 true l0_0 a0_1 l0_2) else ((laws_eqInt64S.f k t317 t306).bind fun t330 => (laws_FnExactPredsOf.j0 k a1 t306 t317 (!t330) l0_0 a0_1 l0_2)))) else (some false)) = some r := H
   have A15 := Aside0.mk A150
   clear A150
   by_cases c16 : t328 = true
   ·subst c16
    have H1 := (if_pos rfl).symm.trans H
    clear H
    have H := H1
    clear H1
    replace H := Option.bind_eq_some_iff.mp H
    obtain ⟨t329, A170, H⟩ := H
    replace H : (if t329 < 0 then (laws_FnExactPredsOf.j0 k a1 t306 t317 true l0_0 a0_1 l0_2) else ((laws_eqInt64S.f k t317 t306).bind fun t330 => (laws_FnExactPredsOf.j0 k a1 t306 t317 (!t330) l0_0 a0_1 l0_2))) = some r := H
    have A17 := Aside0.mk A170
    clear A170
    have HC18 := Aside0.mk H
    clear H
    go_enter Try.func3, Try.ntmps3
    try go_wp2_with (first | ((with_reducible refine gate_dst (N := 2) rfl ?_); refine box_event ?hg (N := 2) ?hd (cs := #[.slice A0_0 l0_0.length c0_0, .int .i64 a0_1, .slice A0_2 l0_2.length c0_2]) (t := 25) ?hr ?_; (case hd => rfl); (case hg => rfl); (case hr => first | (go_simp; done) | (go_simp; rfl)); intro gb297 hg w19 hbox hb; have n0_ := Aside0.mk (below_step hB_ hb); have n1_ := Aside0.mk (hbox); have n2_ := Aside0.mk ((by rw [hg]; exact (below_size hB_) : w.heap.size ≤ gb297)); have n3_ := Aside0.mk ((by rw [hg]; exact (below_size hB_) : w.heap.size ≤ gb297)); clear HB; have HB := n0_; have BK297 := n1_; have GW297 := n2_; have GE297 := n3_; clear n0_ n1_ n2_ n3_; clear hb hbox hg; obtain ⟨hcz20_0, hcz20_1, hcz20_2, hfz20_0, hfz20_1, hfz20_2⟩ := blkc3_ BK297.out) | ((with_reducible refine gate_callee (f := 7) rfl ?_); refine gL_ (some 15) Try.func7 #[.agg #[.slice A0_0 l0_0.length c0_0, .int .i64 a0_1, .slice A0_2 l0_2.length c0_2], .int .i64 1048576] ?_; (with_reducible refine (laws_szFunc.calls k _ _ l0_0 a0_1 _ _ l0_2 1048576 t298 _ ?side1 ?side2 ?side3 ?side4 A3.out).mono ?_); (case side1 => repeat (first | exact (Kd.C_below HR0_0.out HB.out) | (with_reducible refine Kd.C_alloc ?_ _) | (with_reducible refine Kd.C_drewN ?_ _) | (with_reducible refine Kd.C_drew ?_))); (case side2 => exact HC0_0.out); (case side3 => repeat (first | exact (Kd.C_below HR0_2.out HB.out) | (with_reducible refine Kd.C_alloc ?_ _) | (with_reducible refine Kd.C_drewN ?_ _) | (with_reducible refine Kd.C_drew ?_))); (case side4 => exact HC0_2.out); rintro e w21 ⟨rfl, hb⟩; refine ⟨_, rfl, ?_⟩; have n0_ := Aside0.mk (blk_below (g := gb297) (o := .cells #[.slice A0_0 l0_0.length c0_0, .int .i64 a0_1, .slice A0_2 l0_2.length c0_2] 25 (0, 0)) bK297_ hb); have n1_ := Aside0.mk (below_step hS_ hb); clear BK297; clear HB; have BK297 := n0_; have HB := n1_; clear n0_ n1_; (try clear hb); (try clear hb2); (try clear hk); (try clear hi); obtain ⟨hcz22_0, hcz22_1, hcz22_2, hfz22_0, hfz22_1, hfz22_2⟩ := blkc3_ BK297.out) | ((with_reducible refine gate_callee (f := 9) rfl ?_); refine gL_ (some 19) Try.func9 #[.agg #[.slice A0_0 l0_0.length c0_0, .int .i64 a0_1, .slice A0_2 l0_2.length c0_2]] ?_; (with_reducible refine (laws_toFunc.calls k _ _ l0_0 a0_1 _ _ l0_2 t299 t302 t303 _ ?side1 ?side2 ?side3 ?side4 A8.out).mono ?_); (case side1 => repeat (first | exact (Kd.C_below HR0_0.out HB.out) | (with_reducible refine Kd.C_alloc ?_ _) | (with_reducible refine Kd.C_drewN ?_ _) | (with_reducible refine Kd.C_drew ?_))); (case side2 => exact HC0_0.out); (case side3 => repeat (first | exact (Kd.C_below HR0_2.out HB.out) | (with_reducible refine Kd.C_alloc ?_ _) | (with_reducible refine Kd.C_drewN ?_ _) | (with_reducible refine Kd.C_drew ?_))); (case side4 => exact HC0_2.out); rintro e w23 ⟨v300, v304, rfl, ho0, ho1, hb⟩; refine ⟨_, rfl, ?_⟩; have n0_ := Aside0.mk (Kd.R_lower ho0 (below_size hS_)); have n1_ := Aside0.mk (Kd.R_lower ho1 (below_size hS_)); have n2_ := Aside0.mk (blk_below (g := gb297) (o := .cells #[.slice A0_0 l0_0.length c0_0, .int .i64 a0_1, .slice A0_2 l0_2.length c0_2] 25 (0, 0)) bK297_ hb); have n3_ := Aside0.mk (below_step hS_ hb); clear BK297; clear HB; have HO301 := n0_; have HO305 := n1_; have BK297 := n2_; have HB := n3_; clear n0_ n1_ n2_ n3_; (try clear hb); (try clear hb2); (try clear hk); (try clear hi); (try clear ho0); (try clear ho1); obtain ⟨Ao24, co24, eo24⟩ := Kd.R_slice HO301.out; subst eo24; obtain ⟨Ao25, co25, eo25⟩ := Kd.R_slice HO305.out; subst eo25) | ((with_reducible refine gate_callee (f := 8) rfl ?_); refine gL_ (some 21) Try.func8 #[.agg #[.slice Ao24 t299.length co24, .int .i64 t302, .slice Ao25 t303.length co25], .int .i64 a1] ?_; (with_reducible refine (spec_PredsOf.calls k _ _ t299 t302 _ _ t303 a1 t306 _ ?side1 ?side2 ?side3 ?side4 A9.out).mono ?_); (case side1 => repeat (first | exact (Kd.R_reads' HO301.out).2.2 | (with_reducible refine Kd.C_alloc ?_ _) | (with_reducible refine Kd.C_drewN ?_ _) | (with_reducible refine Kd.C_drew ?_))); (case side2 => exact (Kd.R_reads' HO301.out).2.1); (case side3 => repeat (first | exact (Kd.R_reads' HO305.out).2.2 | (with_reducible refine Kd.C_alloc ?_ _) | (with_reducible refine Kd.C_drewN ?_ _) | (with_reducible refine Kd.C_drew ?_))); (case side4 => exact (Kd.R_reads' HO305.out).2.1); rintro e w26 ⟨v307, rfl, ho0, hb⟩; refine ⟨_, rfl, ?_⟩; have n0_ := Aside0.mk (Kd.R_elder' rHO301_ (Kd.R_base ho0) hb); have n1_ := Aside0.mk (Kd.R_elder' rHO305_ (Kd.R_base ho0) hb); have n2_ := Aside0.mk (Kd.R_lower (Kd.R_new' ho0 (Kd.R_lt rHO301_)) (below_size hS_)); have n3_ := Aside0.mk (blk_below (g := gb297) (o := .cells #[.slice A0_0 l0_0.length c0_0, .int .i64 a0_1, .slice A0_2 l0_2.length c0_2] 25 (0, 0)) bK297_ hb); have n4_ := Aside0.mk (below_step hS_ hb); clear HO301; clear HO305; clear BK297; clear HB; have HO301 := n0_; have HO305 := n1_; have HO308 := n2_; have BK297 := n3_; have HB := n4_; clear n0_ n1_ n2_ n3_ n4_; (try clear hb); (try clear hb2); (try clear hk); (try clear hi); (try clear ho0); obtain ⟨hcz27_0, hcz27_1, hcz27_2, hfz27_0, hfz27_1, hfz27_2⟩ := blkc3_ BK297.out) | ((with_reducible refine gate_callee (f := 9) rfl ?_); refine gL_ (some 23) Try.func9 #[.agg #[.slice A0_0 l0_0.length c0_0, .int .i64 a0_1, .slice A0_2 l0_2.length c0_2]] ?_; (with_reducible refine (laws_toFunc.calls k _ _ l0_0 a0_1 _ _ l0_2 t309 t312 t313 _ ?side1 ?side2 ?side3 ?side4 A10.out).mono ?_); (case side1 => repeat (first | exact (Kd.C_below HR0_0.out HB.out) | (with_reducible refine Kd.C_alloc ?_ _) | (with_reducible refine Kd.C_drewN ?_ _) | (with_reducible refine Kd.C_drew ?_))); (case side2 => exact HC0_0.out); (case side3 => repeat (first | exact (Kd.C_below HR0_2.out HB.out) | (with_reducible refine Kd.C_alloc ?_ _) | (with_reducible refine Kd.C_drewN ?_ _) | (with_reducible refine Kd.C_drew ?_))); (case side4 => exact HC0_2.out); rintro e w28 ⟨v310, v314, rfl, ho0, ho1, hb⟩; refine ⟨_, rfl, ?_⟩; have n0_ := Aside0.mk (Kd.R_elder' rHO301_ (Kd.R_base ho0) hb); have n1_ := Aside0.mk (Kd.R_mono (Kd.R_told (Kd.R_told (Kd.R_old rHO305_ hb) (Kd.R_base ho0)) (Kd.R_base ho1)) (fun _ h_ => h_.1)); have n2_ := Aside0.mk (Kd.R_elder' rHO308_ (Kd.R_base ho0) hb); have n3_ := Aside0.mk (Kd.R_lower (Kd.R_new' (Kd.R_new' ho0 (Kd.R_lt rHO301_)) (Kd.R_lt rHO308_)) (below_size hS_)); have n4_ := Aside0.mk (Kd.R_lower (Kd.R_new' (Kd.R_new' (Kd.R_new' ho1 (Kd.R_lt rHO301_)) (Kd.R_lt rHO305_)) (Kd.R_lt rHO308_)) (below_size hS_)); have n5_ := Aside0.mk (blk_below (g := gb297) (o := .cells #[.slice A0_0 l0_0.length c0_0, .int .i64 a0_1, .slice A0_2 l0_2.length c0_2] 25 (0, 0)) bK297_ hb); have n6_ := Aside0.mk (below_step hS_ hb); clear HO301; clear HO305; clear HO308; clear BK297; clear HB; have HO301 := n0_; have HO305 := n1_; have HO308 := n2_; have HO311 := n3_; have HO315 := n4_; have BK297 := n5_; have HB := n6_; clear n0_ n1_ n2_ n3_ n4_ n5_ n6_; (try clear hb); (try clear hb2); (try clear hk); (try clear hi); (try clear ho0); (try clear ho1)) | ((with_reducible refine gate_dst (N := 7) rfl ?_); refine box_event ?hg (N := 7) ?hd (cs := #[.slice none 0 0, .int .i64 0, .slice none 0 0]) (t := 30) ?hr ?_; (case hd => rfl); (case hg => rfl); (case hr => first | (go_simp; done) | (go_simp; rfl)); intro gb316 hg w29 hbox hb; have n0_ := Aside0.mk (Kd.R_below rHO301_ hb); have n1_ := Aside0.mk (Kd.R_below rHO305_ hb); have n2_ := Aside0.mk (Kd.R_below rHO308_ hb); have n3_ := Aside0.mk (Kd.R_below rHO311_ hb); have n4_ := Aside0.mk (Kd.R_below rHO315_ hb); have n5_ := Aside0.mk (blk_below (g := gb297) (o := .cells #[.slice A0_0 l0_0.length c0_0, .int .i64 a0_1, .slice A0_2 l0_2.length c0_2] 25 (0, 0)) bK297_ hb); have n6_ := Aside0.mk (below_step hS_ hb); have n7_ := Aside0.mk (hbox); have n8_ := Aside0.mk ((by rw [hg]; exact (below_size hS_) : w.heap.size ≤ gb316)); have n9_ := Aside0.mk ((by rw [hg]; exact (below_size hS_) : w.heap.size ≤ gb316)); have n10_ := Aside0.mk ((by rw [hg]; exact Nat.ne_of_lt (blk_lt (g := gb297) (o := .cells #[.slice A0_0 l0_0.length c0_0, .int .i64 a0_1, .slice A0_2 l0_2.length c0_2] 25 (0, 0)) bK297_) : gb297 ≠ gb316)); have n11_ := Aside0.mk ((by rw [hg]; exact Nat.ne_of_gt (blk_lt (g := gb297) (o := .cells #[.slice A0_0 l0_0.length c0_0, .int .i64 a0_1, .slice A0_2 l0_2.length c0_2] 25 (0, 0)) bK297_) : gb316 ≠ gb297)); clear HO301; clear HO305; clear HO308; clear HO311; clear HO315; clear BK297; clear HB; have HO301 := n0_; have HO305 := n1_; have HO308 := n2_; have HO311 := n3_; have HO315 := n4_; have BK297 := n5_; have HB := n6_; have BK316 := n7_; have GW316 := n8_; have GE316 := n9_; have NB297_316 := n10_; have NB316_297 := n11_; clear n0_ n1_ n2_ n3_ n4_ n5_ n6_ n7_ n8_ n9_ n10_ n11_; clear hb hbox hg; obtain ⟨Ao30, co30, eo30⟩ := Kd.R_slice HO311.out; subst eo30; have hnb31 := NB316_297.out; have hnc31 := NB297_316.out; obtain ⟨hcz32_0, hcz32_1, hcz32_2, hfz32_0, hfz32_1, hfz32_2⟩ := blkc3_ BK316.out; obtain ⟨Ao33, co33, eo33⟩ := Kd.R_slice HO315.out; subst eo33) | ((with_reducible refine gate_callee (f := 10) rfl ?_); refine gL_ (some 26) Try.func10 #[.agg #[.slice Ao30 t309.length co30, .int .i64 t312, .slice Ao33 t313.length co33], .int .i64 a1] ?_; (with_reducible refine (impl_PredsOf.calls k _ _ t309 t312 _ _ t313 a1 t317 _ ?side1 ?side2 ?side3 ?side4 A11.out).mono ?_); (case side1 => refine (Kd.R_reads' (e := 2) (base := w.heap.size) (ok := fun k_ => ((True ∧ some k_ ≠ (.slice Ao24 t299.length co24 : Value).ownBlock) ∧ some k_ ≠ (v307 : Value).ownBlock)) (n := t309.length) (c := co30) ?_).2.2; exact (by (with_reducible repeat (first | apply Kd.R_alloc | apply Kd.R_drewN | apply Kd.R_drew)); exact (rf3_ HO311.out BK316.out (by decide) (.slice Ao30 t309.length co30) (.int .i64 t312) (.slice Ao33 t313.length co33)))); (case side2 => exact (Kd.R_reads' HO311.out).2.1); (case side3 => refine (Kd.R_reads' (e := 80) (base := w.heap.size) (ok := fun k_ => (((some k_ ≠ (.slice Ao30 t309.length co30 : Value).ownBlock ∧ some k_ ≠ (.slice Ao24 t299.length co24 : Value).ownBlock) ∧ some k_ ≠ (.slice Ao25 t303.length co25 : Value).ownBlock) ∧ some k_ ≠ (v307 : Value).ownBlock)) (n := t313.length) (c := co33) ?_).2.2; exact (by (with_reducible repeat (first | apply Kd.R_alloc | apply Kd.R_drewN | apply Kd.R_drew)); exact (rf3_ HO315.out BK316.out (by decide) (.slice Ao30 t309.length co30) (.int .i64 t312) (.slice Ao33 t313.length co33)))); (case side4 => exact (Kd.R_reads' HO315.out).2.1); rintro e w34 ⟨v318, rfl, ho0, hb⟩; refine ⟨_, rfl, ?_⟩; have n0_ := Aside0.mk (Kd.R_elder' (by (with_reducible repeat (first | apply Kd.R_alloc | apply Kd.R_drewN | apply Kd.R_drew)); exact (rf3_ HO301.out BK316.out (by decide) (.slice Ao30 t309.length co30) (.int .i64 t312) (.slice Ao33 t313.length co33))) (Kd.R_base ho0) hb); have n1_ := Aside0.mk (Kd.R_elder' (by (with_reducible repeat (first | apply Kd.R_alloc | apply Kd.R_drewN | apply Kd.R_drew)); exact (rf3_ HO305.out BK316.out (by decide) (.slice Ao30 t309.length co30) (.int .i64 t312) (.slice Ao33 t313.length co33))) (Kd.R_base ho0) hb); have n2_ := Aside0.mk (Kd.R_elder' (by (with_reducible repeat (first | apply Kd.R_alloc | apply Kd.R_drewN | apply Kd.R_drew)); exact (rf3_ HO308.out BK316.out (by decide) (.slice Ao30 t309.length co30) (.int .i64 t312) (.slice Ao33 t313.length co33))) (Kd.R_base ho0) hb); have n3_ := Aside0.mk (Kd.R_elder' (by (with_reducible repeat (first | apply Kd.R_alloc | apply Kd.R_drewN | apply Kd.R_drew)); exact (rf3_ HO311.out BK316.out (by decide) (.slice Ao30 t309.length co30) (.int .i64 t312) (.slice Ao33 t313.length co33))) (Kd.R_base ho0) hb); have n4_ := Aside0.mk (Kd.R_elder' (by (with_reducible repeat (first | apply Kd.R_alloc | apply Kd.R_drewN | apply Kd.R_drew)); exact (rf3_ HO315.out BK316.out (by decide) (.slice Ao30 t309.length co30) (.int .i64 t312) (.slice Ao33 t313.length co33))) (Kd.R_base ho0) hb); have n5_ := Aside0.mk (Kd.R_lower (Kd.R_new' (Kd.R_new' (Kd.R_new' ho0 (Kd.R_lt (by (with_reducible repeat (first | apply Kd.R_alloc | apply Kd.R_drewN | apply Kd.R_drew)); exact (rf3_ HO301.out BK316.out (by decide) (.slice Ao30 t309.length co30) (.int .i64 t312) (.slice Ao33 t313.length co33))))) (Kd.R_lt (by (with_reducible repeat (first | apply Kd.R_alloc | apply Kd.R_drewN | apply Kd.R_drew)); exact (rf3_ HO308.out BK316.out (by decide) (.slice Ao30 t309.length co30) (.int .i64 t312) (.slice Ao33 t313.length co33))))) (Kd.R_lt (by (with_reducible repeat (first | apply Kd.R_alloc | apply Kd.R_drewN | apply Kd.R_drew)); exact (rf3_ HO311.out BK316.out (by decide) (.slice Ao30 t309.length co30) (.int .i64 t312) (.slice Ao33 t313.length co33))))) (below_size hS_)); have n6_ := Aside0.mk (blk_below (g := gb297) (o := .cells #[.slice A0_0 l0_0.length c0_0, .int .i64 a0_1, .slice A0_2 l0_2.length c0_2] 25 (0, 0)) fK297_ hb); have n7_ := Aside0.mk (blk_below (g := gb316) (o := .cells #[.slice Ao30 t309.length co30, .int .i64 t312, .slice Ao33 t313.length co33] 30 (0, 0)) (by (with_reducible repeat (first | refine blk_drewN ?_ _ | refine blk_drew ?_ | refine blk_alloc ?_ _)); refine blk_put (cs := #[.slice Ao30 t309.length co30, .int .i64 t312, .slice none 0 0]) ?_ 2 _ rfl; (with_reducible repeat (first | refine blk_drewN ?_ _ | refine blk_drew ?_ | refine blk_alloc ?_ _)); refine blk_put (cs := #[.slice Ao30 t309.length co30, .int .i64 0, .slice none 0 0]) ?_ 1 _ rfl; (with_reducible repeat (first | refine blk_drewN ?_ _ | refine blk_drew ?_ | refine blk_alloc ?_ _)); refine blk_put (cs := #[.slice none 0 0, .int .i64 0, .slice none 0 0]) ?_ 0 _ rfl; (with_reducible repeat (first | refine blk_drewN ?_ _ | refine blk_drew ?_ | refine blk_alloc ?_ _)); exact BK316.out) hb); have n8_ := Aside0.mk (below_step hS_ hb); clear HO301; clear HO305; clear HO308; clear HO311; clear HO315; clear BK297; clear BK316; clear HB; have HO301 := n0_; have HO305 := n1_; have HO308 := n2_; have HO311 := n3_; have HO315 := n4_; have HO319 := n5_; have BK297 := n6_; have BK316 := n7_; have HB := n8_; clear n0_ n1_ n2_ n3_ n4_ n5_ n6_ n7_ n8_; (try clear hb); (try clear hb2); (try clear hk); (try clear hi); (try clear ho0); obtain ⟨Ao35, co35, eo35⟩ := Kd.R_slice HO319.out; subst eo35; obtain ⟨Ao36, co36, eo36⟩ := Kd.R_slice HO308.out; subst eo36) | ((with_reducible refine gate_callee (f := 11) rfl ?_); refine gL_ (some 29) Try.func11 #[.slice Ao35 t317.length co35, .slice Ao36 t306.length co36] ?_; (with_reducible refine (laws_eqInt64S.calls k _ _ t317 _ _ t306 true _ ?side1 ?side2 ?side3 ?side4 A12.out).mono ?_); (case side1 => repeat (first | exact (Kd.R_reads' HO319.out).2.2 | (with_reducible refine Kd.C_alloc ?_ _) | (with_reducible refine Kd.C_drewN ?_ _) | (with_reducible refine Kd.C_drew ?_))); (case side2 => exact (Kd.R_reads' HO319.out).2.1); (case side3 => repeat (first | exact (Kd.R_reads' HO308.out).2.2 | (with_reducible refine Kd.C_alloc ?_ _) | (with_reducible refine Kd.C_drewN ?_ _) | (with_reducible refine Kd.C_drew ?_))); (case side4 => exact (Kd.R_reads' HO308.out).2.1); rintro e w' ⟨rfl, ⟨nd, rfl⟩⟩; refine ⟨_, rfl, ?_⟩))
    (try (rw [drewN_self w34]; generalize hq_ : World.drewN w34 _ = w34; have n0_ : Aside0 (Kd.R (Kd.int .i64) 2 w34 w.heap.size (fun k_ => some k_ ≠ (.slice Ao36 t306.length co36 : Value).ownBlock ∧ some k_ ≠ (.slice Ao30 t309.length co30 : Value).ownBlock ∧ some k_ ≠ (.slice Ao35 t317.length co35 : Value).ownBlock) (.slice Ao24 t299.length co24) t299) := ⟨by rw [← hq_]; exact (by (with_reducible repeat (first | apply Kd.R_alloc | apply Kd.R_drewN | apply Kd.R_drew)); exact Kd.R_mono HO301.out (fun _ hk => ⟨hk.1.1.2, ⟨hk.1.2, hk.2⟩⟩))⟩; have n1_ : Aside0 (Kd.R k80 80 w34 w.heap.size (fun k_ => some k_ ≠ (.slice Ao24 t299.length co24 : Value).ownBlock ∧ some k_ ≠ (.slice Ao36 t306.length co36 : Value).ownBlock ∧ some k_ ≠ (.slice Ao30 t309.length co30 : Value).ownBlock ∧ some k_ ≠ (.slice Ao33 t313.length co33 : Value).ownBlock ∧ some k_ ≠ (.slice Ao35 t317.length co35 : Value).ownBlock) (.slice Ao25 t303.length co25) t303) := ⟨by rw [← hq_]; exact (by (with_reducible repeat (first | apply Kd.R_alloc | apply Kd.R_drewN | apply Kd.R_drew)); exact Kd.R_mono HO305.out (fun _ hk => ⟨hk.1.1.1.1, ⟨hk.1.1.1.2, ⟨hk.1.1.2, ⟨hk.1.2, hk.2⟩⟩⟩⟩))⟩; have n2_ : Aside0 (Kd.R (Kd.int .i64) 2 w34 w.heap.size (fun k_ => some k_ ≠ (.slice Ao24 t299.length co24 : Value).ownBlock ∧ some k_ ≠ (.slice Ao30 t309.length co30 : Value).ownBlock ∧ some k_ ≠ (.slice Ao35 t317.length co35 : Value).ownBlock) (.slice Ao36 t306.length co36) t306) := ⟨by rw [← hq_]; exact (by (with_reducible repeat (first | apply Kd.R_alloc | apply Kd.R_drewN | apply Kd.R_drew)); exact Kd.R_mono HO308.out (fun _ hk => ⟨hk.1.1.2, ⟨hk.1.2, hk.2⟩⟩))⟩; have n3_ : Aside0 (Kd.R (Kd.int .i64) 2 w34 w.heap.size (fun k_ => some k_ ≠ (.slice Ao24 t299.length co24 : Value).ownBlock ∧ some k_ ≠ (.slice Ao36 t306.length co36 : Value).ownBlock ∧ some k_ ≠ (.slice Ao35 t317.length co35 : Value).ownBlock) (.slice Ao30 t309.length co30) t309) := ⟨by rw [← hq_]; exact (by (with_reducible repeat (first | apply Kd.R_alloc | apply Kd.R_drewN | apply Kd.R_drew)); exact Kd.R_mono HO311.out (fun _ hk => ⟨hk.1.1.2, ⟨hk.1.2, hk.2⟩⟩))⟩; have n4_ : Aside0 (Kd.R k80 80 w34 w.heap.size (fun k_ => some k_ ≠ (.slice Ao24 t299.length co24 : Value).ownBlock ∧ some k_ ≠ (.slice Ao25 t303.length co25 : Value).ownBlock ∧ some k_ ≠ (.slice Ao36 t306.length co36 : Value).ownBlock ∧ some k_ ≠ (.slice Ao30 t309.length co30 : Value).ownBlock ∧ some k_ ≠ (.slice Ao35 t317.length co35 : Value).ownBlock) (.slice Ao33 t313.length co33) t313) := ⟨by rw [← hq_]; exact (by (with_reducible repeat (first | apply Kd.R_alloc | apply Kd.R_drewN | apply Kd.R_drew)); exact Kd.R_mono HO315.out (fun _ hk => ⟨hk.1.1.1.2, ⟨hk.1.1.2, ⟨hk.1.2, ⟨hk.1.1.1.1, hk.2⟩⟩⟩⟩))⟩; have n5_ : Aside0 (Kd.R (Kd.int .i64) 2 w34 w.heap.size (fun k_ => some k_ ≠ (.slice Ao24 t299.length co24 : Value).ownBlock ∧ some k_ ≠ (.slice Ao36 t306.length co36 : Value).ownBlock ∧ some k_ ≠ (.slice Ao30 t309.length co30 : Value).ownBlock) (.slice Ao35 t317.length co35) t317) := ⟨by rw [← hq_]; exact (by (with_reducible repeat (first | apply Kd.R_alloc | apply Kd.R_drewN | apply Kd.R_drew)); exact Kd.R_mono HO319.out (fun _ hk => ⟨hk.1.1.2, ⟨hk.1.2, hk.2⟩⟩))⟩; have n6_ : Aside0 (w34.heap[gb297]? = some (.cells #[.slice A0_0 l0_0.length c0_0, .int .i64 a0_1, .slice A0_2 l0_2.length c0_2] 25 (0, 0))) := ⟨by rw [← hq_]; exact bK297_⟩; have n7_ : Aside0 (w34.heap[gb316]? = some (.cells #[.slice Ao30 t309.length co30, .int .i64 t312, .slice Ao33 t313.length co33] 30 (0, 0))) := ⟨by rw [← hq_]; exact bK316_⟩; have n8_ : Aside0 (Below w.heap.size w w34) := ⟨by rw [← hq_]; exact hS_⟩; clear HO301 HO305 HO308 HO311 HO315 HO319 BK297 BK316 HB hq_; have HO301 := n0_; have HO305 := n1_; have HO308 := n2_; have HO311 := n3_; have HO315 := n4_; have HO319 := n5_; have BK297 := n6_; have BK316 := n7_; have HB := n8_; clear n0_ n1_ n2_ n3_ n4_ n5_ n6_ n7_ n8_))
    have n0_ := Aside0.mk (Kd.R_drew HO301.out)
    have n1_ := Aside0.mk (Kd.R_drew HO305.out)
    have n2_ := Aside0.mk (Kd.R_drew HO308.out)
    have n3_ := Aside0.mk (Kd.R_drew HO311.out)
    have n4_ := Aside0.mk (Kd.R_drew HO315.out)
    have n5_ := Aside0.mk (Kd.R_drew HO319.out)
    have n6_ := Aside0.mk (blk_drew BK297.out)
    have n7_ := Aside0.mk (blk_drew BK316.out)
    have n8_ := Aside0.mk (below_drew1 HB.out)
    clear HO301
    clear HO305
    clear HO308
    clear HO311
    clear HO315
    clear HO319
    clear BK297
    clear BK316
    clear HB
    have HO301 := n0_
    have HO305 := n1_
    have HO308 := n2_
    have HO311 := n3_
    have HO315 := n4_
    have HO319 := n5_
    have BK297 := n6_
    have BK316 := n7_
    have HB := n8_
    clear n0_ n1_ n2_ n3_ n4_ n5_ n6_ n7_ n8_
    refine start_ (n := 5) (S := fun w' => w'.cell? ⟨gb316, 0, none⟩ = some (.slice Ao30 t309.length co30) ∧ w'.cell? ⟨gb316, 1, none⟩ = some (.int .i64 t312) ∧ w'.cell? ⟨gb316, 2, none⟩ = some (.slice Ao33 t313.length co33) ∧ w'.cell? ⟨gb297, 0, none⟩ = some (.slice A0_0 l0_0.length c0_0) ∧ w'.cell? ⟨gb297, 1, none⟩ = some (.int .i64 a0_1) ∧ w'.cell? ⟨gb297, 2, none⟩ = some (.slice A0_2 l0_2.length c0_2)) (ds := []) #[false, false, false, false, false] (by kernel_rfl) rfl rfl ⟨(blk_cell BK316.out 0).trans rfl, (blk_cell BK316.out 1).trans rfl, (blk_cell BK316.out 2).trans rfl, (blk_cell BK297.out 0).trans rfl, (blk_cell BK297.out 1).trans rfl, (blk_cell BK297.out 2).trans rfl⟩ (fun hHeld => ?_)
    generalize w34.drew = w37 at HO301 HO305 HO308 HO311 HO315 HO319 BK297 BK316 HB hHeld ⊢
    refine take_ (i := 0) (N := some 31) (v := ?_) (a' := ?_) #[true, false, false, false, false] rfl rfl (by kernel_rfl) (fun _ _ _ h => h) (Or.inl ⟨by rfl, ?_⟩) hHeld ?_ ?_
    rotate_left
    ·rintro w' ⟨s0, s1, s2, s3, s4, s5⟩
     go_simp
     with_reducible rfl
    rotate_left
    ·simp only [Act.put, List.setIfInBounds_toArray, List.set_cons_zero, List.set_cons_succ, i64_w, i32_w]
     rfl
    refine take_ (i := 1) (N := some 32) (v := ?_) (a' := ?_) #[true, true, false, false, false] rfl rfl (by kernel_rfl) (fun _ _ _ h => h) (Or.inl ⟨by rfl, ?_⟩) hHeld ?_ ?_
    rotate_left
    ·rintro w' ⟨s0, s1, s2, s3, s4, s5⟩
     go_simp
     with_reducible rfl
    rotate_left
    ·simp only [Act.put, List.setIfInBounds_toArray, List.set_cons_zero, List.set_cons_succ, i64_w, i32_w]
     rfl
    refine one_ (i := 2) (N := some 33) #[true, true, true, false, false] rfl rfl (by kernel_rfl) (by decide) (fun K hK => ?_)
    refine goes_ Try.func9 (by kernel_rfl) rfl #[.agg #[.slice A0_0 l0_0.length c0_0, .int .i64 a0_1, .slice A0_2 l0_2.length c0_2]] (by rfl) rfl rfl (by (try simp only [List.map_toArray, List.map_cons, List.map_nil]); first | done | rfl | (simp only [List.length_drop, List.length_take]; rfl)) ?_
    with_reducible refine (laws_toFunc.calls k _ _ l0_0 a0_1 _ _ l0_2 t321 t324 t325 _ ?side1 ?side2 ?side3 ?side4 A14.out).mono ?_
    (case side1 => repeat (first | exact (Kd.C_below HR0_0.out HB.out) | (with_reducible refine Kd.C_alloc ?_ _) | (with_reducible refine Kd.C_drewN ?_ _) | (with_reducible refine Kd.C_drew ?_)))
    (case side2 => exact HC0_0.out)
    (case side3 => repeat (first | exact (Kd.C_below HR0_2.out HB.out) | (with_reducible refine Kd.C_alloc ?_ _) | (with_reducible refine Kd.C_drewN ?_ _) | (with_reducible refine Kd.C_drew ?_)))
    (case side4 => exact HC0_2.out)
    rintro e w38 ⟨v322, v326, rfl, ho0, ho1, hb⟩
    refine ⟨_, rfl, ?_⟩
    have n0_ := Aside0.mk (Kd.R_elder' rHO301_ (Kd.R_base ho0) hb)
    have n1_ := Aside0.mk (Kd.R_mono (Kd.R_told (Kd.R_told (Kd.R_old rHO305_ hb) (Kd.R_base ho0)) (Kd.R_base ho1)) (fun _ h_ => h_.1))
    have n2_ := Aside0.mk (Kd.R_elder' rHO308_ (Kd.R_base ho0) hb)
    have n3_ := Aside0.mk (Kd.R_elder' rHO311_ (Kd.R_base ho0) hb)
    have n4_ := Aside0.mk (Kd.R_mono (Kd.R_told (Kd.R_told (Kd.R_old rHO315_ hb) (Kd.R_base ho0)) (Kd.R_base ho1)) (fun _ h_ => h_.1))
    have n5_ := Aside0.mk (Kd.R_elder' rHO319_ (Kd.R_base ho0) hb)
    have n6_ := Aside0.mk (Kd.R_lower (Kd.R_new' (Kd.R_new' (Kd.R_new' (Kd.R_new' ho0 (Kd.R_lt rHO301_)) (Kd.R_lt rHO308_)) (Kd.R_lt rHO311_)) (Kd.R_lt rHO319_)) (below_size hS_))
    have n7_ := Aside0.mk (Kd.R_lower (Kd.R_new' (Kd.R_new' (Kd.R_new' (Kd.R_new' (Kd.R_new' (Kd.R_new' ho1 (Kd.R_lt rHO301_)) (Kd.R_lt rHO305_)) (Kd.R_lt rHO308_)) (Kd.R_lt rHO311_)) (Kd.R_lt rHO315_)) (Kd.R_lt rHO319_)) (below_size hS_))
    have n8_ := Aside0.mk (blk_below (g := gb297) (o := .cells #[.slice A0_0 l0_0.length c0_0, .int .i64 a0_1, .slice A0_2 l0_2.length c0_2] 25 (0, 0)) bK297_ hb)
    have n9_ := Aside0.mk (blk_below (g := gb316) (o := .cells #[.slice Ao30 t309.length co30, .int .i64 t312, .slice Ao33 t313.length co33] 30 (0, 0)) bK316_ hb)
    have n10_ := Aside0.mk (below_step hS_ hb)
    clear HO301
    clear HO305
    clear HO308
    clear HO311
    clear HO315
    clear HO319
    clear BK297
    clear BK316
    clear HB
    have HO301 := n0_
    have HO305 := n1_
    have HO308 := n2_
    have HO311 := n3_
    have HO315 := n4_
    have HO319 := n5_
    have HO323 := n6_
    have HO327 := n7_
    have BK297 := n8_
    have BK316 := n9_
    have HB := n10_
    clear n0_ n1_ n2_ n3_ n4_ n5_ n6_ n7_ n8_ n9_ n10_
    (try clear hb)
    (try clear hb2)
    (try clear hk)
    (try clear hi)
    (try clear ho0)
    (try clear ho1)
    obtain ⟨Ao39, co39, eo39⟩ := Kd.R_slice HO323.out
    (first | subst eo39 | (injection eo39 with f1_ f2_ f3_; have f4_ := f1_.symm; have f5_ := f3_.symm; clear f1_ f2_ f3_; subst f4_; subst f5_))
    obtain ⟨Ao40, co40, eo40⟩ := Kd.R_slice HO327.out
    (first | subst eo40 | (injection eo40 with f1_ f2_ f3_; have f4_ := f1_.symm; have f5_ := f3_.symm; clear f1_ f2_ f3_; subst f4_; subst f5_))
    refine hK.out _ _ ⟨(blk_cell BK316.out 0).trans rfl, (blk_cell BK316.out 1).trans rfl, (blk_cell BK316.out 2).trans rfl, (blk_cell BK297.out 0).trans rfl, (blk_cell BK297.out 1).trans rfl, (blk_cell BK297.out 2).trans rfl⟩ (fun hHeld => ?_)
    clear hK K
    refine norm_ (a' := ?_) ?_ ?_
    rotate_left
    ·show Act.put _ (some 33) _ = _
     simp only [Act.put, List.setIfInBounds_toArray, List.set_cons_zero, List.set_cons_succ, i64_w, i32_w]
     rfl
    refine one_ (i := 3) (N := some 34) #[true, true, true, true, false] rfl rfl (by kernel_rfl) (by decide) (fun K hK => ?_)
    refine goes_ Try.func12 (by kernel_rfl) rfl #[.agg #[.slice Ao30 t309.length co30, .int .i64 t312, .slice Ao33 t313.length co33], .agg #[.slice Ao39 t321.length co39, .int .i64 t324, .slice Ao40 t325.length co40]] (by rfl) rfl rfl (by (try simp only [List.map_toArray, List.map_cons, List.map_nil]); first | done | rfl | (simp only [List.length_drop, List.length_take]; rfl)) ?_
    with_reducible refine (laws_eqFunc.calls k _ _ t309 t312 _ _ t313 _ _ t321 t324 _ _ t325 true _ ?side1 ?side2 ?side3 ?side4 ?side5 ?side6 ?side7 ?side8 A15.out).mono ?_
    (case side1 => repeat (first | exact (Kd.R_reads' HO311.out).2.2 | (with_reducible refine Kd.C_alloc ?_ _) | (with_reducible refine Kd.C_drewN ?_ _) | (with_reducible refine Kd.C_drew ?_)))
    (case side2 => exact (Kd.R_reads' HO311.out).2.1)
    (case side3 => repeat (first | exact (Kd.R_reads' HO315.out).2.2 | (with_reducible refine Kd.C_alloc ?_ _) | (with_reducible refine Kd.C_drewN ?_ _) | (with_reducible refine Kd.C_drew ?_)))
    (case side4 => exact (Kd.R_reads' HO315.out).2.1)
    (case side5 => repeat (first | exact (Kd.R_reads' HO323.out).2.2 | (with_reducible refine Kd.C_alloc ?_ _) | (with_reducible refine Kd.C_drewN ?_ _) | (with_reducible refine Kd.C_drew ?_)))
    (case side6 => exact (Kd.R_reads' HO323.out).2.1)
    (case side7 => repeat (first | exact (Kd.R_reads' HO327.out).2.2 | (with_reducible refine Kd.C_alloc ?_ _) | (with_reducible refine Kd.C_drewN ?_ _) | (with_reducible refine Kd.C_drew ?_)))
    (case side8 => exact (Kd.R_reads' HO327.out).2.1)
    rintro e w41 ⟨rfl, hb⟩
    refine ⟨_, rfl, ?_⟩
    have n0_ := Aside0.mk (Kd.R_below rHO301_ hb)
    have n1_ := Aside0.mk (Kd.R_below rHO305_ hb)
    have n2_ := Aside0.mk (Kd.R_below rHO308_ hb)
    have n3_ := Aside0.mk (Kd.R_below rHO311_ hb)
    have n4_ := Aside0.mk (Kd.R_below rHO315_ hb)
    have n5_ := Aside0.mk (Kd.R_below rHO319_ hb)
    have n6_ := Aside0.mk (Kd.R_below rHO323_ hb)
    have n7_ := Aside0.mk (Kd.R_below rHO327_ hb)
    have n8_ := Aside0.mk (blk_below (g := gb297) (o := .cells #[.slice A0_0 l0_0.length c0_0, .int .i64 a0_1, .slice A0_2 l0_2.length c0_2] 25 (0, 0)) bK297_ hb)
    have n9_ := Aside0.mk (blk_below (g := gb316) (o := .cells #[.slice Ao30 t309.length co30, .int .i64 t312, .slice Ao33 t313.length co33] 30 (0, 0)) bK316_ hb)
    have n10_ := Aside0.mk (below_step hS_ hb)
    clear HO301
    clear HO305
    clear HO308
    clear HO311
    clear HO315
    clear HO319
    clear HO323
    clear HO327
    clear BK297
    clear BK316
    clear HB
    have HO301 := n0_
    have HO305 := n1_
    have HO308 := n2_
    have HO311 := n3_
    have HO315 := n4_
    have HO319 := n5_
    have HO323 := n6_
    have HO327 := n7_
    have BK297 := n8_
    have BK316 := n9_
    have HB := n10_
    clear n0_ n1_ n2_ n3_ n4_ n5_ n6_ n7_ n8_ n9_ n10_
    (try clear hb)
    (try clear hb2)
    (try clear hk)
    (try clear hi)
    refine hK.out _ _ ⟨(blk_cell BK316.out 0).trans rfl, (blk_cell BK316.out 1).trans rfl, (blk_cell BK316.out 2).trans rfl, (blk_cell BK297.out 0).trans rfl, (blk_cell BK297.out 1).trans rfl, (blk_cell BK297.out 2).trans rfl⟩ (fun hHeld => ?_)
    clear hK K
    refine norm_ (a' := ?_) ?_ ?_
    rotate_left
    ·show Act.put _ (some 34) _ = _
     simp only [Act.put, List.setIfInBounds_toArray, List.set_cons_zero, List.set_cons_succ, i64_w, i32_w]
     rfl
    refine pure_ (i := 4) (N := some 35) (v := ?_) (a' := ?_) #[true, true, true, true, true] rfl rfl (by kernel_rfl) (fun _ _ _ h => h) (Or.inl ⟨by rfl, ?_⟩) ?_ ?_
    rotate_left
    ·intro w'
     go_simp
     with_reducible rfl
    rotate_left
    ·simp only [Act.put, List.setIfInBounds_toArray, List.set_cons_zero, List.set_cons_succ, i64_w, i32_w]
     rfl
    refine done_ (by kernel_rfl) ?_
    obtain ⟨hcz42_0, hcz42_1, hcz42_2, hfz42_0, hfz42_1, hfz42_2⟩ := blkc3_ BK316.out
    go_upto_region 14 with (first | ((with_reducible refine gate_callee (f := 13) rfl ?_); refine gL_ (some 38) Try.func13 #[.agg #[.slice Ao30 t309.length co30, .int .i64 t312, .slice Ao33 t313.length co33], .int .i64 1] ?_; (with_reducible refine (laws_markFunc.calls (fun k_ => some k_ = (.slice Ao30 t309.length co30 : Value).ownBlock) (.slice Ao30 t309.length co30) t309 t312 ?pp_ (.slice Ao33 t313.length co33) t313 1 t329 w _ ?side1 ?side2 ?side3 A17.out).mono ?_); (case side1 => repeat (first | (with_reducible first | exact HB.out | apply below_alloc | apply pw_below_drewN | apply below_drew1 | refine below_set ?_ GE297.out | refine below_set ?_ GE316.out) | exact HB.out)); (case side2 => exact Kd.R_tight rfl HO311.out); (case side3 => exact Kd.R_bound HO315.out); rintro e w43 ⟨rfl, hb, hkp⟩; refine ⟨_, rfl, ?_⟩; have n0_ := Aside0.mk (blk_kept bK297_ hkp (fun hs_ => Or.elim hs_ (fun e_ => (fun e_ => (Kd.R_ne HO311.out BK297.out (by decide)) e_) e_) (fun e_ => mk_box BK297.out e_ (by decide)))); have n1_ := Aside0.mk (Kd.R_mono (ok' := fun k_ => some k_ ≠ (.slice Ao36 t306.length co36 : Value).ownBlock ∧ some k_ ≠ (.slice Ao35 t317.length co35 : Value).ownBlock ∧ some k_ ≠ (.slice Ao39 t321.length co39 : Value).ownBlock) (mk_row HO301.out rfl hkp (fun k_ hf_ hs_ => Or.elim hs_ (fun e_ => by have a_ := HO301.out.1 k_ hf_.symm; have b_ := HO311.out.1 k_ e_.symm; first | (simp only [hf_, ne_eq, not_true_eq_false, and_false, false_and] at b_) | (simp only [e_, ne_eq, not_true_eq_false, and_false, false_and] at a_)) (fun e_ => by have b_ := e_.1; simp only [hf_, ne_eq, not_true_eq_false, and_false, false_and] at b_))) (fun k_ hk_ => ⟨pk_, pk_, pk_⟩)); have n3_ := Aside0.mk (Kd.R_mono (ok' := fun k_ => some k_ ≠ (.slice Ao24 t299.length co24 : Value).ownBlock ∧ some k_ ≠ (.slice Ao35 t317.length co35 : Value).ownBlock ∧ some k_ ≠ (.slice Ao39 t321.length co39 : Value).ownBlock) (mk_row HO308.out rfl hkp (fun k_ hf_ hs_ => Or.elim hs_ (fun e_ => by have a_ := HO308.out.1 k_ hf_.symm; have b_ := HO311.out.1 k_ e_.symm; first | (simp only [hf_, ne_eq, not_true_eq_false, and_false, false_and] at b_) | (simp only [e_, ne_eq, not_true_eq_false, and_false, false_and] at a_)) (fun e_ => by have b_ := e_.1; simp only [hf_, ne_eq, not_true_eq_false, and_false, false_and] at b_))) (fun k_ hk_ => ⟨pk_, pk_, pk_⟩)); have n4_ := Aside0.mk (blk_kept bK316_ hkp (fun hs_ => Or.elim hs_ (fun e_ => (fun e_ => (Kd.R_ne HO311.out BK316.out (by decide)) e_) e_) (fun e_ => mk_box BK316.out e_ (by decide)))); have n5_ := Aside0.mk (Kd.R_mono (ok' := fun k_ => some k_ ≠ (.slice Ao24 t299.length co24 : Value).ownBlock ∧ some k_ ≠ (.slice Ao36 t306.length co36 : Value).ownBlock ∧ some k_ ≠ (.slice Ao39 t321.length co39 : Value).ownBlock) (mk_row HO319.out rfl hkp (fun k_ hf_ hs_ => Or.elim hs_ (fun e_ => by have a_ := HO319.out.1 k_ hf_.symm; have b_ := HO311.out.1 k_ e_.symm; first | (simp only [hf_, ne_eq, not_true_eq_false, and_false, false_and] at b_) | (simp only [e_, ne_eq, not_true_eq_false, and_false, false_and] at a_)) (fun e_ => by have b_ := e_.1; simp only [hf_, ne_eq, not_true_eq_false, and_false, false_and] at b_))) (fun k_ hk_ => ⟨pk_, pk_, pk_⟩)); have n6_ := Aside0.mk (Kd.R_mono (ok' := fun k_ => some k_ ≠ (.slice Ao24 t299.length co24 : Value).ownBlock ∧ some k_ ≠ (.slice Ao36 t306.length co36 : Value).ownBlock ∧ some k_ ≠ (.slice Ao35 t317.length co35 : Value).ownBlock) (mk_row HO323.out rfl hkp (fun k_ hf_ hs_ => Or.elim hs_ (fun e_ => by have a_ := HO323.out.1 k_ hf_.symm; have b_ := HO311.out.1 k_ e_.symm; first | (simp only [hf_, ne_eq, not_true_eq_false, and_false, false_and] at b_) | (simp only [e_, ne_eq, not_true_eq_false, and_false, false_and] at a_)) (fun e_ => by have b_ := e_.1; simp only [hf_, ne_eq, not_true_eq_false, and_false, false_and] at b_))) (fun k_ hk_ => ⟨pk_, pk_, pk_⟩)); have n8_ := Aside0.mk (hb); clear BK297; clear HO301; clear HO305; clear HO308; clear BK316; clear HO319; clear HO323; clear HO327; clear HB; clear HO311; clear HO315; have BK297 := n0_; have HO301 := n1_; have HO308 := n3_; have BK316 := n4_; have HO319 := n5_; have HO323 := n6_; have HB := n8_; clear n0_ n1_ n3_ n4_ n5_ n6_ n8_; (try clear hb); (try clear hkp)))
    (try simp only [Act.put, List.setIfInBounds_toArray, List.set_cons_zero, List.set_cons_succ])
    go_cut [46] (fun v46 wc => ∃ (kq : Nat) (x46_17 : Bool), v46 = .bool x46_17 ∧ Aside0 (laws_FnExactPredsOf.j0 kq a1 t306 t317 x46_17 l0_0 a0_1 l0_2 = some r) ∧ Aside0 (kq ≤ k) ∧ Aside0 (Kd.R (Kd.int .i64) 2 wc w.heap.size (fun k_ => some k_ ≠ ((.slice Ao35 t317.length co35) : Value).ownBlock) (.slice Ao36 t306.length co36) t306) ∧ Aside0 (Kd.R (Kd.int .i64) 2 wc w.heap.size (fun k_ => some k_ ≠ ((.slice Ao36 t306.length co36) : Value).ownBlock) (.slice Ao35 t317.length co35) t317) ∧ Aside0 (wc.heap[gb297]? = some (.cells #[(.slice A0_0 l0_0.length c0_0), .int .i64 a0_1, (.slice A0_2 l0_2.length c0_2)] 25 (0, 0))) ∧ Aside0 (Below w.heap.size w wc))
    case first =>
     have H := HC18.out
     clear HC18
     by_cases c44 : t329 < 0
     ·rw [if_pos c44] at H
      have c44b0 : decide (t329 < 0) = true := decide_eq_true c44
      clear c44
      (first | rw [c44b0] | (simp only [i64_w, i32_w]; rw [c44b0]) | skip)
      have H' := Aside0.mk H
      clear H
      go_wp2
      go_meet
      case rel => exact ⟨_, (true), rF_, H', ⟨by first | omega | exact Nat.le_refl _⟩, ⟨by (with_reducible repeat (first | apply Kd.R_alloc | apply Kd.R_drewN | apply Kd.R_drew)); exact Kd.R_mono HO308.out (fun _ hk => hk.2.1)⟩, ⟨by (with_reducible repeat (first | apply Kd.R_alloc | apply Kd.R_drewN | apply Kd.R_drew)); exact Kd.R_mono HO319.out (fun _ hk => hk.2.1)⟩, ⟨bK297_⟩, ⟨hS_⟩⟩
     ·rw [if_neg c44] at H
      have c44b0 : decide (t329 < 0) = false := decide_eq_false c44
      clear c44
      (first | rw [c44b0] | (simp only [i64_w, i32_w]; rw [c44b0]) | skip)
      replace H := Option.bind_eq_some_iff.mp H
      obtain ⟨t330, A450, H⟩ := H
      replace H : (laws_FnExactPredsOf.j0 k a1 t306 t317 (!t330) l0_0 a0_1 l0_2) = some r := H
      have A45 := Aside0.mk A450
      clear A450
      have H' := Aside0.mk H
      clear H
      go_wp2_with (first | (go_at_call 11; (with_reducible refine (laws_eqInt64S.calls k _ _ t317 _ _ t306 t330 _ ?side1 ?side2 ?side3 ?side4 A45.out).mono ?_); (case side1 => repeat (first | exact (Kd.R_reads' HO319.out).2.2 | (with_reducible refine Kd.C_alloc ?_ _) | (with_reducible refine Kd.C_drewN ?_ _) | (with_reducible refine Kd.C_drew ?_))); (case side2 => exact (Kd.R_reads' HO319.out).2.1); (case side3 => repeat (first | exact (Kd.R_reads' HO308.out).2.2 | (with_reducible refine Kd.C_alloc ?_ _) | (with_reducible refine Kd.C_drewN ?_ _) | (with_reducible refine Kd.C_drew ?_))); (case side4 => exact (Kd.R_reads' HO308.out).2.1); rintro e w' ⟨rfl, ⟨nd, rfl⟩⟩))
      go_meet
      case rel => exact ⟨_, (!t330), rF_, H', ⟨by first | omega | exact Nat.le_refl _⟩, ⟨by (with_reducible repeat (first | apply Kd.R_alloc | apply Kd.R_drewN | apply Kd.R_drew)); exact Kd.R_mono HO308.out (fun _ hk => hk.2.1)⟩, ⟨by (with_reducible repeat (first | apply Kd.R_alloc | apply Kd.R_drewN | apply Kd.R_drew)); exact Kd.R_mono HO319.out (fun _ hk => hk.2.1)⟩, ⟨bK297_⟩, ⟨hS_⟩⟩
    case rest =>
     clear HC18
     try clear c1
     try clear p2
     try clear c3
     try clear c4
     try clear c4b0
     try clear c7
     try clear c8
     try clear c9
     try clear c10
     try clear c11
     try clear c12
     try clear c13
     try clear c16
     try clear c31
     try clear c44
     try clear c44b0
     try clear hcz20_0 hcz20_1 hcz20_2 hfz20_0 hfz20_1 hfz20_2
     try clear hcz22_0 hcz22_1 hcz22_2 hfz22_0 hfz22_1 hfz22_2
     try clear hcz27_0 hcz27_1 hcz27_2 hfz27_0 hfz27_1 hfz27_2
     try clear hcz32_0 hcz32_1 hcz32_2 hfz32_0 hfz32_1 hfz32_2
     try clear hcz42_0 hcz42_1 hcz42_2 hfz42_0 hfz42_1 hfz42_2
     try clear hcz6_0 hcz6_1 hcz6_2 hfz6_0 hfz6_1 hfz6_2
     obtain ⟨kq, x46_17, rfl, HA, HJ17, HO_6, HO_8, BK297, HB⟩ := hcut
     cases kq with
     | zero => exact absurd HA.out (by simp [laws_FnExactPredsOf.j0])
     | succ kj17 =>
      have H := HA.out
      clear HA
      simp only [laws_FnExactPredsOf.j0] at H
      by_cases c46 : x46_17 = true
      ·subst c46
       have H1 := (if_pos rfl).symm.trans H
       clear H
       have H := H1
       clear H1
       obtain rfl := Option.some.inj H
       go_wp2
       go_ret
       exact ⟨rG_, hS_⟩
      ·replace c46 := Bool.eq_false_iff.mpr c46
       subst c46
       have H1 := (if_neg (show ¬ (false = true) by decide)).symm.trans H
       clear H
       have H := H1
       clear H1
       replace H := Option.bind_eq_some_iff.mp H
       obtain ⟨⟨t331, t332⟩, A470, H⟩ := H
       replace H : ((laws_heldInt64S.f kj17 t332 1).bind fun t333 => (if t333 < 0 then (some false) else (if t333 = t331 then ((laws_toFunc.f kj17 l0_0 a0_1 l0_2).bind fun bt334 => ((impl_PredsOf.f kj17 bt334.1 bt334.2.1 bt334.2.2 a1).bind fun t341 => ((laws_eqInt64S.f kj17 t341 t306).bind fun t344 => (if t344 = true then ((laws_heldInt64S.f kj17 t332 1).bind fun t345 => (if t345 < 0 then (some false) else (if t345 = t331 then (some true) else (some false)))) else (some false))))) else (some false)))) = some r := H
       have A47 := Aside0.mk A470
       clear A470
       replace H := Option.bind_eq_some_iff.mp H
       obtain ⟨t333, A480, H⟩ := H
       replace H : (if t333 < 0 then (some false) else (if t333 = t331 then ((laws_toFunc.f kj17 l0_0 a0_1 l0_2).bind fun bt334 => ((impl_PredsOf.f kj17 bt334.1 bt334.2.1 bt334.2.2 a1).bind fun t341 => ((laws_eqInt64S.f kj17 t341 t306).bind fun t344 => (if t344 = true then ((laws_heldInt64S.f kj17 t332 1).bind fun t345 => (if t345 < 0 then (some false) else (if t345 = t331 then (some true) else (some false)))) else (some false))))) else (some false))) = some r := H
       have A48 := Aside0.mk A480
       clear A480
       by_cases c49 : t333 < 0
       ·rw [if_pos c49] at H
        have c49b0 : decide (t333 < 0) = true := decide_eq_true c49
        clear c49
        obtain rfl := Option.some.inj H
        go_wp2_with (first | ((with_reducible refine gate_callee (f := 14) rfl ?_); refine gL_ (some 49) Try.func14 #[.slice Ao35 t317.length co35, .int .i64 1] ?_; (with_reducible refine (laws_markInt64S.calls kj17 (fun k_ => some k_ = (.slice Ao35 t317.length co35 : Value).ownBlock) (.slice Ao35 t317.length co35) t317 1 t331 t332 w _ ?side1 ?side2 A47.out).mono ?_); (case side1 => repeat (first | (with_reducible first | exact HB.out | apply below_alloc | apply pw_below_drewN | apply below_drew1 | refine below_set ?_ GE297.out) | exact HB.out)); (case side2 => exact Kd.R_tight rfl HO_8.out); rintro e w50 ⟨rfl, hy0, hb, hkp⟩; refine ⟨_, rfl, ?_⟩; have n0_ := Aside0.mk (Kd.R_mono (ok' := fun k_ => some k_ ≠ (.slice Ao35 t317.length co35 : Value).ownBlock) (Kd.R_keptB (HO_6.out) hkp (fun k_ hk_ hs_ => (hk_) hs_)) (fun k_ hk_ => hk_.1)); have n1_ := Aside0.mk (Kd.R_reok rfl hy0 (fun k_ e_ => HO_8.out.1 k_ e_)); have n2_ := Aside0.mk (blk_kept bK297_ hkp (fun hs_ => (fun e_ => (Kd.R_ne HO_8.out BK297.out (by decide)) e_) hs_)); have n3_ := Aside0.mk (hb); clear HO_6; clear HO_8; clear BK297; clear HB; have HO_6 := n0_; have HO_8 := n1_; have BK297 := n2_; have HB := n3_; clear n0_ n1_ n2_ n3_; (try clear hb); (try clear hkp); (try clear hy0)) | ((with_reducible refine gate_callee (f := 15) rfl ?_); refine goesL_ (some 52) rfl rfl Try.func15 (by kernel_rfl) rfl #[.slice Ao35 t332.length co35, .int .i64 1] rfl (by (try simp only [List.map_toArray, List.map_cons, List.map_nil]); first | done | (rw [show t332.length = t317.length from (Kd.R_reads' HO_8.out).1.symm] <;> rfl) | rfl | (simp only [List.length_drop, List.length_take]; rfl)) ?_; (with_reducible refine (laws_heldInt64S.calls kj17 _ _ t332 1 t333 _ ?side1 ?side2 A48.out).mono ?_); (case side1 => repeat (first | exact (Kd.R_reads' HO_8.out).2.2 | (with_reducible refine Kd.C_alloc ?_ _) | (with_reducible refine Kd.C_drewN ?_ _) | (with_reducible refine Kd.C_drew ?_))); (case side2 => rw [show t332.length = t317.length from (Kd.R_reads' HO_8.out).1.symm]; exact (Kd.R_reads' HO_8.out).2.1); rintro e w' ⟨rfl, ⟨nd, rfl⟩⟩; refine ⟨_, rfl, ?_⟩))
        go_ret
        exact ⟨rG_, hS_⟩
       ·rw [if_neg c49] at H
        have c49b0 : decide (t333 < 0) = false := decide_eq_false c49
        clear c49
        by_cases c51 : t333 = t331
        ·rw [if_pos c51] at H
         have c51b0 : (t333 == t331) = true := beq_iff_eq.mpr c51
         have c51b1 : (t333 != t331) = false := bne_eq_false_iff_eq.mpr c51
         clear c51
         replace H := Option.bind_eq_some_iff.mp H
         obtain ⟨⟨t334, t337, t338⟩, A520, H⟩ := H
         replace H : ((impl_PredsOf.f kj17 t334 t337 t338 a1).bind fun t341 => ((laws_eqInt64S.f kj17 t341 t306).bind fun t344 => (if t344 = true then ((laws_heldInt64S.f kj17 t332 1).bind fun t345 => (if t345 < 0 then (some false) else (if t345 = t331 then (some true) else (some false)))) else (some false)))) = some r := H
         have A52 := Aside0.mk A520
         clear A520
         replace H := Option.bind_eq_some_iff.mp H
         obtain ⟨t341, A530, H⟩ := H
         replace H : ((laws_eqInt64S.f kj17 t341 t306).bind fun t344 => (if t344 = true then ((laws_heldInt64S.f kj17 t332 1).bind fun t345 => (if t345 < 0 then (some false) else (if t345 = t331 then (some true) else (some false)))) else (some false))) = some r := H
         have A53 := Aside0.mk A530
         clear A530
         replace H := Option.bind_eq_some_iff.mp H
         obtain ⟨t344, A540, H⟩ := H
         replace H : (if t344 = true then ((laws_heldInt64S.f kj17 t332 1).bind fun t345 => (if t345 < 0 then (some false) else (if t345 = t331 then (some true) else (some false)))) else (some false)) = some r := H
         have A54 := Aside0.mk A540
         clear A540
         by_cases c55 : t344 = true
         ·subst c55
          have H1 := (if_pos rfl).symm.trans H
          clear H
          have H := H1
          clear H1
          replace H := Option.bind_eq_some_iff.mp H
          obtain ⟨t345, A560, H⟩ := H
          replace H : (if t345 < 0 then (some false) else (if t345 = t331 then (some true) else (some false))) = some r := H
          have A56 := Aside0.mk A560
          clear A560
          by_cases c57 : t345 < 0
          ·rw [if_pos c57] at H
           have c57b0 : decide (t345 < 0) = true := decide_eq_true c57
           clear c57
           obtain rfl := Option.some.inj H
           go_wp2_with (first | ((with_reducible refine gate_callee (f := 14) rfl ?_); refine gL_ (some 49) Try.func14 #[.slice Ao35 t317.length co35, .int .i64 1] ?_; (with_reducible refine (laws_markInt64S.calls kj17 (fun k_ => some k_ = (.slice Ao35 t317.length co35 : Value).ownBlock) (.slice Ao35 t317.length co35) t317 1 t331 t332 w _ ?side1 ?side2 A47.out).mono ?_); (case side1 => repeat (first | (with_reducible first | exact HB.out | apply below_alloc | apply pw_below_drewN | apply below_drew1 | refine below_set ?_ GE297.out) | exact HB.out)); (case side2 => exact Kd.R_tight rfl HO_8.out); rintro e w58 ⟨rfl, hy0, hb, hkp⟩; refine ⟨_, rfl, ?_⟩; have n0_ := Aside0.mk (Kd.R_mono (ok' := fun k_ => some k_ ≠ (.slice Ao35 t317.length co35 : Value).ownBlock) (Kd.R_keptB (HO_6.out) hkp (fun k_ hk_ hs_ => (hk_) hs_)) (fun k_ hk_ => hk_.1)); have n1_ := Aside0.mk (Kd.R_reok rfl hy0 (fun k_ e_ => HO_8.out.1 k_ e_)); have n2_ := Aside0.mk (blk_kept bK297_ hkp (fun hs_ => (fun e_ => (Kd.R_ne HO_8.out BK297.out (by decide)) e_) hs_)); have n3_ := Aside0.mk (hb); clear HO_6; clear HO_8; clear BK297; clear HB; have HO_6 := n0_; have HO_8 := n1_; have BK297 := n2_; have HB := n3_; clear n0_ n1_ n2_ n3_; (try clear hb); (try clear hkp); (try clear hy0)) | ((with_reducible refine gate_callee (f := 15) rfl ?_); refine goesL_ (some 52) rfl rfl Try.func15 (by kernel_rfl) rfl #[.slice Ao35 t332.length co35, .int .i64 1] rfl (by (try simp only [List.map_toArray, List.map_cons, List.map_nil]); first | done | (rw [show t332.length = t317.length from (Kd.R_reads' HO_8.out).1.symm] <;> rfl) | rfl | (simp only [List.length_drop, List.length_take]; rfl)) ?_; (with_reducible refine (laws_heldInt64S.calls kj17 _ _ t332 1 t333 _ ?side1 ?side2 A48.out).mono ?_); (case side1 => repeat (first | exact (Kd.R_reads' HO_8.out).2.2 | (with_reducible refine Kd.C_alloc ?_ _) | (with_reducible refine Kd.C_drewN ?_ _) | (with_reducible refine Kd.C_drew ?_))); (case side2 => rw [show t332.length = t317.length from (Kd.R_reads' HO_8.out).1.symm]; exact (Kd.R_reads' HO_8.out).2.1); rintro e w' ⟨rfl, ⟨nd, rfl⟩⟩; refine ⟨_, rfl, ?_⟩; obtain ⟨hcz59_0, hcz59_1, hcz59_2, hfz59_0, hfz59_1, hfz59_2⟩ := blkc3_ BK297.out) | ((with_reducible refine gate_callee (f := 9) rfl ?_); refine gL_ (some 59) Try.func9 #[.agg #[.slice A0_0 l0_0.length c0_0, .int .i64 a0_1, .slice A0_2 l0_2.length c0_2]] ?_; (with_reducible refine (laws_toFunc.calls kj17 _ _ l0_0 a0_1 _ _ l0_2 t334 t337 t338 _ ?side1 ?side2 ?side3 ?side4 A52.out).mono ?_); (case side1 => repeat (first | exact (Kd.C_below HR0_0.out hS_) | (with_reducible refine Kd.C_alloc ?_ _) | (with_reducible refine Kd.C_drewN ?_ _) | (with_reducible refine Kd.C_drew ?_))); (case side2 => exact HC0_0.out); (case side3 => repeat (first | exact (Kd.C_below HR0_2.out hS_) | (with_reducible refine Kd.C_alloc ?_ _) | (with_reducible refine Kd.C_drewN ?_ _) | (with_reducible refine Kd.C_drew ?_))); (case side4 => exact HC0_2.out); rintro e w60 ⟨v335, v339, rfl, ho0, ho1, hb⟩; refine ⟨_, rfl, ?_⟩; have n0_ := Aside0.mk (Kd.R_elder' rHO_6_ (Kd.R_base ho0) hb); have n1_ := Aside0.mk (Kd.R_elder' rHO_8_ (Kd.R_base ho0) hb); have n2_ := Aside0.mk (Kd.R_lower (Kd.R_new' (Kd.R_new' ho0 (Kd.R_lt rHO_6_)) (Kd.R_lt rHO_8_)) (below_size hS_)); have n3_ := Aside0.mk (Kd.R_lower (Kd.R_new' (Kd.R_new' ho1 (Kd.R_lt rHO_6_)) (Kd.R_lt rHO_8_)) (below_size hS_)); have n4_ := Aside0.mk (blk_below (g := gb297) (o := .cells #[.slice A0_0 l0_0.length c0_0, .int .i64 a0_1, .slice A0_2 l0_2.length c0_2] 25 (0, 0)) bK297_ hb); have n5_ := Aside0.mk (below_step hS_ hb); clear HO_6; clear HO_8; clear BK297; clear HB; have HO_6 := n0_; have HO_8 := n1_; have HO336 := n2_; have HO340 := n3_; have BK297 := n4_; have HB := n5_; clear n0_ n1_ n2_ n3_ n4_ n5_; (try clear hb); (try clear hb2); (try clear hk); (try clear hi); (try clear ho0); (try clear ho1); obtain ⟨Ao61, co61, eo61⟩ := Kd.R_slice HO336.out; subst eo61; obtain ⟨Ao62, co62, eo62⟩ := Kd.R_slice HO340.out; subst eo62) | ((with_reducible refine gate_callee (f := 10) rfl ?_); refine gL_ (some 61) Try.func10 #[.agg #[.slice Ao61 t334.length co61, .int .i64 t337, .slice Ao62 t338.length co62], .int .i64 a1] ?_; (with_reducible refine (impl_PredsOf.calls kj17 _ _ t334 t337 _ _ t338 a1 t341 _ ?side1 ?side2 ?side3 ?side4 A53.out).mono ?_); (case side1 => repeat (first | exact (Kd.R_reads' HO336.out).2.2 | (with_reducible refine Kd.C_alloc ?_ _) | (with_reducible refine Kd.C_drewN ?_ _) | (with_reducible refine Kd.C_drew ?_))); (case side2 => exact (Kd.R_reads' HO336.out).2.1); (case side3 => repeat (first | exact (Kd.R_reads' HO340.out).2.2 | (with_reducible refine Kd.C_alloc ?_ _) | (with_reducible refine Kd.C_drewN ?_ _) | (with_reducible refine Kd.C_drew ?_))); (case side4 => exact (Kd.R_reads' HO340.out).2.1); rintro e w63 ⟨v342, rfl, ho0, hb⟩; refine ⟨_, rfl, ?_⟩; have n0_ := Aside0.mk (Kd.R_elder' rHO_6_ (Kd.R_base ho0) hb); have n1_ := Aside0.mk (Kd.R_elder' rHO_8_ (Kd.R_base ho0) hb); have n2_ := Aside0.mk (Kd.R_elder' rHO336_ (Kd.R_base ho0) hb); have n3_ := Aside0.mk (Kd.R_elder' rHO340_ (Kd.R_base ho0) hb); have n4_ := Aside0.mk (Kd.R_lower (Kd.R_new' (Kd.R_new' (Kd.R_new' ho0 (Kd.R_lt rHO_6_)) (Kd.R_lt rHO_8_)) (Kd.R_lt rHO336_)) (below_size hS_)); have n5_ := Aside0.mk (blk_below (g := gb297) (o := .cells #[.slice A0_0 l0_0.length c0_0, .int .i64 a0_1, .slice A0_2 l0_2.length c0_2] 25 (0, 0)) bK297_ hb); have n6_ := Aside0.mk (below_step hS_ hb); clear HO_6; clear HO_8; clear HO336; clear HO340; clear BK297; clear HB; have HO_6 := n0_; have HO_8 := n1_; have HO336 := n2_; have HO340 := n3_; have HO343 := n4_; have BK297 := n5_; have HB := n6_; clear n0_ n1_ n2_ n3_ n4_ n5_ n6_; (try clear hb); (try clear hb2); (try clear hk); (try clear hi); (try clear ho0); obtain ⟨Ao64, co64, eo64⟩ := Kd.R_slice HO343.out; subst eo64) | ((with_reducible refine gate_callee (f := 11) rfl ?_); refine gL_ (some 64) Try.func11 #[.slice Ao64 t341.length co64, .slice Ao36 t306.length co36] ?_; (with_reducible refine (laws_eqInt64S.calls kj17 _ _ t341 _ _ t306 true _ ?side1 ?side2 ?side3 ?side4 A54.out).mono ?_); (case side1 => repeat (first | exact (Kd.R_reads' HO343.out).2.2 | (with_reducible refine Kd.C_alloc ?_ _) | (with_reducible refine Kd.C_drewN ?_ _) | (with_reducible refine Kd.C_drew ?_))); (case side2 => exact (Kd.R_reads' HO343.out).2.1); (case side3 => repeat (first | exact (Kd.R_reads' HO_6.out).2.2 | (with_reducible refine Kd.C_alloc ?_ _) | (with_reducible refine Kd.C_drewN ?_ _) | (with_reducible refine Kd.C_drew ?_))); (case side4 => exact (Kd.R_reads' HO_6.out).2.1); rintro e w' ⟨rfl, ⟨nd, rfl⟩⟩; refine ⟨_, rfl, ?_⟩) | ((with_reducible refine gate_callee (f := 15) rfl ?_); refine goesL_ (some 68) rfl rfl Try.func15 (by kernel_rfl) rfl #[.slice Ao35 t332.length co35, .int .i64 1] rfl (by (try simp only [List.map_toArray, List.map_cons, List.map_nil]); first | done | (rw [show t332.length = t317.length from (Kd.R_reads' HO_8.out).1.symm] <;> rfl) | rfl | (simp only [List.length_drop, List.length_take]; rfl)) ?_; (with_reducible refine (laws_heldInt64S.calls kj17 _ _ t332 1 t345 _ ?side1 ?side2 A56.out).mono ?_); (case side1 => repeat (first | exact (Kd.R_reads' HO_8.out).2.2 | (with_reducible refine Kd.C_alloc ?_ _) | (with_reducible refine Kd.C_drewN ?_ _) | (with_reducible refine Kd.C_drew ?_))); (case side2 => rw [show t332.length = t317.length from (Kd.R_reads' HO_8.out).1.symm]; exact (Kd.R_reads' HO_8.out).2.1); rintro e w' ⟨rfl, ⟨nd, rfl⟩⟩; refine ⟨_, rfl, ?_⟩))
           go_ret
           exact ⟨rG_, hS_⟩
          ·rw [if_neg c57] at H
           have c57b0 : decide (t345 < 0) = false := decide_eq_false c57
           clear c57
           by_cases c65 : t345 = t331
           ·rw [if_pos c65] at H
            have c65b0 : (t345 == t331) = true := beq_iff_eq.mpr c65
            have c65b1 : (t345 != t331) = false := bne_eq_false_iff_eq.mpr c65
            clear c65
            obtain rfl := Option.some.inj H
            go_wp2_with (first | ((with_reducible refine gate_callee (f := 14) rfl ?_); refine gL_ (some 49) Try.func14 #[.slice Ao35 t317.length co35, .int .i64 1] ?_; (with_reducible refine (laws_markInt64S.calls kj17 (fun k_ => some k_ = (.slice Ao35 t317.length co35 : Value).ownBlock) (.slice Ao35 t317.length co35) t317 1 t331 t332 w _ ?side1 ?side2 A47.out).mono ?_); (case side1 => repeat (first | (with_reducible first | exact HB.out | apply below_alloc | apply pw_below_drewN | apply below_drew1 | refine below_set ?_ GE297.out) | exact HB.out)); (case side2 => exact Kd.R_tight rfl HO_8.out); rintro e w66 ⟨rfl, hy0, hb, hkp⟩; refine ⟨_, rfl, ?_⟩; have n0_ := Aside0.mk (Kd.R_mono (ok' := fun k_ => some k_ ≠ (.slice Ao35 t317.length co35 : Value).ownBlock) (Kd.R_keptB (HO_6.out) hkp (fun k_ hk_ hs_ => (hk_) hs_)) (fun k_ hk_ => hk_.1)); have n1_ := Aside0.mk (Kd.R_reok rfl hy0 (fun k_ e_ => HO_8.out.1 k_ e_)); have n2_ := Aside0.mk (blk_kept bK297_ hkp (fun hs_ => (fun e_ => (Kd.R_ne HO_8.out BK297.out (by decide)) e_) hs_)); have n3_ := Aside0.mk (hb); clear HO_6; clear HO_8; clear BK297; clear HB; have HO_6 := n0_; have HO_8 := n1_; have BK297 := n2_; have HB := n3_; clear n0_ n1_ n2_ n3_; (try clear hb); (try clear hkp); (try clear hy0)) | ((with_reducible refine gate_callee (f := 15) rfl ?_); refine goesL_ (some 52) rfl rfl Try.func15 (by kernel_rfl) rfl #[.slice Ao35 t332.length co35, .int .i64 1] rfl (by (try simp only [List.map_toArray, List.map_cons, List.map_nil]); first | done | (rw [show t332.length = t317.length from (Kd.R_reads' HO_8.out).1.symm] <;> rfl) | rfl | (simp only [List.length_drop, List.length_take]; rfl)) ?_; (with_reducible refine (laws_heldInt64S.calls kj17 _ _ t332 1 t333 _ ?side1 ?side2 A48.out).mono ?_); (case side1 => repeat (first | exact (Kd.R_reads' HO_8.out).2.2 | (with_reducible refine Kd.C_alloc ?_ _) | (with_reducible refine Kd.C_drewN ?_ _) | (with_reducible refine Kd.C_drew ?_))); (case side2 => rw [show t332.length = t317.length from (Kd.R_reads' HO_8.out).1.symm]; exact (Kd.R_reads' HO_8.out).2.1); rintro e w' ⟨rfl, ⟨nd, rfl⟩⟩; refine ⟨_, rfl, ?_⟩; obtain ⟨hcz67_0, hcz67_1, hcz67_2, hfz67_0, hfz67_1, hfz67_2⟩ := blkc3_ BK297.out) | ((with_reducible refine gate_callee (f := 9) rfl ?_); refine gL_ (some 59) Try.func9 #[.agg #[.slice A0_0 l0_0.length c0_0, .int .i64 a0_1, .slice A0_2 l0_2.length c0_2]] ?_; (with_reducible refine (laws_toFunc.calls kj17 _ _ l0_0 a0_1 _ _ l0_2 t334 t337 t338 _ ?side1 ?side2 ?side3 ?side4 A52.out).mono ?_); (case side1 => repeat (first | exact (Kd.C_below HR0_0.out hS_) | (with_reducible refine Kd.C_alloc ?_ _) | (with_reducible refine Kd.C_drewN ?_ _) | (with_reducible refine Kd.C_drew ?_))); (case side2 => exact HC0_0.out); (case side3 => repeat (first | exact (Kd.C_below HR0_2.out hS_) | (with_reducible refine Kd.C_alloc ?_ _) | (with_reducible refine Kd.C_drewN ?_ _) | (with_reducible refine Kd.C_drew ?_))); (case side4 => exact HC0_2.out); rintro e w68 ⟨v335, v339, rfl, ho0, ho1, hb⟩; refine ⟨_, rfl, ?_⟩; have n0_ := Aside0.mk (Kd.R_elder' rHO_6_ (Kd.R_base ho0) hb); have n1_ := Aside0.mk (Kd.R_elder' rHO_8_ (Kd.R_base ho0) hb); have n2_ := Aside0.mk (Kd.R_lower (Kd.R_new' (Kd.R_new' ho0 (Kd.R_lt rHO_6_)) (Kd.R_lt rHO_8_)) (below_size hS_)); have n3_ := Aside0.mk (Kd.R_lower (Kd.R_new' (Kd.R_new' ho1 (Kd.R_lt rHO_6_)) (Kd.R_lt rHO_8_)) (below_size hS_)); have n4_ := Aside0.mk (blk_below (g := gb297) (o := .cells #[.slice A0_0 l0_0.length c0_0, .int .i64 a0_1, .slice A0_2 l0_2.length c0_2] 25 (0, 0)) bK297_ hb); have n5_ := Aside0.mk (below_step hS_ hb); clear HO_6; clear HO_8; clear BK297; clear HB; have HO_6 := n0_; have HO_8 := n1_; have HO336 := n2_; have HO340 := n3_; have BK297 := n4_; have HB := n5_; clear n0_ n1_ n2_ n3_ n4_ n5_; (try clear hb); (try clear hb2); (try clear hk); (try clear hi); (try clear ho0); (try clear ho1); obtain ⟨Ao69, co69, eo69⟩ := Kd.R_slice HO336.out; subst eo69; obtain ⟨Ao70, co70, eo70⟩ := Kd.R_slice HO340.out; subst eo70) | ((with_reducible refine gate_callee (f := 10) rfl ?_); refine gL_ (some 61) Try.func10 #[.agg #[.slice Ao69 t334.length co69, .int .i64 t337, .slice Ao70 t338.length co70], .int .i64 a1] ?_; (with_reducible refine (impl_PredsOf.calls kj17 _ _ t334 t337 _ _ t338 a1 t341 _ ?side1 ?side2 ?side3 ?side4 A53.out).mono ?_); (case side1 => repeat (first | exact (Kd.R_reads' HO336.out).2.2 | (with_reducible refine Kd.C_alloc ?_ _) | (with_reducible refine Kd.C_drewN ?_ _) | (with_reducible refine Kd.C_drew ?_))); (case side2 => exact (Kd.R_reads' HO336.out).2.1); (case side3 => repeat (first | exact (Kd.R_reads' HO340.out).2.2 | (with_reducible refine Kd.C_alloc ?_ _) | (with_reducible refine Kd.C_drewN ?_ _) | (with_reducible refine Kd.C_drew ?_))); (case side4 => exact (Kd.R_reads' HO340.out).2.1); rintro e w71 ⟨v342, rfl, ho0, hb⟩; refine ⟨_, rfl, ?_⟩; have n0_ := Aside0.mk (Kd.R_elder' rHO_6_ (Kd.R_base ho0) hb); have n1_ := Aside0.mk (Kd.R_elder' rHO_8_ (Kd.R_base ho0) hb); have n2_ := Aside0.mk (Kd.R_elder' rHO336_ (Kd.R_base ho0) hb); have n3_ := Aside0.mk (Kd.R_elder' rHO340_ (Kd.R_base ho0) hb); have n4_ := Aside0.mk (Kd.R_lower (Kd.R_new' (Kd.R_new' (Kd.R_new' ho0 (Kd.R_lt rHO_6_)) (Kd.R_lt rHO_8_)) (Kd.R_lt rHO336_)) (below_size hS_)); have n5_ := Aside0.mk (blk_below (g := gb297) (o := .cells #[.slice A0_0 l0_0.length c0_0, .int .i64 a0_1, .slice A0_2 l0_2.length c0_2] 25 (0, 0)) bK297_ hb); have n6_ := Aside0.mk (below_step hS_ hb); clear HO_6; clear HO_8; clear HO336; clear HO340; clear BK297; clear HB; have HO_6 := n0_; have HO_8 := n1_; have HO336 := n2_; have HO340 := n3_; have HO343 := n4_; have BK297 := n5_; have HB := n6_; clear n0_ n1_ n2_ n3_ n4_ n5_ n6_; (try clear hb); (try clear hb2); (try clear hk); (try clear hi); (try clear ho0); obtain ⟨Ao72, co72, eo72⟩ := Kd.R_slice HO343.out; subst eo72) | ((with_reducible refine gate_callee (f := 11) rfl ?_); refine gL_ (some 64) Try.func11 #[.slice Ao72 t341.length co72, .slice Ao36 t306.length co36] ?_; (with_reducible refine (laws_eqInt64S.calls kj17 _ _ t341 _ _ t306 true _ ?side1 ?side2 ?side3 ?side4 A54.out).mono ?_); (case side1 => repeat (first | exact (Kd.R_reads' HO343.out).2.2 | (with_reducible refine Kd.C_alloc ?_ _) | (with_reducible refine Kd.C_drewN ?_ _) | (with_reducible refine Kd.C_drew ?_))); (case side2 => exact (Kd.R_reads' HO343.out).2.1); (case side3 => repeat (first | exact (Kd.R_reads' HO_6.out).2.2 | (with_reducible refine Kd.C_alloc ?_ _) | (with_reducible refine Kd.C_drewN ?_ _) | (with_reducible refine Kd.C_drew ?_))); (case side4 => exact (Kd.R_reads' HO_6.out).2.1); rintro e w' ⟨rfl, ⟨nd, rfl⟩⟩; refine ⟨_, rfl, ?_⟩) | ((with_reducible refine gate_callee (f := 15) rfl ?_); refine goesL_ (some 68) rfl rfl Try.func15 (by kernel_rfl) rfl #[.slice Ao35 t332.length co35, .int .i64 1] rfl (by (try simp only [List.map_toArray, List.map_cons, List.map_nil]); first | done | (rw [show t332.length = t317.length from (Kd.R_reads' HO_8.out).1.symm] <;> rfl) | rfl | (simp only [List.length_drop, List.length_take]; rfl)) ?_; (with_reducible refine (laws_heldInt64S.calls kj17 _ _ t332 1 t345 _ ?side1 ?side2 A56.out).mono ?_); (case side1 => repeat (first | exact (Kd.R_reads' HO_8.out).2.2 | (with_reducible refine Kd.C_alloc ?_ _) | (with_reducible refine Kd.C_drewN ?_ _) | (with_reducible refine Kd.C_drew ?_))); (case side2 => rw [show t332.length = t317.length from (Kd.R_reads' HO_8.out).1.symm]; exact (Kd.R_reads' HO_8.out).2.1); rintro e w' ⟨rfl, ⟨nd, rfl⟩⟩; refine ⟨_, rfl, ?_⟩))
            go_ret
            exact ⟨rG_, hS_⟩
           ·rw [if_neg c65] at H
            have c65b0 : (t345 == t331) = false := beq_eq_false_iff_ne.mpr c65
            have c65b1 : (t345 != t331) = true := bne_iff_ne.mpr c65
            obtain rfl := Option.some.inj H
            go_wp2_with (first | ((with_reducible refine gate_callee (f := 14) rfl ?_); refine gL_ (some 49) Try.func14 #[.slice Ao35 t317.length co35, .int .i64 1] ?_; (with_reducible refine (laws_markInt64S.calls kj17 (fun k_ => some k_ = (.slice Ao35 t317.length co35 : Value).ownBlock) (.slice Ao35 t317.length co35) t317 1 t331 t332 w _ ?side1 ?side2 A47.out).mono ?_); (case side1 => repeat (first | (with_reducible first | exact HB.out | apply below_alloc | apply pw_below_drewN | apply below_drew1 | refine below_set ?_ GE297.out) | exact HB.out)); (case side2 => exact Kd.R_tight rfl HO_8.out); rintro e w73 ⟨rfl, hy0, hb, hkp⟩; refine ⟨_, rfl, ?_⟩; have n0_ := Aside0.mk (Kd.R_mono (ok' := fun k_ => some k_ ≠ (.slice Ao35 t317.length co35 : Value).ownBlock) (Kd.R_keptB (HO_6.out) hkp (fun k_ hk_ hs_ => (hk_) hs_)) (fun k_ hk_ => hk_.1)); have n1_ := Aside0.mk (Kd.R_reok rfl hy0 (fun k_ e_ => HO_8.out.1 k_ e_)); have n2_ := Aside0.mk (blk_kept bK297_ hkp (fun hs_ => (fun e_ => (Kd.R_ne HO_8.out BK297.out (by decide)) e_) hs_)); have n3_ := Aside0.mk (hb); clear HO_6; clear HO_8; clear BK297; clear HB; have HO_6 := n0_; have HO_8 := n1_; have BK297 := n2_; have HB := n3_; clear n0_ n1_ n2_ n3_; (try clear hb); (try clear hkp); (try clear hy0)) | ((with_reducible refine gate_callee (f := 15) rfl ?_); refine goesL_ (some 52) rfl rfl Try.func15 (by kernel_rfl) rfl #[.slice Ao35 t332.length co35, .int .i64 1] rfl (by (try simp only [List.map_toArray, List.map_cons, List.map_nil]); first | done | (rw [show t332.length = t317.length from (Kd.R_reads' HO_8.out).1.symm] <;> rfl) | rfl | (simp only [List.length_drop, List.length_take]; rfl)) ?_; (with_reducible refine (laws_heldInt64S.calls kj17 _ _ t332 1 t333 _ ?side1 ?side2 A48.out).mono ?_); (case side1 => repeat (first | exact (Kd.R_reads' HO_8.out).2.2 | (with_reducible refine Kd.C_alloc ?_ _) | (with_reducible refine Kd.C_drewN ?_ _) | (with_reducible refine Kd.C_drew ?_))); (case side2 => rw [show t332.length = t317.length from (Kd.R_reads' HO_8.out).1.symm]; exact (Kd.R_reads' HO_8.out).2.1); rintro e w' ⟨rfl, ⟨nd, rfl⟩⟩; refine ⟨_, rfl, ?_⟩; obtain ⟨hcz74_0, hcz74_1, hcz74_2, hfz74_0, hfz74_1, hfz74_2⟩ := blkc3_ BK297.out) | ((with_reducible refine gate_callee (f := 9) rfl ?_); refine gL_ (some 59) Try.func9 #[.agg #[.slice A0_0 l0_0.length c0_0, .int .i64 a0_1, .slice A0_2 l0_2.length c0_2]] ?_; (with_reducible refine (laws_toFunc.calls kj17 _ _ l0_0 a0_1 _ _ l0_2 t334 t337 t338 _ ?side1 ?side2 ?side3 ?side4 A52.out).mono ?_); (case side1 => repeat (first | exact (Kd.C_below HR0_0.out hS_) | (with_reducible refine Kd.C_alloc ?_ _) | (with_reducible refine Kd.C_drewN ?_ _) | (with_reducible refine Kd.C_drew ?_))); (case side2 => exact HC0_0.out); (case side3 => repeat (first | exact (Kd.C_below HR0_2.out hS_) | (with_reducible refine Kd.C_alloc ?_ _) | (with_reducible refine Kd.C_drewN ?_ _) | (with_reducible refine Kd.C_drew ?_))); (case side4 => exact HC0_2.out); rintro e w75 ⟨v335, v339, rfl, ho0, ho1, hb⟩; refine ⟨_, rfl, ?_⟩; have n0_ := Aside0.mk (Kd.R_elder' rHO_6_ (Kd.R_base ho0) hb); have n1_ := Aside0.mk (Kd.R_elder' rHO_8_ (Kd.R_base ho0) hb); have n2_ := Aside0.mk (Kd.R_lower (Kd.R_new' (Kd.R_new' ho0 (Kd.R_lt rHO_6_)) (Kd.R_lt rHO_8_)) (below_size hS_)); have n3_ := Aside0.mk (Kd.R_lower (Kd.R_new' (Kd.R_new' ho1 (Kd.R_lt rHO_6_)) (Kd.R_lt rHO_8_)) (below_size hS_)); have n4_ := Aside0.mk (blk_below (g := gb297) (o := .cells #[.slice A0_0 l0_0.length c0_0, .int .i64 a0_1, .slice A0_2 l0_2.length c0_2] 25 (0, 0)) bK297_ hb); have n5_ := Aside0.mk (below_step hS_ hb); clear HO_6; clear HO_8; clear BK297; clear HB; have HO_6 := n0_; have HO_8 := n1_; have HO336 := n2_; have HO340 := n3_; have BK297 := n4_; have HB := n5_; clear n0_ n1_ n2_ n3_ n4_ n5_; (try clear hb); (try clear hb2); (try clear hk); (try clear hi); (try clear ho0); (try clear ho1); obtain ⟨Ao76, co76, eo76⟩ := Kd.R_slice HO336.out; subst eo76; obtain ⟨Ao77, co77, eo77⟩ := Kd.R_slice HO340.out; subst eo77) | ((with_reducible refine gate_callee (f := 10) rfl ?_); refine gL_ (some 61) Try.func10 #[.agg #[.slice Ao76 t334.length co76, .int .i64 t337, .slice Ao77 t338.length co77], .int .i64 a1] ?_; (with_reducible refine (impl_PredsOf.calls kj17 _ _ t334 t337 _ _ t338 a1 t341 _ ?side1 ?side2 ?side3 ?side4 A53.out).mono ?_); (case side1 => repeat (first | exact (Kd.R_reads' HO336.out).2.2 | (with_reducible refine Kd.C_alloc ?_ _) | (with_reducible refine Kd.C_drewN ?_ _) | (with_reducible refine Kd.C_drew ?_))); (case side2 => exact (Kd.R_reads' HO336.out).2.1); (case side3 => repeat (first | exact (Kd.R_reads' HO340.out).2.2 | (with_reducible refine Kd.C_alloc ?_ _) | (with_reducible refine Kd.C_drewN ?_ _) | (with_reducible refine Kd.C_drew ?_))); (case side4 => exact (Kd.R_reads' HO340.out).2.1); rintro e w78 ⟨v342, rfl, ho0, hb⟩; refine ⟨_, rfl, ?_⟩; have n0_ := Aside0.mk (Kd.R_elder' rHO_6_ (Kd.R_base ho0) hb); have n1_ := Aside0.mk (Kd.R_elder' rHO_8_ (Kd.R_base ho0) hb); have n2_ := Aside0.mk (Kd.R_elder' rHO336_ (Kd.R_base ho0) hb); have n3_ := Aside0.mk (Kd.R_elder' rHO340_ (Kd.R_base ho0) hb); have n4_ := Aside0.mk (Kd.R_lower (Kd.R_new' (Kd.R_new' (Kd.R_new' ho0 (Kd.R_lt rHO_6_)) (Kd.R_lt rHO_8_)) (Kd.R_lt rHO336_)) (below_size hS_)); have n5_ := Aside0.mk (blk_below (g := gb297) (o := .cells #[.slice A0_0 l0_0.length c0_0, .int .i64 a0_1, .slice A0_2 l0_2.length c0_2] 25 (0, 0)) bK297_ hb); have n6_ := Aside0.mk (below_step hS_ hb); clear HO_6; clear HO_8; clear HO336; clear HO340; clear BK297; clear HB; have HO_6 := n0_; have HO_8 := n1_; have HO336 := n2_; have HO340 := n3_; have HO343 := n4_; have BK297 := n5_; have HB := n6_; clear n0_ n1_ n2_ n3_ n4_ n5_ n6_; (try clear hb); (try clear hb2); (try clear hk); (try clear hi); (try clear ho0); obtain ⟨Ao79, co79, eo79⟩ := Kd.R_slice HO343.out; subst eo79) | ((with_reducible refine gate_callee (f := 11) rfl ?_); refine gL_ (some 64) Try.func11 #[.slice Ao79 t341.length co79, .slice Ao36 t306.length co36] ?_; (with_reducible refine (laws_eqInt64S.calls kj17 _ _ t341 _ _ t306 true _ ?side1 ?side2 ?side3 ?side4 A54.out).mono ?_); (case side1 => repeat (first | exact (Kd.R_reads' HO343.out).2.2 | (with_reducible refine Kd.C_alloc ?_ _) | (with_reducible refine Kd.C_drewN ?_ _) | (with_reducible refine Kd.C_drew ?_))); (case side2 => exact (Kd.R_reads' HO343.out).2.1); (case side3 => repeat (first | exact (Kd.R_reads' HO_6.out).2.2 | (with_reducible refine Kd.C_alloc ?_ _) | (with_reducible refine Kd.C_drewN ?_ _) | (with_reducible refine Kd.C_drew ?_))); (case side4 => exact (Kd.R_reads' HO_6.out).2.1); rintro e w' ⟨rfl, ⟨nd, rfl⟩⟩; refine ⟨_, rfl, ?_⟩) | ((with_reducible refine gate_callee (f := 15) rfl ?_); refine goesL_ (some 68) rfl rfl Try.func15 (by kernel_rfl) rfl #[.slice Ao35 t332.length co35, .int .i64 1] rfl (by (try simp only [List.map_toArray, List.map_cons, List.map_nil]); first | done | (rw [show t332.length = t317.length from (Kd.R_reads' HO_8.out).1.symm] <;> rfl) | rfl | (simp only [List.length_drop, List.length_take]; rfl)) ?_; (with_reducible refine (laws_heldInt64S.calls kj17 _ _ t332 1 t345 _ ?side1 ?side2 A56.out).mono ?_); (case side1 => repeat (first | exact (Kd.R_reads' HO_8.out).2.2 | (with_reducible refine Kd.C_alloc ?_ _) | (with_reducible refine Kd.C_drewN ?_ _) | (with_reducible refine Kd.C_drew ?_))); (case side2 => rw [show t332.length = t317.length from (Kd.R_reads' HO_8.out).1.symm]; exact (Kd.R_reads' HO_8.out).2.1); rintro e w' ⟨rfl, ⟨nd, rfl⟩⟩; refine ⟨_, rfl, ?_⟩))
            go_ret
            exact ⟨rG_, hS_⟩
         ·replace c55 := Bool.eq_false_iff.mpr c55
          subst c55
          have H1 := (if_neg (show ¬ (false = true) by decide)).symm.trans H
          clear H
          have H := H1
          clear H1
          obtain rfl := Option.some.inj H
          go_wp2_with (first | ((with_reducible refine gate_callee (f := 14) rfl ?_); refine gL_ (some 49) Try.func14 #[.slice Ao35 t317.length co35, .int .i64 1] ?_; (with_reducible refine (laws_markInt64S.calls kj17 (fun k_ => some k_ = (.slice Ao35 t317.length co35 : Value).ownBlock) (.slice Ao35 t317.length co35) t317 1 t331 t332 w _ ?side1 ?side2 A47.out).mono ?_); (case side1 => repeat (first | (with_reducible first | exact HB.out | apply below_alloc | apply pw_below_drewN | apply below_drew1 | refine below_set ?_ GE297.out) | exact HB.out)); (case side2 => exact Kd.R_tight rfl HO_8.out); rintro e w80 ⟨rfl, hy0, hb, hkp⟩; refine ⟨_, rfl, ?_⟩; have n0_ := Aside0.mk (Kd.R_mono (ok' := fun k_ => some k_ ≠ (.slice Ao35 t317.length co35 : Value).ownBlock) (Kd.R_keptB (HO_6.out) hkp (fun k_ hk_ hs_ => (hk_) hs_)) (fun k_ hk_ => hk_.1)); have n1_ := Aside0.mk (Kd.R_reok rfl hy0 (fun k_ e_ => HO_8.out.1 k_ e_)); have n2_ := Aside0.mk (blk_kept bK297_ hkp (fun hs_ => (fun e_ => (Kd.R_ne HO_8.out BK297.out (by decide)) e_) hs_)); have n3_ := Aside0.mk (hb); clear HO_6; clear HO_8; clear BK297; clear HB; have HO_6 := n0_; have HO_8 := n1_; have BK297 := n2_; have HB := n3_; clear n0_ n1_ n2_ n3_; (try clear hb); (try clear hkp); (try clear hy0)) | ((with_reducible refine gate_callee (f := 15) rfl ?_); refine goesL_ (some 52) rfl rfl Try.func15 (by kernel_rfl) rfl #[.slice Ao35 t332.length co35, .int .i64 1] rfl (by (try simp only [List.map_toArray, List.map_cons, List.map_nil]); first | done | (rw [show t332.length = t317.length from (Kd.R_reads' HO_8.out).1.symm] <;> rfl) | rfl | (simp only [List.length_drop, List.length_take]; rfl)) ?_; (with_reducible refine (laws_heldInt64S.calls kj17 _ _ t332 1 t333 _ ?side1 ?side2 A48.out).mono ?_); (case side1 => repeat (first | exact (Kd.R_reads' HO_8.out).2.2 | (with_reducible refine Kd.C_alloc ?_ _) | (with_reducible refine Kd.C_drewN ?_ _) | (with_reducible refine Kd.C_drew ?_))); (case side2 => rw [show t332.length = t317.length from (Kd.R_reads' HO_8.out).1.symm]; exact (Kd.R_reads' HO_8.out).2.1); rintro e w' ⟨rfl, ⟨nd, rfl⟩⟩; refine ⟨_, rfl, ?_⟩; obtain ⟨hcz81_0, hcz81_1, hcz81_2, hfz81_0, hfz81_1, hfz81_2⟩ := blkc3_ BK297.out) | ((with_reducible refine gate_callee (f := 9) rfl ?_); refine gL_ (some 59) Try.func9 #[.agg #[.slice A0_0 l0_0.length c0_0, .int .i64 a0_1, .slice A0_2 l0_2.length c0_2]] ?_; (with_reducible refine (laws_toFunc.calls kj17 _ _ l0_0 a0_1 _ _ l0_2 t334 t337 t338 _ ?side1 ?side2 ?side3 ?side4 A52.out).mono ?_); (case side1 => repeat (first | exact (Kd.C_below HR0_0.out hS_) | (with_reducible refine Kd.C_alloc ?_ _) | (with_reducible refine Kd.C_drewN ?_ _) | (with_reducible refine Kd.C_drew ?_))); (case side2 => exact HC0_0.out); (case side3 => repeat (first | exact (Kd.C_below HR0_2.out hS_) | (with_reducible refine Kd.C_alloc ?_ _) | (with_reducible refine Kd.C_drewN ?_ _) | (with_reducible refine Kd.C_drew ?_))); (case side4 => exact HC0_2.out); rintro e w82 ⟨v335, v339, rfl, ho0, ho1, hb⟩; refine ⟨_, rfl, ?_⟩; have n0_ := Aside0.mk (Kd.R_elder' rHO_6_ (Kd.R_base ho0) hb); have n1_ := Aside0.mk (Kd.R_elder' rHO_8_ (Kd.R_base ho0) hb); have n2_ := Aside0.mk (Kd.R_lower (Kd.R_new' (Kd.R_new' ho0 (Kd.R_lt rHO_6_)) (Kd.R_lt rHO_8_)) (below_size hS_)); have n3_ := Aside0.mk (Kd.R_lower (Kd.R_new' (Kd.R_new' ho1 (Kd.R_lt rHO_6_)) (Kd.R_lt rHO_8_)) (below_size hS_)); have n4_ := Aside0.mk (blk_below (g := gb297) (o := .cells #[.slice A0_0 l0_0.length c0_0, .int .i64 a0_1, .slice A0_2 l0_2.length c0_2] 25 (0, 0)) bK297_ hb); have n5_ := Aside0.mk (below_step hS_ hb); clear HO_6; clear HO_8; clear BK297; clear HB; have HO_6 := n0_; have HO_8 := n1_; have HO336 := n2_; have HO340 := n3_; have BK297 := n4_; have HB := n5_; clear n0_ n1_ n2_ n3_ n4_ n5_; (try clear hb); (try clear hb2); (try clear hk); (try clear hi); (try clear ho0); (try clear ho1); obtain ⟨Ao83, co83, eo83⟩ := Kd.R_slice HO336.out; subst eo83; obtain ⟨Ao84, co84, eo84⟩ := Kd.R_slice HO340.out; subst eo84) | ((with_reducible refine gate_callee (f := 10) rfl ?_); refine gL_ (some 61) Try.func10 #[.agg #[.slice Ao83 t334.length co83, .int .i64 t337, .slice Ao84 t338.length co84], .int .i64 a1] ?_; (with_reducible refine (impl_PredsOf.calls kj17 _ _ t334 t337 _ _ t338 a1 t341 _ ?side1 ?side2 ?side3 ?side4 A53.out).mono ?_); (case side1 => repeat (first | exact (Kd.R_reads' HO336.out).2.2 | (with_reducible refine Kd.C_alloc ?_ _) | (with_reducible refine Kd.C_drewN ?_ _) | (with_reducible refine Kd.C_drew ?_))); (case side2 => exact (Kd.R_reads' HO336.out).2.1); (case side3 => repeat (first | exact (Kd.R_reads' HO340.out).2.2 | (with_reducible refine Kd.C_alloc ?_ _) | (with_reducible refine Kd.C_drewN ?_ _) | (with_reducible refine Kd.C_drew ?_))); (case side4 => exact (Kd.R_reads' HO340.out).2.1); rintro e w85 ⟨v342, rfl, ho0, hb⟩; refine ⟨_, rfl, ?_⟩; have n0_ := Aside0.mk (Kd.R_elder' rHO_6_ (Kd.R_base ho0) hb); have n1_ := Aside0.mk (Kd.R_elder' rHO_8_ (Kd.R_base ho0) hb); have n2_ := Aside0.mk (Kd.R_elder' rHO336_ (Kd.R_base ho0) hb); have n3_ := Aside0.mk (Kd.R_elder' rHO340_ (Kd.R_base ho0) hb); have n4_ := Aside0.mk (Kd.R_lower (Kd.R_new' (Kd.R_new' (Kd.R_new' ho0 (Kd.R_lt rHO_6_)) (Kd.R_lt rHO_8_)) (Kd.R_lt rHO336_)) (below_size hS_)); have n5_ := Aside0.mk (blk_below (g := gb297) (o := .cells #[.slice A0_0 l0_0.length c0_0, .int .i64 a0_1, .slice A0_2 l0_2.length c0_2] 25 (0, 0)) bK297_ hb); have n6_ := Aside0.mk (below_step hS_ hb); clear HO_6; clear HO_8; clear HO336; clear HO340; clear BK297; clear HB; have HO_6 := n0_; have HO_8 := n1_; have HO336 := n2_; have HO340 := n3_; have HO343 := n4_; have BK297 := n5_; have HB := n6_; clear n0_ n1_ n2_ n3_ n4_ n5_ n6_; (try clear hb); (try clear hb2); (try clear hk); (try clear hi); (try clear ho0); obtain ⟨Ao86, co86, eo86⟩ := Kd.R_slice HO343.out; subst eo86) | ((with_reducible refine gate_callee (f := 11) rfl ?_); refine gL_ (some 64) Try.func11 #[.slice Ao86 t341.length co86, .slice Ao36 t306.length co36] ?_; (with_reducible refine (laws_eqInt64S.calls kj17 _ _ t341 _ _ t306 false _ ?side1 ?side2 ?side3 ?side4 A54.out).mono ?_); (case side1 => repeat (first | exact (Kd.R_reads' HO343.out).2.2 | (with_reducible refine Kd.C_alloc ?_ _) | (with_reducible refine Kd.C_drewN ?_ _) | (with_reducible refine Kd.C_drew ?_))); (case side2 => exact (Kd.R_reads' HO343.out).2.1); (case side3 => repeat (first | exact (Kd.R_reads' HO_6.out).2.2 | (with_reducible refine Kd.C_alloc ?_ _) | (with_reducible refine Kd.C_drewN ?_ _) | (with_reducible refine Kd.C_drew ?_))); (case side4 => exact (Kd.R_reads' HO_6.out).2.1); rintro e w' ⟨rfl, ⟨nd, rfl⟩⟩; refine ⟨_, rfl, ?_⟩))
          go_ret
          exact ⟨rG_, hS_⟩
        ·rw [if_neg c51] at H
         have c51b0 : (t333 == t331) = false := beq_eq_false_iff_ne.mpr c51
         have c51b1 : (t333 != t331) = true := bne_iff_ne.mpr c51
         obtain rfl := Option.some.inj H
         go_wp2_with (first | ((with_reducible refine gate_callee (f := 14) rfl ?_); refine gL_ (some 49) Try.func14 #[.slice Ao35 t317.length co35, .int .i64 1] ?_; (with_reducible refine (laws_markInt64S.calls kj17 (fun k_ => some k_ = (.slice Ao35 t317.length co35 : Value).ownBlock) (.slice Ao35 t317.length co35) t317 1 t331 t332 w _ ?side1 ?side2 A47.out).mono ?_); (case side1 => repeat (first | (with_reducible first | exact HB.out | apply below_alloc | apply pw_below_drewN | apply below_drew1 | refine below_set ?_ GE297.out) | exact HB.out)); (case side2 => exact Kd.R_tight rfl HO_8.out); rintro e w87 ⟨rfl, hy0, hb, hkp⟩; refine ⟨_, rfl, ?_⟩; have n0_ := Aside0.mk (Kd.R_mono (ok' := fun k_ => some k_ ≠ (.slice Ao35 t317.length co35 : Value).ownBlock) (Kd.R_keptB (HO_6.out) hkp (fun k_ hk_ hs_ => (hk_) hs_)) (fun k_ hk_ => hk_.1)); have n1_ := Aside0.mk (Kd.R_reok rfl hy0 (fun k_ e_ => HO_8.out.1 k_ e_)); have n2_ := Aside0.mk (blk_kept bK297_ hkp (fun hs_ => (fun e_ => (Kd.R_ne HO_8.out BK297.out (by decide)) e_) hs_)); have n3_ := Aside0.mk (hb); clear HO_6; clear HO_8; clear BK297; clear HB; have HO_6 := n0_; have HO_8 := n1_; have BK297 := n2_; have HB := n3_; clear n0_ n1_ n2_ n3_; (try clear hb); (try clear hkp); (try clear hy0)) | ((with_reducible refine gate_callee (f := 15) rfl ?_); refine goesL_ (some 52) rfl rfl Try.func15 (by kernel_rfl) rfl #[.slice Ao35 t332.length co35, .int .i64 1] rfl (by (try simp only [List.map_toArray, List.map_cons, List.map_nil]); first | done | (rw [show t332.length = t317.length from (Kd.R_reads' HO_8.out).1.symm] <;> rfl) | rfl | (simp only [List.length_drop, List.length_take]; rfl)) ?_; (with_reducible refine (laws_heldInt64S.calls kj17 _ _ t332 1 t333 _ ?side1 ?side2 A48.out).mono ?_); (case side1 => repeat (first | exact (Kd.R_reads' HO_8.out).2.2 | (with_reducible refine Kd.C_alloc ?_ _) | (with_reducible refine Kd.C_drewN ?_ _) | (with_reducible refine Kd.C_drew ?_))); (case side2 => rw [show t332.length = t317.length from (Kd.R_reads' HO_8.out).1.symm]; exact (Kd.R_reads' HO_8.out).2.1); rintro e w' ⟨rfl, ⟨nd, rfl⟩⟩; refine ⟨_, rfl, ?_⟩))
         go_ret
         exact ⟨rG_, hS_⟩
   ·replace c16 := Bool.eq_false_iff.mpr c16
    subst c16
    have H1 := (if_neg (show ¬ (false = true) by decide)).symm.trans H
    clear H
    have H := H1
    clear H1
    obtain rfl := Option.some.inj H
    go_enter Try.func3, Try.ntmps3
    try go_wp2_with (first | ((with_reducible refine gate_dst (N := 2) rfl ?_); refine box_event ?hg (N := 2) ?hd (cs := #[.slice A0_0 l0_0.length c0_0, .int .i64 a0_1, .slice A0_2 l0_2.length c0_2]) (t := 25) ?hr ?_; (case hd => rfl); (case hg => rfl); (case hr => first | (go_simp; done) | (go_simp; rfl)); intro gb297 hg w88 hbox hb; have n0_ := Aside0.mk (below_step hB_ hb); have n1_ := Aside0.mk (hbox); have n2_ := Aside0.mk ((by rw [hg]; exact (below_size hB_) : w.heap.size ≤ gb297)); have n3_ := Aside0.mk ((by rw [hg]; exact (below_size hB_) : w.heap.size ≤ gb297)); clear HB; have HB := n0_; have BK297 := n1_; have GW297 := n2_; have GE297 := n3_; clear n0_ n1_ n2_ n3_; clear hb hbox hg; obtain ⟨hcz89_0, hcz89_1, hcz89_2, hfz89_0, hfz89_1, hfz89_2⟩ := blkc3_ BK297.out) | ((with_reducible refine gate_callee (f := 7) rfl ?_); refine gL_ (some 15) Try.func7 #[.agg #[.slice A0_0 l0_0.length c0_0, .int .i64 a0_1, .slice A0_2 l0_2.length c0_2], .int .i64 1048576] ?_; (with_reducible refine (laws_szFunc.calls k _ _ l0_0 a0_1 _ _ l0_2 1048576 t298 _ ?side1 ?side2 ?side3 ?side4 A3.out).mono ?_); (case side1 => repeat (first | exact (Kd.C_below HR0_0.out HB.out) | (with_reducible refine Kd.C_alloc ?_ _) | (with_reducible refine Kd.C_drewN ?_ _) | (with_reducible refine Kd.C_drew ?_))); (case side2 => exact HC0_0.out); (case side3 => repeat (first | exact (Kd.C_below HR0_2.out HB.out) | (with_reducible refine Kd.C_alloc ?_ _) | (with_reducible refine Kd.C_drewN ?_ _) | (with_reducible refine Kd.C_drew ?_))); (case side4 => exact HC0_2.out); rintro e w90 ⟨rfl, hb⟩; refine ⟨_, rfl, ?_⟩; have n0_ := Aside0.mk (blk_below (g := gb297) (o := .cells #[.slice A0_0 l0_0.length c0_0, .int .i64 a0_1, .slice A0_2 l0_2.length c0_2] 25 (0, 0)) bK297_ hb); have n1_ := Aside0.mk (below_step hS_ hb); clear BK297; clear HB; have BK297 := n0_; have HB := n1_; clear n0_ n1_; (try clear hb); (try clear hb2); (try clear hk); (try clear hi); obtain ⟨hcz91_0, hcz91_1, hcz91_2, hfz91_0, hfz91_1, hfz91_2⟩ := blkc3_ BK297.out) | ((with_reducible refine gate_callee (f := 9) rfl ?_); refine gL_ (some 19) Try.func9 #[.agg #[.slice A0_0 l0_0.length c0_0, .int .i64 a0_1, .slice A0_2 l0_2.length c0_2]] ?_; (with_reducible refine (laws_toFunc.calls k _ _ l0_0 a0_1 _ _ l0_2 t299 t302 t303 _ ?side1 ?side2 ?side3 ?side4 A8.out).mono ?_); (case side1 => repeat (first | exact (Kd.C_below HR0_0.out HB.out) | (with_reducible refine Kd.C_alloc ?_ _) | (with_reducible refine Kd.C_drewN ?_ _) | (with_reducible refine Kd.C_drew ?_))); (case side2 => exact HC0_0.out); (case side3 => repeat (first | exact (Kd.C_below HR0_2.out HB.out) | (with_reducible refine Kd.C_alloc ?_ _) | (with_reducible refine Kd.C_drewN ?_ _) | (with_reducible refine Kd.C_drew ?_))); (case side4 => exact HC0_2.out); rintro e w92 ⟨v300, v304, rfl, ho0, ho1, hb⟩; refine ⟨_, rfl, ?_⟩; have n0_ := Aside0.mk (Kd.R_lower ho0 (below_size hS_)); have n1_ := Aside0.mk (Kd.R_lower ho1 (below_size hS_)); have n2_ := Aside0.mk (blk_below (g := gb297) (o := .cells #[.slice A0_0 l0_0.length c0_0, .int .i64 a0_1, .slice A0_2 l0_2.length c0_2] 25 (0, 0)) bK297_ hb); have n3_ := Aside0.mk (below_step hS_ hb); clear BK297; clear HB; have HO301 := n0_; have HO305 := n1_; have BK297 := n2_; have HB := n3_; clear n0_ n1_ n2_ n3_; (try clear hb); (try clear hb2); (try clear hk); (try clear hi); (try clear ho0); (try clear ho1); obtain ⟨Ao93, co93, eo93⟩ := Kd.R_slice HO301.out; subst eo93; obtain ⟨Ao94, co94, eo94⟩ := Kd.R_slice HO305.out; subst eo94) | ((with_reducible refine gate_callee (f := 8) rfl ?_); refine gL_ (some 21) Try.func8 #[.agg #[.slice Ao93 t299.length co93, .int .i64 t302, .slice Ao94 t303.length co94], .int .i64 a1] ?_; (with_reducible refine (spec_PredsOf.calls k _ _ t299 t302 _ _ t303 a1 t306 _ ?side1 ?side2 ?side3 ?side4 A9.out).mono ?_); (case side1 => repeat (first | exact (Kd.R_reads' HO301.out).2.2 | (with_reducible refine Kd.C_alloc ?_ _) | (with_reducible refine Kd.C_drewN ?_ _) | (with_reducible refine Kd.C_drew ?_))); (case side2 => exact (Kd.R_reads' HO301.out).2.1); (case side3 => repeat (first | exact (Kd.R_reads' HO305.out).2.2 | (with_reducible refine Kd.C_alloc ?_ _) | (with_reducible refine Kd.C_drewN ?_ _) | (with_reducible refine Kd.C_drew ?_))); (case side4 => exact (Kd.R_reads' HO305.out).2.1); rintro e w95 ⟨v307, rfl, ho0, hb⟩; refine ⟨_, rfl, ?_⟩; have n0_ := Aside0.mk (Kd.R_elder' rHO301_ (Kd.R_base ho0) hb); have n1_ := Aside0.mk (Kd.R_elder' rHO305_ (Kd.R_base ho0) hb); have n2_ := Aside0.mk (Kd.R_lower (Kd.R_new' ho0 (Kd.R_lt rHO301_)) (below_size hS_)); have n3_ := Aside0.mk (blk_below (g := gb297) (o := .cells #[.slice A0_0 l0_0.length c0_0, .int .i64 a0_1, .slice A0_2 l0_2.length c0_2] 25 (0, 0)) bK297_ hb); have n4_ := Aside0.mk (below_step hS_ hb); clear HO301; clear HO305; clear BK297; clear HB; have HO301 := n0_; have HO305 := n1_; have HO308 := n2_; have BK297 := n3_; have HB := n4_; clear n0_ n1_ n2_ n3_ n4_; (try clear hb); (try clear hb2); (try clear hk); (try clear hi); (try clear ho0); obtain ⟨hcz96_0, hcz96_1, hcz96_2, hfz96_0, hfz96_1, hfz96_2⟩ := blkc3_ BK297.out) | ((with_reducible refine gate_callee (f := 9) rfl ?_); refine gL_ (some 23) Try.func9 #[.agg #[.slice A0_0 l0_0.length c0_0, .int .i64 a0_1, .slice A0_2 l0_2.length c0_2]] ?_; (with_reducible refine (laws_toFunc.calls k _ _ l0_0 a0_1 _ _ l0_2 t309 t312 t313 _ ?side1 ?side2 ?side3 ?side4 A10.out).mono ?_); (case side1 => repeat (first | exact (Kd.C_below HR0_0.out HB.out) | (with_reducible refine Kd.C_alloc ?_ _) | (with_reducible refine Kd.C_drewN ?_ _) | (with_reducible refine Kd.C_drew ?_))); (case side2 => exact HC0_0.out); (case side3 => repeat (first | exact (Kd.C_below HR0_2.out HB.out) | (with_reducible refine Kd.C_alloc ?_ _) | (with_reducible refine Kd.C_drewN ?_ _) | (with_reducible refine Kd.C_drew ?_))); (case side4 => exact HC0_2.out); rintro e w97 ⟨v310, v314, rfl, ho0, ho1, hb⟩; refine ⟨_, rfl, ?_⟩; have n0_ := Aside0.mk (Kd.R_elder' rHO301_ (Kd.R_base ho0) hb); have n1_ := Aside0.mk (Kd.R_mono (Kd.R_told (Kd.R_told (Kd.R_old rHO305_ hb) (Kd.R_base ho0)) (Kd.R_base ho1)) (fun _ h_ => h_.1)); have n2_ := Aside0.mk (Kd.R_elder' rHO308_ (Kd.R_base ho0) hb); have n3_ := Aside0.mk (Kd.R_lower (Kd.R_new' (Kd.R_new' ho0 (Kd.R_lt rHO301_)) (Kd.R_lt rHO308_)) (below_size hS_)); have n4_ := Aside0.mk (Kd.R_lower (Kd.R_new' (Kd.R_new' (Kd.R_new' ho1 (Kd.R_lt rHO301_)) (Kd.R_lt rHO305_)) (Kd.R_lt rHO308_)) (below_size hS_)); have n5_ := Aside0.mk (blk_below (g := gb297) (o := .cells #[.slice A0_0 l0_0.length c0_0, .int .i64 a0_1, .slice A0_2 l0_2.length c0_2] 25 (0, 0)) bK297_ hb); have n6_ := Aside0.mk (below_step hS_ hb); clear HO301; clear HO305; clear HO308; clear BK297; clear HB; have HO301 := n0_; have HO305 := n1_; have HO308 := n2_; have HO311 := n3_; have HO315 := n4_; have BK297 := n5_; have HB := n6_; clear n0_ n1_ n2_ n3_ n4_ n5_ n6_; (try clear hb); (try clear hb2); (try clear hk); (try clear hi); (try clear ho0); (try clear ho1)) | ((with_reducible refine gate_dst (N := 7) rfl ?_); refine box_event ?hg (N := 7) ?hd (cs := #[.slice none 0 0, .int .i64 0, .slice none 0 0]) (t := 30) ?hr ?_; (case hd => rfl); (case hg => rfl); (case hr => first | (go_simp; done) | (go_simp; rfl)); intro gb316 hg w98 hbox hb; have n0_ := Aside0.mk (Kd.R_below rHO301_ hb); have n1_ := Aside0.mk (Kd.R_below rHO305_ hb); have n2_ := Aside0.mk (Kd.R_below rHO308_ hb); have n3_ := Aside0.mk (Kd.R_below rHO311_ hb); have n4_ := Aside0.mk (Kd.R_below rHO315_ hb); have n5_ := Aside0.mk (blk_below (g := gb297) (o := .cells #[.slice A0_0 l0_0.length c0_0, .int .i64 a0_1, .slice A0_2 l0_2.length c0_2] 25 (0, 0)) bK297_ hb); have n6_ := Aside0.mk (below_step hS_ hb); have n7_ := Aside0.mk (hbox); have n8_ := Aside0.mk ((by rw [hg]; exact (below_size hS_) : w.heap.size ≤ gb316)); have n9_ := Aside0.mk ((by rw [hg]; exact (below_size hS_) : w.heap.size ≤ gb316)); have n10_ := Aside0.mk ((by rw [hg]; exact Nat.ne_of_lt (blk_lt (g := gb297) (o := .cells #[.slice A0_0 l0_0.length c0_0, .int .i64 a0_1, .slice A0_2 l0_2.length c0_2] 25 (0, 0)) bK297_) : gb297 ≠ gb316)); have n11_ := Aside0.mk ((by rw [hg]; exact Nat.ne_of_gt (blk_lt (g := gb297) (o := .cells #[.slice A0_0 l0_0.length c0_0, .int .i64 a0_1, .slice A0_2 l0_2.length c0_2] 25 (0, 0)) bK297_) : gb316 ≠ gb297)); clear HO301; clear HO305; clear HO308; clear HO311; clear HO315; clear BK297; clear HB; have HO301 := n0_; have HO305 := n1_; have HO308 := n2_; have HO311 := n3_; have HO315 := n4_; have BK297 := n5_; have HB := n6_; have BK316 := n7_; have GW316 := n8_; have GE316 := n9_; have NB297_316 := n10_; have NB316_297 := n11_; clear n0_ n1_ n2_ n3_ n4_ n5_ n6_ n7_ n8_ n9_ n10_ n11_; clear hb hbox hg; obtain ⟨Ao99, co99, eo99⟩ := Kd.R_slice HO311.out; subst eo99; have hnb100 := NB316_297.out; have hnc100 := NB297_316.out; obtain ⟨hcz101_0, hcz101_1, hcz101_2, hfz101_0, hfz101_1, hfz101_2⟩ := blkc3_ BK316.out; obtain ⟨Ao102, co102, eo102⟩ := Kd.R_slice HO315.out; subst eo102) | ((with_reducible refine gate_callee (f := 10) rfl ?_); refine gL_ (some 26) Try.func10 #[.agg #[.slice Ao99 t309.length co99, .int .i64 t312, .slice Ao102 t313.length co102], .int .i64 a1] ?_; (with_reducible refine (impl_PredsOf.calls k _ _ t309 t312 _ _ t313 a1 t317 _ ?side1 ?side2 ?side3 ?side4 A11.out).mono ?_); (case side1 => refine (Kd.R_reads' (e := 2) (base := w.heap.size) (ok := fun k_ => ((True ∧ some k_ ≠ (.slice Ao93 t299.length co93 : Value).ownBlock) ∧ some k_ ≠ (v307 : Value).ownBlock)) (n := t309.length) (c := co99) ?_).2.2; exact (by (with_reducible repeat (first | apply Kd.R_alloc | apply Kd.R_drewN | apply Kd.R_drew)); exact (rf3_ HO311.out BK316.out (by decide) (.slice Ao99 t309.length co99) (.int .i64 t312) (.slice Ao102 t313.length co102)))); (case side2 => exact (Kd.R_reads' HO311.out).2.1); (case side3 => refine (Kd.R_reads' (e := 80) (base := w.heap.size) (ok := fun k_ => (((some k_ ≠ (.slice Ao99 t309.length co99 : Value).ownBlock ∧ some k_ ≠ (.slice Ao93 t299.length co93 : Value).ownBlock) ∧ some k_ ≠ (.slice Ao94 t303.length co94 : Value).ownBlock) ∧ some k_ ≠ (v307 : Value).ownBlock)) (n := t313.length) (c := co102) ?_).2.2; exact (by (with_reducible repeat (first | apply Kd.R_alloc | apply Kd.R_drewN | apply Kd.R_drew)); exact (rf3_ HO315.out BK316.out (by decide) (.slice Ao99 t309.length co99) (.int .i64 t312) (.slice Ao102 t313.length co102)))); (case side4 => exact (Kd.R_reads' HO315.out).2.1); rintro e w103 ⟨v318, rfl, ho0, hb⟩; refine ⟨_, rfl, ?_⟩; have n0_ := Aside0.mk (Kd.R_elder' (by (with_reducible repeat (first | apply Kd.R_alloc | apply Kd.R_drewN | apply Kd.R_drew)); exact (rf3_ HO301.out BK316.out (by decide) (.slice Ao99 t309.length co99) (.int .i64 t312) (.slice Ao102 t313.length co102))) (Kd.R_base ho0) hb); have n1_ := Aside0.mk (Kd.R_elder' (by (with_reducible repeat (first | apply Kd.R_alloc | apply Kd.R_drewN | apply Kd.R_drew)); exact (rf3_ HO305.out BK316.out (by decide) (.slice Ao99 t309.length co99) (.int .i64 t312) (.slice Ao102 t313.length co102))) (Kd.R_base ho0) hb); have n2_ := Aside0.mk (Kd.R_elder' (by (with_reducible repeat (first | apply Kd.R_alloc | apply Kd.R_drewN | apply Kd.R_drew)); exact (rf3_ HO308.out BK316.out (by decide) (.slice Ao99 t309.length co99) (.int .i64 t312) (.slice Ao102 t313.length co102))) (Kd.R_base ho0) hb); have n3_ := Aside0.mk (Kd.R_elder' (by (with_reducible repeat (first | apply Kd.R_alloc | apply Kd.R_drewN | apply Kd.R_drew)); exact (rf3_ HO311.out BK316.out (by decide) (.slice Ao99 t309.length co99) (.int .i64 t312) (.slice Ao102 t313.length co102))) (Kd.R_base ho0) hb); have n4_ := Aside0.mk (Kd.R_elder' (by (with_reducible repeat (first | apply Kd.R_alloc | apply Kd.R_drewN | apply Kd.R_drew)); exact (rf3_ HO315.out BK316.out (by decide) (.slice Ao99 t309.length co99) (.int .i64 t312) (.slice Ao102 t313.length co102))) (Kd.R_base ho0) hb); have n5_ := Aside0.mk (Kd.R_lower (Kd.R_new' (Kd.R_new' (Kd.R_new' ho0 (Kd.R_lt (by (with_reducible repeat (first | apply Kd.R_alloc | apply Kd.R_drewN | apply Kd.R_drew)); exact (rf3_ HO301.out BK316.out (by decide) (.slice Ao99 t309.length co99) (.int .i64 t312) (.slice Ao102 t313.length co102))))) (Kd.R_lt (by (with_reducible repeat (first | apply Kd.R_alloc | apply Kd.R_drewN | apply Kd.R_drew)); exact (rf3_ HO308.out BK316.out (by decide) (.slice Ao99 t309.length co99) (.int .i64 t312) (.slice Ao102 t313.length co102))))) (Kd.R_lt (by (with_reducible repeat (first | apply Kd.R_alloc | apply Kd.R_drewN | apply Kd.R_drew)); exact (rf3_ HO311.out BK316.out (by decide) (.slice Ao99 t309.length co99) (.int .i64 t312) (.slice Ao102 t313.length co102))))) (below_size hS_)); have n6_ := Aside0.mk (blk_below (g := gb297) (o := .cells #[.slice A0_0 l0_0.length c0_0, .int .i64 a0_1, .slice A0_2 l0_2.length c0_2] 25 (0, 0)) fK297_ hb); have n7_ := Aside0.mk (blk_below (g := gb316) (o := .cells #[.slice Ao99 t309.length co99, .int .i64 t312, .slice Ao102 t313.length co102] 30 (0, 0)) (by (with_reducible repeat (first | refine blk_drewN ?_ _ | refine blk_drew ?_ | refine blk_alloc ?_ _)); refine blk_put (cs := #[.slice Ao99 t309.length co99, .int .i64 t312, .slice none 0 0]) ?_ 2 _ rfl; (with_reducible repeat (first | refine blk_drewN ?_ _ | refine blk_drew ?_ | refine blk_alloc ?_ _)); refine blk_put (cs := #[.slice Ao99 t309.length co99, .int .i64 0, .slice none 0 0]) ?_ 1 _ rfl; (with_reducible repeat (first | refine blk_drewN ?_ _ | refine blk_drew ?_ | refine blk_alloc ?_ _)); refine blk_put (cs := #[.slice none 0 0, .int .i64 0, .slice none 0 0]) ?_ 0 _ rfl; (with_reducible repeat (first | refine blk_drewN ?_ _ | refine blk_drew ?_ | refine blk_alloc ?_ _)); exact BK316.out) hb); have n8_ := Aside0.mk (below_step hS_ hb); clear HO301; clear HO305; clear HO308; clear HO311; clear HO315; clear BK297; clear BK316; clear HB; have HO301 := n0_; have HO305 := n1_; have HO308 := n2_; have HO311 := n3_; have HO315 := n4_; have HO319 := n5_; have BK297 := n6_; have BK316 := n7_; have HB := n8_; clear n0_ n1_ n2_ n3_ n4_ n5_ n6_ n7_ n8_; (try clear hb); (try clear hb2); (try clear hk); (try clear hi); (try clear ho0); obtain ⟨Ao104, co104, eo104⟩ := Kd.R_slice HO319.out; subst eo104; obtain ⟨Ao105, co105, eo105⟩ := Kd.R_slice HO308.out; subst eo105) | ((with_reducible refine gate_callee (f := 11) rfl ?_); refine gL_ (some 29) Try.func11 #[.slice Ao104 t317.length co104, .slice Ao105 t306.length co105] ?_; (with_reducible refine (laws_eqInt64S.calls k _ _ t317 _ _ t306 true _ ?side1 ?side2 ?side3 ?side4 A12.out).mono ?_); (case side1 => repeat (first | exact (Kd.R_reads' HO319.out).2.2 | (with_reducible refine Kd.C_alloc ?_ _) | (with_reducible refine Kd.C_drewN ?_ _) | (with_reducible refine Kd.C_drew ?_))); (case side2 => exact (Kd.R_reads' HO319.out).2.1); (case side3 => repeat (first | exact (Kd.R_reads' HO308.out).2.2 | (with_reducible refine Kd.C_alloc ?_ _) | (with_reducible refine Kd.C_drewN ?_ _) | (with_reducible refine Kd.C_drew ?_))); (case side4 => exact (Kd.R_reads' HO308.out).2.1); rintro e w' ⟨rfl, ⟨nd, rfl⟩⟩; refine ⟨_, rfl, ?_⟩))
    (try (rw [drewN_self w103]; generalize hq_ : World.drewN w103 _ = w103; have n0_ : Aside0 (Kd.R (Kd.int .i64) 2 w103 w.heap.size (fun k_ => some k_ ≠ (.slice Ao105 t306.length co105 : Value).ownBlock ∧ some k_ ≠ (.slice Ao99 t309.length co99 : Value).ownBlock ∧ some k_ ≠ (.slice Ao104 t317.length co104 : Value).ownBlock) (.slice Ao93 t299.length co93) t299) := ⟨by rw [← hq_]; exact (by (with_reducible repeat (first | apply Kd.R_alloc | apply Kd.R_drewN | apply Kd.R_drew)); exact Kd.R_mono HO301.out (fun _ hk => ⟨hk.1.1.2, ⟨hk.1.2, hk.2⟩⟩))⟩; have n1_ : Aside0 (Kd.R k80 80 w103 w.heap.size (fun k_ => some k_ ≠ (.slice Ao93 t299.length co93 : Value).ownBlock ∧ some k_ ≠ (.slice Ao105 t306.length co105 : Value).ownBlock ∧ some k_ ≠ (.slice Ao99 t309.length co99 : Value).ownBlock ∧ some k_ ≠ (.slice Ao102 t313.length co102 : Value).ownBlock ∧ some k_ ≠ (.slice Ao104 t317.length co104 : Value).ownBlock) (.slice Ao94 t303.length co94) t303) := ⟨by rw [← hq_]; exact (by (with_reducible repeat (first | apply Kd.R_alloc | apply Kd.R_drewN | apply Kd.R_drew)); exact Kd.R_mono HO305.out (fun _ hk => ⟨hk.1.1.1.1, ⟨hk.1.1.1.2, ⟨hk.1.1.2, ⟨hk.1.2, hk.2⟩⟩⟩⟩))⟩; have n2_ : Aside0 (Kd.R (Kd.int .i64) 2 w103 w.heap.size (fun k_ => some k_ ≠ (.slice Ao93 t299.length co93 : Value).ownBlock ∧ some k_ ≠ (.slice Ao99 t309.length co99 : Value).ownBlock ∧ some k_ ≠ (.slice Ao104 t317.length co104 : Value).ownBlock) (.slice Ao105 t306.length co105) t306) := ⟨by rw [← hq_]; exact (by (with_reducible repeat (first | apply Kd.R_alloc | apply Kd.R_drewN | apply Kd.R_drew)); exact Kd.R_mono HO308.out (fun _ hk => ⟨hk.1.1.2, ⟨hk.1.2, hk.2⟩⟩))⟩; have n3_ : Aside0 (Kd.R (Kd.int .i64) 2 w103 w.heap.size (fun k_ => some k_ ≠ (.slice Ao93 t299.length co93 : Value).ownBlock ∧ some k_ ≠ (.slice Ao105 t306.length co105 : Value).ownBlock ∧ some k_ ≠ (.slice Ao104 t317.length co104 : Value).ownBlock) (.slice Ao99 t309.length co99) t309) := ⟨by rw [← hq_]; exact (by (with_reducible repeat (first | apply Kd.R_alloc | apply Kd.R_drewN | apply Kd.R_drew)); exact Kd.R_mono HO311.out (fun _ hk => ⟨hk.1.1.2, ⟨hk.1.2, hk.2⟩⟩))⟩; have n4_ : Aside0 (Kd.R k80 80 w103 w.heap.size (fun k_ => some k_ ≠ (.slice Ao93 t299.length co93 : Value).ownBlock ∧ some k_ ≠ (.slice Ao94 t303.length co94 : Value).ownBlock ∧ some k_ ≠ (.slice Ao105 t306.length co105 : Value).ownBlock ∧ some k_ ≠ (.slice Ao99 t309.length co99 : Value).ownBlock ∧ some k_ ≠ (.slice Ao104 t317.length co104 : Value).ownBlock) (.slice Ao102 t313.length co102) t313) := ⟨by rw [← hq_]; exact (by (with_reducible repeat (first | apply Kd.R_alloc | apply Kd.R_drewN | apply Kd.R_drew)); exact Kd.R_mono HO315.out (fun _ hk => ⟨hk.1.1.1.2, ⟨hk.1.1.2, ⟨hk.1.2, ⟨hk.1.1.1.1, hk.2⟩⟩⟩⟩))⟩; have n5_ : Aside0 (Kd.R (Kd.int .i64) 2 w103 w.heap.size (fun k_ => some k_ ≠ (.slice Ao93 t299.length co93 : Value).ownBlock ∧ some k_ ≠ (.slice Ao105 t306.length co105 : Value).ownBlock ∧ some k_ ≠ (.slice Ao99 t309.length co99 : Value).ownBlock) (.slice Ao104 t317.length co104) t317) := ⟨by rw [← hq_]; exact (by (with_reducible repeat (first | apply Kd.R_alloc | apply Kd.R_drewN | apply Kd.R_drew)); exact Kd.R_mono HO319.out (fun _ hk => ⟨hk.1.1.2, ⟨hk.1.2, hk.2⟩⟩))⟩; have n6_ : Aside0 (w103.heap[gb297]? = some (.cells #[.slice A0_0 l0_0.length c0_0, .int .i64 a0_1, .slice A0_2 l0_2.length c0_2] 25 (0, 0))) := ⟨by rw [← hq_]; exact bK297_⟩; have n7_ : Aside0 (w103.heap[gb316]? = some (.cells #[.slice Ao99 t309.length co99, .int .i64 t312, .slice Ao102 t313.length co102] 30 (0, 0))) := ⟨by rw [← hq_]; exact bK316_⟩; have n8_ : Aside0 (Below w.heap.size w w103) := ⟨by rw [← hq_]; exact hS_⟩; clear HO301 HO305 HO308 HO311 HO315 HO319 BK297 BK316 HB hq_; have HO301 := n0_; have HO305 := n1_; have HO308 := n2_; have HO311 := n3_; have HO315 := n4_; have HO319 := n5_; have BK297 := n6_; have BK316 := n7_; have HB := n8_; clear n0_ n1_ n2_ n3_ n4_ n5_ n6_ n7_ n8_))
    have n0_ := Aside0.mk (Kd.R_drew HO301.out)
    have n1_ := Aside0.mk (Kd.R_drew HO305.out)
    have n2_ := Aside0.mk (Kd.R_drew HO308.out)
    have n3_ := Aside0.mk (Kd.R_drew HO311.out)
    have n4_ := Aside0.mk (Kd.R_drew HO315.out)
    have n5_ := Aside0.mk (Kd.R_drew HO319.out)
    have n6_ := Aside0.mk (blk_drew BK297.out)
    have n7_ := Aside0.mk (blk_drew BK316.out)
    have n8_ := Aside0.mk (below_drew1 HB.out)
    clear HO301
    clear HO305
    clear HO308
    clear HO311
    clear HO315
    clear HO319
    clear BK297
    clear BK316
    clear HB
    have HO301 := n0_
    have HO305 := n1_
    have HO308 := n2_
    have HO311 := n3_
    have HO315 := n4_
    have HO319 := n5_
    have BK297 := n6_
    have BK316 := n7_
    have HB := n8_
    clear n0_ n1_ n2_ n3_ n4_ n5_ n6_ n7_ n8_
    refine start_ (n := 5) (S := fun w' => w'.cell? ⟨gb316, 0, none⟩ = some (.slice Ao99 t309.length co99) ∧ w'.cell? ⟨gb316, 1, none⟩ = some (.int .i64 t312) ∧ w'.cell? ⟨gb316, 2, none⟩ = some (.slice Ao102 t313.length co102) ∧ w'.cell? ⟨gb297, 0, none⟩ = some (.slice A0_0 l0_0.length c0_0) ∧ w'.cell? ⟨gb297, 1, none⟩ = some (.int .i64 a0_1) ∧ w'.cell? ⟨gb297, 2, none⟩ = some (.slice A0_2 l0_2.length c0_2)) (ds := []) #[false, false, false, false, false] (by kernel_rfl) rfl rfl ⟨(blk_cell BK316.out 0).trans rfl, (blk_cell BK316.out 1).trans rfl, (blk_cell BK316.out 2).trans rfl, (blk_cell BK297.out 0).trans rfl, (blk_cell BK297.out 1).trans rfl, (blk_cell BK297.out 2).trans rfl⟩ (fun hHeld => ?_)
    generalize w103.drew = w106 at HO301 HO305 HO308 HO311 HO315 HO319 BK297 BK316 HB hHeld ⊢
    refine take_ (i := 0) (N := some 31) (v := ?_) (a' := ?_) #[true, false, false, false, false] rfl rfl (by kernel_rfl) (fun _ _ _ h => h) (Or.inl ⟨by rfl, ?_⟩) hHeld ?_ ?_
    rotate_left
    ·rintro w' ⟨s0, s1, s2, s3, s4, s5⟩
     go_simp
     with_reducible rfl
    rotate_left
    ·simp only [Act.put, List.setIfInBounds_toArray, List.set_cons_zero, List.set_cons_succ, i64_w, i32_w]
     rfl
    refine take_ (i := 1) (N := some 32) (v := ?_) (a' := ?_) #[true, true, false, false, false] rfl rfl (by kernel_rfl) (fun _ _ _ h => h) (Or.inl ⟨by rfl, ?_⟩) hHeld ?_ ?_
    rotate_left
    ·rintro w' ⟨s0, s1, s2, s3, s4, s5⟩
     go_simp
     with_reducible rfl
    rotate_left
    ·simp only [Act.put, List.setIfInBounds_toArray, List.set_cons_zero, List.set_cons_succ, i64_w, i32_w]
     rfl
    refine one_ (i := 2) (N := some 33) #[true, true, true, false, false] rfl rfl (by kernel_rfl) (by decide) (fun K hK => ?_)
    refine goes_ Try.func9 (by kernel_rfl) rfl #[.agg #[.slice A0_0 l0_0.length c0_0, .int .i64 a0_1, .slice A0_2 l0_2.length c0_2]] (by rfl) rfl rfl (by (try simp only [List.map_toArray, List.map_cons, List.map_nil]); first | done | rfl | (simp only [List.length_drop, List.length_take]; rfl)) ?_
    with_reducible refine (laws_toFunc.calls k _ _ l0_0 a0_1 _ _ l0_2 t321 t324 t325 _ ?side1 ?side2 ?side3 ?side4 A14.out).mono ?_
    (case side1 => repeat (first | exact (Kd.C_below HR0_0.out HB.out) | (with_reducible refine Kd.C_alloc ?_ _) | (with_reducible refine Kd.C_drewN ?_ _) | (with_reducible refine Kd.C_drew ?_)))
    (case side2 => exact HC0_0.out)
    (case side3 => repeat (first | exact (Kd.C_below HR0_2.out HB.out) | (with_reducible refine Kd.C_alloc ?_ _) | (with_reducible refine Kd.C_drewN ?_ _) | (with_reducible refine Kd.C_drew ?_)))
    (case side4 => exact HC0_2.out)
    rintro e w107 ⟨v322, v326, rfl, ho0, ho1, hb⟩
    refine ⟨_, rfl, ?_⟩
    have n0_ := Aside0.mk (Kd.R_elder' rHO301_ (Kd.R_base ho0) hb)
    have n1_ := Aside0.mk (Kd.R_mono (Kd.R_told (Kd.R_told (Kd.R_old rHO305_ hb) (Kd.R_base ho0)) (Kd.R_base ho1)) (fun _ h_ => h_.1))
    have n2_ := Aside0.mk (Kd.R_elder' rHO308_ (Kd.R_base ho0) hb)
    have n3_ := Aside0.mk (Kd.R_elder' rHO311_ (Kd.R_base ho0) hb)
    have n4_ := Aside0.mk (Kd.R_mono (Kd.R_told (Kd.R_told (Kd.R_old rHO315_ hb) (Kd.R_base ho0)) (Kd.R_base ho1)) (fun _ h_ => h_.1))
    have n5_ := Aside0.mk (Kd.R_elder' rHO319_ (Kd.R_base ho0) hb)
    have n6_ := Aside0.mk (Kd.R_lower (Kd.R_new' (Kd.R_new' (Kd.R_new' (Kd.R_new' ho0 (Kd.R_lt rHO301_)) (Kd.R_lt rHO308_)) (Kd.R_lt rHO311_)) (Kd.R_lt rHO319_)) (below_size hS_))
    have n7_ := Aside0.mk (Kd.R_lower (Kd.R_new' (Kd.R_new' (Kd.R_new' (Kd.R_new' (Kd.R_new' (Kd.R_new' ho1 (Kd.R_lt rHO301_)) (Kd.R_lt rHO305_)) (Kd.R_lt rHO308_)) (Kd.R_lt rHO311_)) (Kd.R_lt rHO315_)) (Kd.R_lt rHO319_)) (below_size hS_))
    have n8_ := Aside0.mk (blk_below (g := gb297) (o := .cells #[.slice A0_0 l0_0.length c0_0, .int .i64 a0_1, .slice A0_2 l0_2.length c0_2] 25 (0, 0)) bK297_ hb)
    have n9_ := Aside0.mk (blk_below (g := gb316) (o := .cells #[.slice Ao99 t309.length co99, .int .i64 t312, .slice Ao102 t313.length co102] 30 (0, 0)) bK316_ hb)
    have n10_ := Aside0.mk (below_step hS_ hb)
    clear HO301
    clear HO305
    clear HO308
    clear HO311
    clear HO315
    clear HO319
    clear BK297
    clear BK316
    clear HB
    have HO301 := n0_
    have HO305 := n1_
    have HO308 := n2_
    have HO311 := n3_
    have HO315 := n4_
    have HO319 := n5_
    have HO323 := n6_
    have HO327 := n7_
    have BK297 := n8_
    have BK316 := n9_
    have HB := n10_
    clear n0_ n1_ n2_ n3_ n4_ n5_ n6_ n7_ n8_ n9_ n10_
    (try clear hb)
    (try clear hb2)
    (try clear hk)
    (try clear hi)
    (try clear ho0)
    (try clear ho1)
    obtain ⟨Ao108, co108, eo108⟩ := Kd.R_slice HO323.out
    (first | subst eo108 | (injection eo108 with f1_ f2_ f3_; have f4_ := f1_.symm; have f5_ := f3_.symm; clear f1_ f2_ f3_; subst f4_; subst f5_))
    obtain ⟨Ao109, co109, eo109⟩ := Kd.R_slice HO327.out
    (first | subst eo109 | (injection eo109 with f1_ f2_ f3_; have f4_ := f1_.symm; have f5_ := f3_.symm; clear f1_ f2_ f3_; subst f4_; subst f5_))
    refine hK.out _ _ ⟨(blk_cell BK316.out 0).trans rfl, (blk_cell BK316.out 1).trans rfl, (blk_cell BK316.out 2).trans rfl, (blk_cell BK297.out 0).trans rfl, (blk_cell BK297.out 1).trans rfl, (blk_cell BK297.out 2).trans rfl⟩ (fun hHeld => ?_)
    clear hK K
    refine norm_ (a' := ?_) ?_ ?_
    rotate_left
    ·show Act.put _ (some 33) _ = _
     simp only [Act.put, List.setIfInBounds_toArray, List.set_cons_zero, List.set_cons_succ, i64_w, i32_w]
     rfl
    refine one_ (i := 3) (N := some 34) #[true, true, true, true, false] rfl rfl (by kernel_rfl) (by decide) (fun K hK => ?_)
    refine goes_ Try.func12 (by kernel_rfl) rfl #[.agg #[.slice Ao99 t309.length co99, .int .i64 t312, .slice Ao102 t313.length co102], .agg #[.slice Ao108 t321.length co108, .int .i64 t324, .slice Ao109 t325.length co109]] (by rfl) rfl rfl (by (try simp only [List.map_toArray, List.map_cons, List.map_nil]); first | done | rfl | (simp only [List.length_drop, List.length_take]; rfl)) ?_
    with_reducible refine (laws_eqFunc.calls k _ _ t309 t312 _ _ t313 _ _ t321 t324 _ _ t325 false _ ?side1 ?side2 ?side3 ?side4 ?side5 ?side6 ?side7 ?side8 A15.out).mono ?_
    (case side1 => repeat (first | exact (Kd.R_reads' HO311.out).2.2 | (with_reducible refine Kd.C_alloc ?_ _) | (with_reducible refine Kd.C_drewN ?_ _) | (with_reducible refine Kd.C_drew ?_)))
    (case side2 => exact (Kd.R_reads' HO311.out).2.1)
    (case side3 => repeat (first | exact (Kd.R_reads' HO315.out).2.2 | (with_reducible refine Kd.C_alloc ?_ _) | (with_reducible refine Kd.C_drewN ?_ _) | (with_reducible refine Kd.C_drew ?_)))
    (case side4 => exact (Kd.R_reads' HO315.out).2.1)
    (case side5 => repeat (first | exact (Kd.R_reads' HO323.out).2.2 | (with_reducible refine Kd.C_alloc ?_ _) | (with_reducible refine Kd.C_drewN ?_ _) | (with_reducible refine Kd.C_drew ?_)))
    (case side6 => exact (Kd.R_reads' HO323.out).2.1)
    (case side7 => repeat (first | exact (Kd.R_reads' HO327.out).2.2 | (with_reducible refine Kd.C_alloc ?_ _) | (with_reducible refine Kd.C_drewN ?_ _) | (with_reducible refine Kd.C_drew ?_)))
    (case side8 => exact (Kd.R_reads' HO327.out).2.1)
    rintro e w110 ⟨rfl, hb⟩
    refine ⟨_, rfl, ?_⟩
    have n0_ := Aside0.mk (Kd.R_below rHO301_ hb)
    have n1_ := Aside0.mk (Kd.R_below rHO305_ hb)
    have n2_ := Aside0.mk (Kd.R_below rHO308_ hb)
    have n3_ := Aside0.mk (Kd.R_below rHO311_ hb)
    have n4_ := Aside0.mk (Kd.R_below rHO315_ hb)
    have n5_ := Aside0.mk (Kd.R_below rHO319_ hb)
    have n6_ := Aside0.mk (Kd.R_below rHO323_ hb)
    have n7_ := Aside0.mk (Kd.R_below rHO327_ hb)
    have n8_ := Aside0.mk (blk_below (g := gb297) (o := .cells #[.slice A0_0 l0_0.length c0_0, .int .i64 a0_1, .slice A0_2 l0_2.length c0_2] 25 (0, 0)) bK297_ hb)
    have n9_ := Aside0.mk (blk_below (g := gb316) (o := .cells #[.slice Ao99 t309.length co99, .int .i64 t312, .slice Ao102 t313.length co102] 30 (0, 0)) bK316_ hb)
    have n10_ := Aside0.mk (below_step hS_ hb)
    clear HO301
    clear HO305
    clear HO308
    clear HO311
    clear HO315
    clear HO319
    clear HO323
    clear HO327
    clear BK297
    clear BK316
    clear HB
    have HO301 := n0_
    have HO305 := n1_
    have HO308 := n2_
    have HO311 := n3_
    have HO315 := n4_
    have HO319 := n5_
    have HO323 := n6_
    have HO327 := n7_
    have BK297 := n8_
    have BK316 := n9_
    have HB := n10_
    clear n0_ n1_ n2_ n3_ n4_ n5_ n6_ n7_ n8_ n9_ n10_
    (try clear hb)
    (try clear hb2)
    (try clear hk)
    (try clear hi)
    refine hK.out _ _ ⟨(blk_cell BK316.out 0).trans rfl, (blk_cell BK316.out 1).trans rfl, (blk_cell BK316.out 2).trans rfl, (blk_cell BK297.out 0).trans rfl, (blk_cell BK297.out 1).trans rfl, (blk_cell BK297.out 2).trans rfl⟩ (fun hHeld => ?_)
    clear hK K
    refine norm_ (a' := ?_) ?_ ?_
    rotate_left
    ·show Act.put _ (some 34) _ = _
     simp only [Act.put, List.setIfInBounds_toArray, List.set_cons_zero, List.set_cons_succ, i64_w, i32_w]
     rfl
    refine pure_ (i := 4) (N := some 35) (v := ?_) (a' := ?_) #[true, true, true, true, true] rfl rfl (by kernel_rfl) (fun _ _ _ h => h) (Or.inl ⟨by rfl, ?_⟩) ?_ ?_
    rotate_left
    ·intro w'
     go_simp
     with_reducible rfl
    rotate_left
    ·simp only [Act.put, List.setIfInBounds_toArray, List.set_cons_zero, List.set_cons_succ, i64_w, i32_w]
     rfl
    refine done_ (by kernel_rfl) ?_
    try go_wp2
    go_ret
    exact ⟨rG_, hS_⟩
  ·replace c13 := Bool.eq_false_iff.mpr c13
   subst c13
   have H1 := (if_neg (show ¬ (false = true) by decide)).symm.trans H
   clear H
   have H := H1
   clear H1
   obtain rfl := Option.some.inj H
   go_enter Try.func3, Try.ntmps3
   go_wp2_with (first | ((with_reducible refine gate_dst (N := 2) rfl ?_); refine box_event ?hg (N := 2) ?hd (cs := #[.slice A0_0 l0_0.length c0_0, .int .i64 a0_1, .slice A0_2 l0_2.length c0_2]) (t := 25) ?hr ?_; (case hd => rfl); (case hg => rfl); (case hr => first | (go_simp; done) | (go_simp; rfl)); intro gb297 hg w111 hbox hb; have n0_ := Aside0.mk (below_step hB_ hb); have n1_ := Aside0.mk (hbox); have n2_ := Aside0.mk ((by rw [hg]; exact (below_size hB_) : w.heap.size ≤ gb297)); have n3_ := Aside0.mk ((by rw [hg]; exact (below_size hB_) : w.heap.size ≤ gb297)); clear HB; have HB := n0_; have BK297 := n1_; have GW297 := n2_; have GE297 := n3_; clear n0_ n1_ n2_ n3_; clear hb hbox hg; obtain ⟨hcz112_0, hcz112_1, hcz112_2, hfz112_0, hfz112_1, hfz112_2⟩ := blkc3_ BK297.out) | ((with_reducible refine gate_callee (f := 7) rfl ?_); refine gL_ (some 15) Try.func7 #[.agg #[.slice A0_0 l0_0.length c0_0, .int .i64 a0_1, .slice A0_2 l0_2.length c0_2], .int .i64 1048576] ?_; (with_reducible refine (laws_szFunc.calls k _ _ l0_0 a0_1 _ _ l0_2 1048576 t298 _ ?side1 ?side2 ?side3 ?side4 A3.out).mono ?_); (case side1 => repeat (first | exact (Kd.C_below HR0_0.out HB.out) | (with_reducible refine Kd.C_alloc ?_ _) | (with_reducible refine Kd.C_drewN ?_ _) | (with_reducible refine Kd.C_drew ?_))); (case side2 => exact HC0_0.out); (case side3 => repeat (first | exact (Kd.C_below HR0_2.out HB.out) | (with_reducible refine Kd.C_alloc ?_ _) | (with_reducible refine Kd.C_drewN ?_ _) | (with_reducible refine Kd.C_drew ?_))); (case side4 => exact HC0_2.out); rintro e w113 ⟨rfl, hb⟩; refine ⟨_, rfl, ?_⟩; have n0_ := Aside0.mk (blk_below (g := gb297) (o := .cells #[.slice A0_0 l0_0.length c0_0, .int .i64 a0_1, .slice A0_2 l0_2.length c0_2] 25 (0, 0)) bK297_ hb); have n1_ := Aside0.mk (below_step hS_ hb); clear BK297; clear HB; have BK297 := n0_; have HB := n1_; clear n0_ n1_; (try clear hb); (try clear hb2); (try clear hk); (try clear hi); obtain ⟨hcz114_0, hcz114_1, hcz114_2, hfz114_0, hfz114_1, hfz114_2⟩ := blkc3_ BK297.out) | ((with_reducible refine gate_callee (f := 9) rfl ?_); refine gL_ (some 19) Try.func9 #[.agg #[.slice A0_0 l0_0.length c0_0, .int .i64 a0_1, .slice A0_2 l0_2.length c0_2]] ?_; (with_reducible refine (laws_toFunc.calls k _ _ l0_0 a0_1 _ _ l0_2 t299 t302 t303 _ ?side1 ?side2 ?side3 ?side4 A8.out).mono ?_); (case side1 => repeat (first | exact (Kd.C_below HR0_0.out HB.out) | (with_reducible refine Kd.C_alloc ?_ _) | (with_reducible refine Kd.C_drewN ?_ _) | (with_reducible refine Kd.C_drew ?_))); (case side2 => exact HC0_0.out); (case side3 => repeat (first | exact (Kd.C_below HR0_2.out HB.out) | (with_reducible refine Kd.C_alloc ?_ _) | (with_reducible refine Kd.C_drewN ?_ _) | (with_reducible refine Kd.C_drew ?_))); (case side4 => exact HC0_2.out); rintro e w115 ⟨v300, v304, rfl, ho0, ho1, hb⟩; refine ⟨_, rfl, ?_⟩; have n0_ := Aside0.mk (Kd.R_lower ho0 (below_size hS_)); have n1_ := Aside0.mk (Kd.R_lower ho1 (below_size hS_)); have n2_ := Aside0.mk (blk_below (g := gb297) (o := .cells #[.slice A0_0 l0_0.length c0_0, .int .i64 a0_1, .slice A0_2 l0_2.length c0_2] 25 (0, 0)) bK297_ hb); have n3_ := Aside0.mk (below_step hS_ hb); clear BK297; clear HB; have HO301 := n0_; have HO305 := n1_; have BK297 := n2_; have HB := n3_; clear n0_ n1_ n2_ n3_; (try clear hb); (try clear hb2); (try clear hk); (try clear hi); (try clear ho0); (try clear ho1); obtain ⟨Ao116, co116, eo116⟩ := Kd.R_slice HO301.out; subst eo116; obtain ⟨Ao117, co117, eo117⟩ := Kd.R_slice HO305.out; subst eo117) | ((with_reducible refine gate_callee (f := 8) rfl ?_); refine gL_ (some 21) Try.func8 #[.agg #[.slice Ao116 t299.length co116, .int .i64 t302, .slice Ao117 t303.length co117], .int .i64 a1] ?_; (with_reducible refine (spec_PredsOf.calls k _ _ t299 t302 _ _ t303 a1 t306 _ ?side1 ?side2 ?side3 ?side4 A9.out).mono ?_); (case side1 => repeat (first | exact (Kd.R_reads' HO301.out).2.2 | (with_reducible refine Kd.C_alloc ?_ _) | (with_reducible refine Kd.C_drewN ?_ _) | (with_reducible refine Kd.C_drew ?_))); (case side2 => exact (Kd.R_reads' HO301.out).2.1); (case side3 => repeat (first | exact (Kd.R_reads' HO305.out).2.2 | (with_reducible refine Kd.C_alloc ?_ _) | (with_reducible refine Kd.C_drewN ?_ _) | (with_reducible refine Kd.C_drew ?_))); (case side4 => exact (Kd.R_reads' HO305.out).2.1); rintro e w118 ⟨v307, rfl, ho0, hb⟩; refine ⟨_, rfl, ?_⟩; have n0_ := Aside0.mk (Kd.R_elder' rHO301_ (Kd.R_base ho0) hb); have n1_ := Aside0.mk (Kd.R_elder' rHO305_ (Kd.R_base ho0) hb); have n2_ := Aside0.mk (Kd.R_lower (Kd.R_new' ho0 (Kd.R_lt rHO301_)) (below_size hS_)); have n3_ := Aside0.mk (blk_below (g := gb297) (o := .cells #[.slice A0_0 l0_0.length c0_0, .int .i64 a0_1, .slice A0_2 l0_2.length c0_2] 25 (0, 0)) bK297_ hb); have n4_ := Aside0.mk (below_step hS_ hb); clear HO301; clear HO305; clear BK297; clear HB; have HO301 := n0_; have HO305 := n1_; have HO308 := n2_; have BK297 := n3_; have HB := n4_; clear n0_ n1_ n2_ n3_ n4_; (try clear hb); (try clear hb2); (try clear hk); (try clear hi); (try clear ho0); obtain ⟨hcz119_0, hcz119_1, hcz119_2, hfz119_0, hfz119_1, hfz119_2⟩ := blkc3_ BK297.out) | ((with_reducible refine gate_callee (f := 9) rfl ?_); refine gL_ (some 23) Try.func9 #[.agg #[.slice A0_0 l0_0.length c0_0, .int .i64 a0_1, .slice A0_2 l0_2.length c0_2]] ?_; (with_reducible refine (laws_toFunc.calls k _ _ l0_0 a0_1 _ _ l0_2 t309 t312 t313 _ ?side1 ?side2 ?side3 ?side4 A10.out).mono ?_); (case side1 => repeat (first | exact (Kd.C_below HR0_0.out HB.out) | (with_reducible refine Kd.C_alloc ?_ _) | (with_reducible refine Kd.C_drewN ?_ _) | (with_reducible refine Kd.C_drew ?_))); (case side2 => exact HC0_0.out); (case side3 => repeat (first | exact (Kd.C_below HR0_2.out HB.out) | (with_reducible refine Kd.C_alloc ?_ _) | (with_reducible refine Kd.C_drewN ?_ _) | (with_reducible refine Kd.C_drew ?_))); (case side4 => exact HC0_2.out); rintro e w120 ⟨v310, v314, rfl, ho0, ho1, hb⟩; refine ⟨_, rfl, ?_⟩; have n0_ := Aside0.mk (Kd.R_elder' rHO301_ (Kd.R_base ho0) hb); have n1_ := Aside0.mk (Kd.R_mono (Kd.R_told (Kd.R_told (Kd.R_old rHO305_ hb) (Kd.R_base ho0)) (Kd.R_base ho1)) (fun _ h_ => h_.1)); have n2_ := Aside0.mk (Kd.R_elder' rHO308_ (Kd.R_base ho0) hb); have n3_ := Aside0.mk (Kd.R_lower (Kd.R_new' (Kd.R_new' ho0 (Kd.R_lt rHO301_)) (Kd.R_lt rHO308_)) (below_size hS_)); have n4_ := Aside0.mk (Kd.R_lower (Kd.R_new' (Kd.R_new' (Kd.R_new' ho1 (Kd.R_lt rHO301_)) (Kd.R_lt rHO305_)) (Kd.R_lt rHO308_)) (below_size hS_)); have n5_ := Aside0.mk (blk_below (g := gb297) (o := .cells #[.slice A0_0 l0_0.length c0_0, .int .i64 a0_1, .slice A0_2 l0_2.length c0_2] 25 (0, 0)) bK297_ hb); have n6_ := Aside0.mk (below_step hS_ hb); clear HO301; clear HO305; clear HO308; clear BK297; clear HB; have HO301 := n0_; have HO305 := n1_; have HO308 := n2_; have HO311 := n3_; have HO315 := n4_; have BK297 := n5_; have HB := n6_; clear n0_ n1_ n2_ n3_ n4_ n5_ n6_; (try clear hb); (try clear hb2); (try clear hk); (try clear hi); (try clear ho0); (try clear ho1)) | ((with_reducible refine gate_dst (N := 7) rfl ?_); refine box_event ?hg (N := 7) ?hd (cs := #[.slice none 0 0, .int .i64 0, .slice none 0 0]) (t := 30) ?hr ?_; (case hd => rfl); (case hg => rfl); (case hr => first | (go_simp; done) | (go_simp; rfl)); intro gb316 hg w121 hbox hb; have n0_ := Aside0.mk (Kd.R_below rHO301_ hb); have n1_ := Aside0.mk (Kd.R_below rHO305_ hb); have n2_ := Aside0.mk (Kd.R_below rHO308_ hb); have n3_ := Aside0.mk (Kd.R_below rHO311_ hb); have n4_ := Aside0.mk (Kd.R_below rHO315_ hb); have n5_ := Aside0.mk (blk_below (g := gb297) (o := .cells #[.slice A0_0 l0_0.length c0_0, .int .i64 a0_1, .slice A0_2 l0_2.length c0_2] 25 (0, 0)) bK297_ hb); have n6_ := Aside0.mk (below_step hS_ hb); have n7_ := Aside0.mk (hbox); have n8_ := Aside0.mk ((by rw [hg]; exact (below_size hS_) : w.heap.size ≤ gb316)); have n9_ := Aside0.mk ((by rw [hg]; exact (below_size hS_) : w.heap.size ≤ gb316)); have n10_ := Aside0.mk ((by rw [hg]; exact Nat.ne_of_lt (blk_lt (g := gb297) (o := .cells #[.slice A0_0 l0_0.length c0_0, .int .i64 a0_1, .slice A0_2 l0_2.length c0_2] 25 (0, 0)) bK297_) : gb297 ≠ gb316)); have n11_ := Aside0.mk ((by rw [hg]; exact Nat.ne_of_gt (blk_lt (g := gb297) (o := .cells #[.slice A0_0 l0_0.length c0_0, .int .i64 a0_1, .slice A0_2 l0_2.length c0_2] 25 (0, 0)) bK297_) : gb316 ≠ gb297)); clear HO301; clear HO305; clear HO308; clear HO311; clear HO315; clear BK297; clear HB; have HO301 := n0_; have HO305 := n1_; have HO308 := n2_; have HO311 := n3_; have HO315 := n4_; have BK297 := n5_; have HB := n6_; have BK316 := n7_; have GW316 := n8_; have GE316 := n9_; have NB297_316 := n10_; have NB316_297 := n11_; clear n0_ n1_ n2_ n3_ n4_ n5_ n6_ n7_ n8_ n9_ n10_ n11_; clear hb hbox hg; obtain ⟨Ao122, co122, eo122⟩ := Kd.R_slice HO311.out; subst eo122; have hnb123 := NB316_297.out; have hnc123 := NB297_316.out; obtain ⟨hcz124_0, hcz124_1, hcz124_2, hfz124_0, hfz124_1, hfz124_2⟩ := blkc3_ BK316.out; obtain ⟨Ao125, co125, eo125⟩ := Kd.R_slice HO315.out; subst eo125) | ((with_reducible refine gate_callee (f := 10) rfl ?_); refine gL_ (some 26) Try.func10 #[.agg #[.slice Ao122 t309.length co122, .int .i64 t312, .slice Ao125 t313.length co125], .int .i64 a1] ?_; (with_reducible refine (impl_PredsOf.calls k _ _ t309 t312 _ _ t313 a1 t317 _ ?side1 ?side2 ?side3 ?side4 A11.out).mono ?_); (case side1 => refine (Kd.R_reads' (e := 2) (base := w.heap.size) (ok := fun k_ => ((True ∧ some k_ ≠ (.slice Ao116 t299.length co116 : Value).ownBlock) ∧ some k_ ≠ (v307 : Value).ownBlock)) (n := t309.length) (c := co122) ?_).2.2; exact (by (with_reducible repeat (first | apply Kd.R_alloc | apply Kd.R_drewN | apply Kd.R_drew)); exact (rf3_ HO311.out BK316.out (by decide) (.slice Ao122 t309.length co122) (.int .i64 t312) (.slice Ao125 t313.length co125)))); (case side2 => exact (Kd.R_reads' HO311.out).2.1); (case side3 => refine (Kd.R_reads' (e := 80) (base := w.heap.size) (ok := fun k_ => (((some k_ ≠ (.slice Ao122 t309.length co122 : Value).ownBlock ∧ some k_ ≠ (.slice Ao116 t299.length co116 : Value).ownBlock) ∧ some k_ ≠ (.slice Ao117 t303.length co117 : Value).ownBlock) ∧ some k_ ≠ (v307 : Value).ownBlock)) (n := t313.length) (c := co125) ?_).2.2; exact (by (with_reducible repeat (first | apply Kd.R_alloc | apply Kd.R_drewN | apply Kd.R_drew)); exact (rf3_ HO315.out BK316.out (by decide) (.slice Ao122 t309.length co122) (.int .i64 t312) (.slice Ao125 t313.length co125)))); (case side4 => exact (Kd.R_reads' HO315.out).2.1); rintro e w126 ⟨v318, rfl, ho0, hb⟩; refine ⟨_, rfl, ?_⟩; have n0_ := Aside0.mk (Kd.R_elder' (by (with_reducible repeat (first | apply Kd.R_alloc | apply Kd.R_drewN | apply Kd.R_drew)); exact (rf3_ HO301.out BK316.out (by decide) (.slice Ao122 t309.length co122) (.int .i64 t312) (.slice Ao125 t313.length co125))) (Kd.R_base ho0) hb); have n1_ := Aside0.mk (Kd.R_elder' (by (with_reducible repeat (first | apply Kd.R_alloc | apply Kd.R_drewN | apply Kd.R_drew)); exact (rf3_ HO305.out BK316.out (by decide) (.slice Ao122 t309.length co122) (.int .i64 t312) (.slice Ao125 t313.length co125))) (Kd.R_base ho0) hb); have n2_ := Aside0.mk (Kd.R_elder' (by (with_reducible repeat (first | apply Kd.R_alloc | apply Kd.R_drewN | apply Kd.R_drew)); exact (rf3_ HO308.out BK316.out (by decide) (.slice Ao122 t309.length co122) (.int .i64 t312) (.slice Ao125 t313.length co125))) (Kd.R_base ho0) hb); have n3_ := Aside0.mk (Kd.R_elder' (by (with_reducible repeat (first | apply Kd.R_alloc | apply Kd.R_drewN | apply Kd.R_drew)); exact (rf3_ HO311.out BK316.out (by decide) (.slice Ao122 t309.length co122) (.int .i64 t312) (.slice Ao125 t313.length co125))) (Kd.R_base ho0) hb); have n4_ := Aside0.mk (Kd.R_elder' (by (with_reducible repeat (first | apply Kd.R_alloc | apply Kd.R_drewN | apply Kd.R_drew)); exact (rf3_ HO315.out BK316.out (by decide) (.slice Ao122 t309.length co122) (.int .i64 t312) (.slice Ao125 t313.length co125))) (Kd.R_base ho0) hb); have n5_ := Aside0.mk (Kd.R_lower (Kd.R_new' (Kd.R_new' (Kd.R_new' ho0 (Kd.R_lt (by (with_reducible repeat (first | apply Kd.R_alloc | apply Kd.R_drewN | apply Kd.R_drew)); exact (rf3_ HO301.out BK316.out (by decide) (.slice Ao122 t309.length co122) (.int .i64 t312) (.slice Ao125 t313.length co125))))) (Kd.R_lt (by (with_reducible repeat (first | apply Kd.R_alloc | apply Kd.R_drewN | apply Kd.R_drew)); exact (rf3_ HO308.out BK316.out (by decide) (.slice Ao122 t309.length co122) (.int .i64 t312) (.slice Ao125 t313.length co125))))) (Kd.R_lt (by (with_reducible repeat (first | apply Kd.R_alloc | apply Kd.R_drewN | apply Kd.R_drew)); exact (rf3_ HO311.out BK316.out (by decide) (.slice Ao122 t309.length co122) (.int .i64 t312) (.slice Ao125 t313.length co125))))) (below_size hS_)); have n6_ := Aside0.mk (blk_below (g := gb297) (o := .cells #[.slice A0_0 l0_0.length c0_0, .int .i64 a0_1, .slice A0_2 l0_2.length c0_2] 25 (0, 0)) fK297_ hb); have n7_ := Aside0.mk (blk_below (g := gb316) (o := .cells #[.slice Ao122 t309.length co122, .int .i64 t312, .slice Ao125 t313.length co125] 30 (0, 0)) (by (with_reducible repeat (first | refine blk_drewN ?_ _ | refine blk_drew ?_ | refine blk_alloc ?_ _)); refine blk_put (cs := #[.slice Ao122 t309.length co122, .int .i64 t312, .slice none 0 0]) ?_ 2 _ rfl; (with_reducible repeat (first | refine blk_drewN ?_ _ | refine blk_drew ?_ | refine blk_alloc ?_ _)); refine blk_put (cs := #[.slice Ao122 t309.length co122, .int .i64 0, .slice none 0 0]) ?_ 1 _ rfl; (with_reducible repeat (first | refine blk_drewN ?_ _ | refine blk_drew ?_ | refine blk_alloc ?_ _)); refine blk_put (cs := #[.slice none 0 0, .int .i64 0, .slice none 0 0]) ?_ 0 _ rfl; (with_reducible repeat (first | refine blk_drewN ?_ _ | refine blk_drew ?_ | refine blk_alloc ?_ _)); exact BK316.out) hb); have n8_ := Aside0.mk (below_step hS_ hb); clear HO301; clear HO305; clear HO308; clear HO311; clear HO315; clear BK297; clear BK316; clear HB; have HO301 := n0_; have HO305 := n1_; have HO308 := n2_; have HO311 := n3_; have HO315 := n4_; have HO319 := n5_; have BK297 := n6_; have BK316 := n7_; have HB := n8_; clear n0_ n1_ n2_ n3_ n4_ n5_ n6_ n7_ n8_; (try clear hb); (try clear hb2); (try clear hk); (try clear hi); (try clear ho0); obtain ⟨Ao127, co127, eo127⟩ := Kd.R_slice HO319.out; subst eo127; obtain ⟨Ao128, co128, eo128⟩ := Kd.R_slice HO308.out; subst eo128) | ((with_reducible refine gate_callee (f := 11) rfl ?_); refine gL_ (some 29) Try.func11 #[.slice Ao127 t317.length co127, .slice Ao128 t306.length co128] ?_; (with_reducible refine (laws_eqInt64S.calls k _ _ t317 _ _ t306 false _ ?side1 ?side2 ?side3 ?side4 A12.out).mono ?_); (case side1 => repeat (first | exact (Kd.R_reads' HO319.out).2.2 | (with_reducible refine Kd.C_alloc ?_ _) | (with_reducible refine Kd.C_drewN ?_ _) | (with_reducible refine Kd.C_drew ?_))); (case side2 => exact (Kd.R_reads' HO319.out).2.1); (case side3 => repeat (first | exact (Kd.R_reads' HO308.out).2.2 | (with_reducible refine Kd.C_alloc ?_ _) | (with_reducible refine Kd.C_drewN ?_ _) | (with_reducible refine Kd.C_drew ?_))); (case side4 => exact (Kd.R_reads' HO308.out).2.1); rintro e w' ⟨rfl, ⟨nd, rfl⟩⟩; refine ⟨_, rfl, ?_⟩))
   go_ret
   exact ⟨rG_, hS_⟩

end Go.Proofs.Ytobfgnjdcoidoaa.X
namespace Go.Proofs.Ytobfgnjdcoidoaa.X
open Go.RowKit Go.Proofs.YtobfgnjdcoidoaaW.PrintWords Go.Proofs.YtobfgnjdcoidoaaW.PrintLast Go.Proofs.YtobfgnjdcoidoaaW.PrintMore
/-- What is known of a number that was read: it is of its kind. -/
def wfInt (k : IntKind) (n : Int) : Prop := (Lit.int k n).wf = true
/-- .. of a list: its length fits, and so of each element. -/
def wfList {α : Type} (Wf : α → Prop) (l : List α) : Prop := l.length ≤ 9223372036854775807 ∧ ∀ x ∈ l, Wf x
def wf121 (x : S121) : Prop := (wfInt .i64) x.f0 ∧ (wfList (wfInt .i64)) x.f1
def wf123 (x : S123) : Prop := (wfInt .i64) x.f0 ∧ (wfInt .i64) x.f1 ∧ (wfInt .i64) x.f2 ∧ (wfInt .i64) x.f3 ∧ (wfInt .i64) x.f4 ∧ (wfInt .i64) x.f5 ∧ (wfList (wfInt .i64)) x.f6
def wf72 (x : S72) : Prop := (wfInt .i64) x.f0 ∧ (wfInt .i64) x.f1 ∧ (wfInt .i64) x.f2 ∧ (wfInt .i64) x.f3
def wf74 (x : S74) : Prop := (wfList wf121) x.f0 ∧ (wfList wf123) x.f1 ∧ wf72 x.f2
def wf25 (x : S25) : Prop := (wfList (wfInt .i64)) x.f0 ∧ (wfInt .i64) x.f1 ∧ (wfList wf74) x.f2
end Go.Proofs.Ytobfgnjdcoidoaa.X
namespace Go.Proofs.Ytobfgnjdcoidoaa.X
open Go.RowKit Go.Proofs.YtobfgnjdcoidoaaW.PrintWords Go.Proofs.YtobfgnjdcoidoaaW.PrintLast Go.Proofs.YtobfgnjdcoidoaaW.PrintMore
set_option linter.unusedVariables false
open Go.Deep
/-- What can be read as data of type t stands as d tells it. -/
def Opens {α : Type} (P : Program) (d : Kd α) (t : TypeId) (Wf : α → Prop) : Prop :=
  ∀ {H : Type} (enc : TypeId × Value → H) (w : World) (base : Nat) (spare : Nat → Bool) (held : Bool) (fuel : Nat) (cs : List Value) (x : DataW H × List MemPlace), DataW.trod enc P w base spare held fuel t cs = some x → ∃ a, d.K w a cs ∧ Wf a
theorem opens_int {P : Program} {t : TypeId} {k : IntKind} (hu : P.underlying t = some (.int k)) : Opens P (Kd.int k) t (wfInt k) := by
  intro H enc w base spare held fuel cs x h
  obtain ⟨n, rfl, -, hw⟩ := DataW.trod_int hu h
  exact ⟨n, rfl, hw⟩
theorem opens_slice {α : Type} {P : Program} {d : Kd α} {Wf : α → Prop} {t e : TypeId} (hu : P.underlying t = some (.slice e)) (hc : P.cellsOf e = d.sz) (hd : Opens P d e Wf) : Opens P (Kd.slice e d) t (wfList Wf) := by
  intro H enc w base spare held fuel cs x h
  rcases open_slice hu h with ⟨rfl, -⟩ | ⟨a, len, cap, m, n, D, Pl, rfl, hb, hl, hm, hmm, -, hel⟩
  · exact ⟨[], ⟨none, 0, rfl, Nat.le_refl _, rfl, Nat.zero_le _, fun h => absurd h (Nat.lt_irrefl 0)⟩, Nat.zero_le _, fun _ h => by cases h⟩
  · have hlm : len ≤ m := by rw [hmm]; split <;> omega
    have hx : ∀ i, i < len → ∃ y, ∃ cs', w.cells? base (a.add (i * P.cellsOf e)) (P.cellsOf e) = some cs' ∧ d.K w y cs' ∧ Wf y := by
      intro i hi
      obtain ⟨cs', h1, h2⟩ := hel i (by omega)
      obtain ⟨y, hy⟩ := hd enc w base spare held n cs' _ h2
      exact ⟨y, cs', h1, hy⟩
    have hcell : ∀ i cs', w.cells? base (a.add (i * P.cellsOf e)) (P.cellsOf e) = some cs' → ∀ j u, cs'[j]? = some u → w.cell? (a.add (i * d.sz + j)) = some u := by
      intro i cs' h1 j u hj
      obtain ⟨-, hl', hc'⟩ := World.cells?_some h1
      have hjl : j < cs'.length := (List.getElem?_eq_some_iff.1 hj).1
      have := hc' j (by omega)
      rw [Deep.add_add, hc] at this
      rw [this]; exact hj
    by_cases h0 : len = 0
    · subst h0
      exact ⟨[], ⟨some a, cap, rfl, Nat.zero_le _, rfl, Nat.zero_le _, fun h => absurd h (Nat.lt_irrefl 0)⟩, Nat.zero_le _, fun _ h => by cases h⟩
    · obtain ⟨y0, -⟩ := hx 0 (by omega)
      haveI : Inhabited α := ⟨y0⟩
      obtain ⟨f, hf⟩ := choose_lt hx
      have hlen : ((List.range len).map f).length ≤ 9223372036854775807 := by
        have : cap ≤ maxLen := hm
        unfold maxLen at this
        simp; omega
      refine ⟨(List.range len).map f, ⟨some a, cap, by simp, by simpa using hl, ?_⟩, hlen, fun y hy => ?_⟩
      rotate_left
      · obtain ⟨i, hi, rfl⟩ := List.mem_map.1 hy
        obtain ⟨-, -, -, h3⟩ := hf i (by simpa using hi)
        exact h3
      refine ⟨by simp, hlen, fun _ => ⟨a, rfl, fun j p hp => ?_⟩⟩
      · have hj : j < len := by
          have := (List.getElem?_eq_some_iff.1 hp).1
          simpa using this
        have hp' : p = f j := by
          rw [List.getElem?_map, List.getElem?_range hj] at hp
          simpa using hp.symm
        subst hp'
        obtain ⟨cs', h1, h2, -⟩ := hf j hj
        exact ⟨cs', d.K_len h2, h2, fun i u hi => hcell j cs' h1 i u hi⟩
/-- Fields from place o on, the i-th of which was read as the i-th of xs. -/
def OpensFs {α : Type} (P : Program) (o : Nat) (fs : List Field) (d : Kd α) (Wf : α → Prop) : Prop :=
  ∀ {H : Type} (enc : TypeId × Value → H) (w : World) (base : Nat) (spare : Nat → Bool) (held : Bool) (fuel : Nat) (cs : List Value),
    (∀ f ∈ fs, ∃ x, DataW.trod enc P w base spare held fuel f.type ((cs.drop f.offset).take (P.cellsOf f.type)) = some x) → cs.length = o + d.sz → ∃ a, d.K w a (cs.drop o) ∧ Wf a
theorem opensFs_one {α : Type} {P : Program} {o : Nat} {f : Field} {d : Kd α} {Wf : α → Prop} (ho : f.offset = o) (hc : P.cellsOf f.type = d.sz) (hd : Opens P d f.type Wf) : OpensFs P o [f] d Wf := by
  intro H enc w base spare held fuel cs h hl
  obtain ⟨x, hx⟩ := h f (by simp)
  obtain ⟨a, ha, hw⟩ := hd enc w base spare held fuel _ _ hx
  refine ⟨a, ?_, hw⟩
  rw [ho, hc, List.take_of_length_le (by rw [List.length_drop]; omega)] at ha
  exact ha
theorem opensFs_cons {α β : Type} {P : Program} {o : Nat} {f : Field} {fs : List Field} {d : Kd α} {d2 : Kd β} {Wf : α → Prop} {Wf2 : β → Prop} (ho : f.offset = o) (hc : P.cellsOf f.type = d.sz) (hd : Opens P d f.type Wf) (hs : OpensFs P (o + d.sz) fs d2 Wf2) : OpensFs P o (f :: fs) (Kd.pair d d2) (fun x => Wf x.1 ∧ Wf2 x.2) := by
  intro H enc w base spare held fuel cs h hl
  obtain ⟨x, hx⟩ := h f (by simp)
  obtain ⟨a, ha, hw⟩ := hd enc w base spare held fuel _ _ hx
  have hl' : cs.length = o + d.sz + d2.sz := by rw [hl]; show o + (d.sz + d2.sz) = _; omega
  obtain ⟨b, hb, hw2⟩ := hs enc w base spare held fuel cs (fun f hf => h f (by simp [hf])) hl'
  rw [ho, hc] at ha
  refine ⟨(a, b), ⟨_, _, ?_, ha, hb⟩, hw, hw2⟩
  rw [← List.drop_drop, List.take_append_drop]
theorem opens_struct {α β : Type} {P : Program} {t : TypeId} {fs : Array Field} {d : Kd α} {f : β → α} (g : α → β) (hg : ∀ a, f (g a) = a) (hu : P.underlying t = some (.struct fs)) (hc : P.cellsOf t = d.sz) {Wf : α → Prop} (hd : OpensFs P 0 fs.toList d Wf) : Opens P (Kd.iso d f) t (fun x => Wf (f x)) := by
  intro H enc w base spare held fuel cs x h
  obtain ⟨xs, n, -, -, hl, hxs, hf⟩ := DataW.trod_struct hu h
  obtain ⟨a, ha, hw⟩ := hd enc w base spare held n cs (fun f hm => by
    obtain ⟨i, hi, rfl⟩ := List.getElem_of_mem hm
    have hi' : i < fs.size := by simpa using hi
    have := hf i fs[i] (by simp [hi'])
    rw [List.getElem?_eq_getElem (by omega)] at this
    exact ⟨_, by simpa using this⟩) (by rw [hl, hc, Nat.zero_add])
  exact ⟨g a, by show d.K w (f (g a)) cs; rw [hg]; simpa using ha, by show Wf (f (g a)); rw [hg]; exact hw⟩
/-- A value whose cells are not one is an aggregate of these. -/
theorem agg_of_cells {v : Value} (hn : v.cells.toList.length ≠ 1) : v = .agg v.cells.toList.toArray := by
  cases v <;> first | (exact absurd rfl hn) | (simp [Value.cells])

theorem opens121 : Opens Try.prog k121 121 wf121 :=
  opens_struct (fun (x : _) => (⟨x.1, x.2⟩ : S121)) (fun _ => rfl) Try.underlying121 (by kernel_rfl) (opensFs_cons rfl (by kernel_rfl) (opens_int Try.underlying2) (opensFs_one rfl (by kernel_rfl) (opens_slice Try.underlying22 (by kernel_rfl) (opens_int Try.underlying2))))
theorem opens123 : Opens Try.prog k123 123 wf123 :=
  opens_struct (fun (x : _) => (⟨x.1, x.2.1, x.2.2.1, x.2.2.2.1, x.2.2.2.2.1, x.2.2.2.2.2.1, x.2.2.2.2.2.2⟩ : S123)) (fun _ => rfl) Try.underlying123 (by kernel_rfl) (opensFs_cons rfl (by kernel_rfl) (opens_int Try.underlying2) (opensFs_cons rfl (by kernel_rfl) (opens_int Try.underlying2) (opensFs_cons rfl (by kernel_rfl) (opens_int Try.underlying2) (opensFs_cons rfl (by kernel_rfl) (opens_int Try.underlying2) (opensFs_cons rfl (by kernel_rfl) (opens_int Try.underlying2) (opensFs_cons rfl (by kernel_rfl) (opens_int Try.underlying2) (opensFs_one rfl (by kernel_rfl) (opens_slice Try.underlying22 (by kernel_rfl) (opens_int Try.underlying2)))))))))
theorem opens72 : Opens Try.prog k72 72 wf72 :=
  opens_struct (fun (x : _) => (⟨x.1, x.2.1, x.2.2.1, x.2.2.2⟩ : S72)) (fun _ => rfl) Try.underlying72 (by kernel_rfl) (opensFs_cons rfl (by kernel_rfl) (opens_int Try.underlying2) (opensFs_cons rfl (by kernel_rfl) (opens_int Try.underlying2) (opensFs_cons rfl (by kernel_rfl) (opens_int Try.underlying2) (opensFs_one rfl (by kernel_rfl) (opens_int Try.underlying2)))))
theorem opens74 : Opens Try.prog k74 74 wf74 :=
  opens_struct (fun (x : _) => (⟨x.1, x.2.1, x.2.2⟩ : S74)) (fun _ => rfl) Try.underlying74 (by kernel_rfl) (opensFs_cons rfl (by kernel_rfl) (opens_slice Try.underlying69 (by kernel_rfl) (opens121)) (opensFs_cons rfl (by kernel_rfl) (opens_slice Try.underlying70 (by kernel_rfl) (opens123)) (opensFs_one rfl (by kernel_rfl) (opens72))))
theorem opens25 : Opens Try.prog k25 25 wf25 :=
  opens_struct (fun (x : _) => (⟨x.1, x.2.1, x.2.2⟩ : S25)) (fun _ => rfl) Try.underlying25 (by kernel_rfl) (opensFs_cons rfl (by kernel_rfl) (opens_slice Try.underlying22 (by kernel_rfl) (opens_int Try.underlying2)) (opensFs_cons rfl (by kernel_rfl) (opens_int Try.underlying2) (opensFs_one rfl (by kernel_rfl) (opens_slice Try.underlying23 (by kernel_rfl) (opens74)))))
end Go.Proofs.Ytobfgnjdcoidoaa.X
namespace Go.Proofs.Ytobfgnjdcoidoaa.X
set_option linter.unusedVariables false
set_option linter.unusedSimpArgs false
open Go.RowKit Go.Proofs.YtobfgnjdcoidoaaW.PrintWords Go.Proofs.YtobfgnjdcoidoaaW.PrintLast Go.Proofs.YtobfgnjdcoidoaaW.PrintMore
theorem Ev.succ {α : Type} {g : Nat → Option α} {r : α} (h : Ev (fun k => g (k + 1)) r) : Ev g r := Ev.step (f := fun k => g (k + 1)) (fun _ => rfl) h
theorem Ev.cst {α : Type} {o : Option α} {r : α} (h : o = some r) : Ev (fun _ => o) r := ⟨0, fun _ _ => h⟩
theorem Ev.ipos {α : Type} {c : Prop} [Decidable c] {f g : Nat → Option α} {r : α} (hc : c) (h : Ev f r) : Ev (fun k => if c then f k else g k) r := Ev.congr (fun _ => if_pos hc) h
theorem Ev.ineg {α : Type} {c : Prop} [Decidable c] {f g : Nat → Option α} {r : α} (hc : ¬ c) (h : Ev g r) : Ev (fun k => if c then f k else g k) r := Ev.congr (fun _ => if_neg hc) h
theorem Ev.rw {α : Type} {g : Nat → Option α} {r s : α} (h : Ev g r) (e : r = s) : Ev g s := e ▸ h
theorem w64 {x : Int} (h0 : -9223372036854775808 ≤ x) (h1 : x ≤ 9223372036854775807) : wrap64 x = x := by unfold wrap64; omega
theorem getD_at {α : Type} (l : List α) (z : α) (j : Nat) (h : j < l.length) : l.getD j z = l[j] := by simp [List.getD, List.getElem?_eq_getElem h]
/-- What is left of a, when s is taken away. -/
def rem (a s : Int) : Int := if s ≤ a then a - s else -1
def sumOf {α : Type} (f : α → Int) : List α → Int
  | [] => 0
  | x :: l => f x + sumOf f l
theorem sumOf_nonneg {α : Type} {f : α → Int} : ∀ {l : List α}, (∀ x ∈ l, 0 ≤ f x) → 0 ≤ sumOf f l
  | [], _ => Int.le_refl _
  | x :: l, h => by
    have := h x (by simp)
    have := sumOf_nonneg (l := l) (fun y hy => h y (by simp [hy]))
    simp only [sumOf]; omega
theorem sumOf_drop {α : Type} (f : α → Int) (l : List α) (i : Nat) (h : i < l.length) : sumOf f (l.drop i) = f l[i] + sumOf f (l.drop (i + 1)) := by
  rw [List.drop_eq_getElem_cons h]; rfl
theorem le_sumOf {α : Type} {f : α → Int} {l : List α} (h : ∀ x ∈ l, 0 ≤ f x) {x : α} (hx : x ∈ l) : f x ≤ sumOf f l := by
  induction l with
  | nil => cases hx
  | cons y l ih =>
    have hn := sumOf_nonneg (l := l) (fun z hz => h z (by simp [hz]))
    simp only [sumOf]
    rcases List.mem_cons.1 hx with rfl | hx
    · omega
    · have := ih (fun z hz => h z (by simp [hz])) hx
      have := h y (by simp)
      omega
theorem sz_loop {α : Type} (L : Nat → List α → Int → Int → Option Int) (body : Nat → α → Int → Option Int) (z : α)
    (hL : ∀ k x left i, L (k + 1) x left i = if i < (x.length : Int) then (if 0 ≤ i then ((body k (x.getD i.toNat z) left).bind fun t => (if t < 0 then (some (-1)) else (L k x t (wrap64 (i + 1))))) else none) else some left)
    (size : α → Int) (x : List α) (hlen : x.length ≤ 9223372036854775807) (h0 : ∀ e ∈ x, 0 ≤ size e) (hb : ∀ e ∈ x, ∀ left, 0 ≤ left → left ≤ 1048576 → Ev (fun k => body k e left) (rem left (size e))) :
    ∀ left, 0 ≤ left → left ≤ 1048576 → Ev (fun k => L k x left 0) (rem left (sumOf size x)) := by
  suffices h : ∀ (d i : Nat) (left : Int), i + d = x.length → 0 ≤ left → left ≤ 1048576 → Ev (fun k => L k x left i) (rem left (sumOf size (x.drop i))) by
    intro left a b
    have := h x.length 0 left (by omega) a b
    simpa using this
  intro d
  induction d with
  | zero =>
    intro i left hi a b
    refine Ev.step (fun k => hL k x left i) (Ev.ineg (by omega) (Ev.rw (Ev.now left) ?_))
    rw [List.drop_of_length_le (by omega)]
    simp [sumOf, rem, a]
  | succ d ih =>
    intro i left hi a b
    have hlt : i < x.length := by omega
    have he : x[i] ∈ x := List.getElem_mem hlt
    have hs := h0 _ he
    have hr := sumOf_nonneg (f := size) (l := x.drop (i + 1)) (fun y hy => h0 y (List.mem_of_mem_drop hy))
    refine Ev.step (fun k => hL k x left i) (Ev.ipos (by omega) (Ev.ipos (by omega) ?_))
    rw [show (i : Int).toNat = i from rfl, getD_at x z i hlt]
    refine Ev.bind (hb _ he left a b) ?_
    rw [sumOf_drop size x i hlt]
    by_cases hc : size x[i] ≤ left
    · rw [show rem left (size x[i]) = left - size x[i] from if_pos hc]
      refine Ev.ineg (by omega) ?_
      rw [show wrap64 ((i : Int) + 1) = ((i + 1 : Nat) : Int) by rw [w64 (by omega) (by omega)]; rfl]
      refine Ev.rw (ih (i + 1) (left - size x[i]) (by omega) (by omega) (by omega)) ?_
      unfold rem
      split <;> split <;> omega
    · rw [show rem left (size x[i]) = -1 from if_neg hc]
      refine Ev.ipos (by decide) (Ev.rw (Ev.now (-1)) ?_)
      unfold rem
      rw [if_neg (by omega)]
theorem to_loop {α β τ : Type} (L : Nat → List α → List β → Int → Option (List β)) (body : Nat → α → Option τ) (mk : τ → β) (z : α)
    (hL : ∀ k x out i, L (k + 1) x out i = if i < (x.length : Int) then (if 0 ≤ i then ((body k (x.getD i.toNat z)).bind fun t => (if i < (out.length : Int) then (L k x (out.set i.toNat (mk t)) (wrap64 (i + 1))) else none)) else none) else some out)
    (conv : α → β) (x : List α) (hlen : x.length ≤ 1048576) (hb : ∀ e ∈ x, ∃ t, Ev (fun k => body k e) t ∧ mk t = conv e) (out : List β) (ho : out.length = x.length) :
    Ev (fun k => L k x out 0) (x.map conv) := by
  suffices h : ∀ (d i : Nat) (out : List β), i + d = x.length → out.length = x.length → Ev (fun k => L k x out i) (out.take i ++ (x.drop i).map conv) by
    have := h x.length 0 out (by omega) ho
    simpa using this
  intro d
  induction d with
  | zero =>
    intro i out hi ho
    refine Ev.step (fun k => hL k x out i) (Ev.ineg (by omega) (Ev.rw (Ev.now out) ?_))
    rw [List.drop_of_length_le (by omega), List.take_of_length_le (by omega)]
    simp
  | succ d ih =>
    intro i out hi ho
    have hlt : i < x.length := by omega
    obtain ⟨t, ht, hm⟩ := hb _ (List.getElem_mem hlt)
    refine Ev.step (fun k => hL k x out i) (Ev.ipos (by omega) (Ev.ipos (by omega) ?_))
    rw [show (i : Int).toNat = i from rfl, getD_at x z i hlt]
    refine Ev.bind ht (Ev.ipos (by omega) ?_)
    rw [show wrap64 ((i : Int) + 1) = ((i + 1 : Nat) : Int) by rw [w64 (by omega) (by omega)]; rfl]
    refine Ev.rw (ih (i + 1) (out.set i (mk t)) (by omega) (by simp [ho])) ?_
    rw [hm, List.drop_eq_getElem_cons hlt, List.map_cons]
    have hio : i < out.length := by omega
    rw [List.take_set, List.take_succ_eq_append_getElem hio, List.set_append]
    simp [Nat.min_eq_left (Nat.le_of_lt hio)]
theorem eq_loop {α : Type} (L : Nat → List α → List α → Int → Option Bool) (body : Nat → α → α → Option Bool) (z : α)
    (hL : ∀ k x y i, L (k + 1) x y i = if i < (x.length : Int) then (if 0 ≤ i then (if i < (y.length : Int) then ((body k (x.getD i.toNat z) (y.getD i.toNat z)).bind fun t => (if t = true then (L k x y (wrap64 (i + 1))) else (some false))) else none) else none) else some true)
    (x : List α) (hlen : x.length ≤ 1048576) (hb : ∀ e ∈ x, Ev (fun k => body k e e) true) : Ev (fun k => L k x x 0) true := by
  suffices h : ∀ (d i : Nat), i + d = x.length → Ev (fun k => L k x x i) true by
    have := h x.length 0 (by omega)
    simpa using this
  intro d
  induction d with
  | zero =>
    intro i hi
    exact Ev.step (fun k => hL k x x i) (Ev.ineg (by omega) (Ev.now true))
  | succ d ih =>
    intro i hi
    have hlt : i < x.length := by omega
    refine Ev.step (fun k => hL k x x i) (Ev.ipos (by omega) (Ev.ipos (by omega) (Ev.ipos (by omega) ?_)))
    rw [show (i : Int).toNat = i from rfl, getD_at x z i hlt]
    refine Ev.bind (hb _ (List.getElem_mem hlt)) (Ev.ipos rfl ?_)
    rw [show wrap64 ((i : Int) + 1) = ((i + 1 : Nat) : Int) by rw [w64 (by omega) (by omega)]; rfl]
    exact ih (i + 1) (by omega)
end Go.Proofs.Ytobfgnjdcoidoaa.X
namespace Go.Proofs.Ytobfgnjdcoidoaa.X
set_option linter.unusedVariables false
set_option linter.unusedSimpArgs false
open Go.RowKit Go.Proofs.YtobfgnjdcoidoaaW.PrintWords Go.Proofs.YtobfgnjdcoidoaaW.PrintLast Go.Proofs.YtobfgnjdcoidoaaW.PrintMore
abbrev LPhi := S121
abbrev LInst := S123
abbrev LTerm := S72
abbrev LBlock := S74
abbrev Phi := S93
abbrev Inst := S96
abbrev Term := S78
abbrev Block := S80
def len {α : Type} (l : List α) : Int := (l.length : Int)
def szP (p : LPhi) : Int := len p.f1
def szI (p : LInst) : Int := len p.f6
def szPs (l : List LPhi) : Int := len l + sumOf szP l
def szIs (l : List LInst) : Int := len l + sumOf szI l
def szB (b : LBlock) : Int := szPs b.f0 + szIs b.f1
def szBs (l : List LBlock) : Int := len l + sumOf szB l
theorem len_nonneg {α : Type} (l : List α) : 0 ≤ len l := by unfold len; omega
theorem szP_nonneg (p : LPhi) : 0 ≤ szP p := len_nonneg _
theorem szI_nonneg (p : LInst) : 0 ≤ szI p := len_nonneg _
theorem szPs_nonneg (l : List LPhi) : 0 ≤ szPs l := by have := len_nonneg l; have := sumOf_nonneg (l := l) (fun x _ => szP_nonneg x); unfold szPs; omega
theorem szIs_nonneg (l : List LInst) : 0 ≤ szIs l := by have := len_nonneg l; have := sumOf_nonneg (l := l) (fun x _ => szI_nonneg x); unfold szIs; omega
theorem szB_nonneg (b : LBlock) : 0 ≤ szB b := by have := szPs_nonneg b.f0; have := szIs_nonneg b.f1; unfold szB; omega
theorem szBs_nonneg (l : List LBlock) : 0 ≤ szBs l := by have := len_nonneg l; have := sumOf_nonneg (l := l) (fun x _ => szB_nonneg x); unfold szBs; omega
theorem szInt64S_eq (l : List Int) (hl : l.length ≤ 9223372036854775807) (a : Int) (h0 : 0 ≤ a) (h1 : a ≤ 1048576) : laws_szInt64S.f l a = some (rem a (len l)) := by
  unfold laws_szInt64S.f rem len
  rw [w64 (by omega) (by omega)]
  by_cases h : a - (l.length : Int) < 0
  · rw [if_pos h, if_neg (by omega)]
  · rw [if_neg h, if_pos (by omega)]
theorem if_some_neg {t : Int} (h : -1 ≤ t) : (if t < 0 then some (-1) else some t) = some t := by
  split
  · congr 1; omega
  · rfl
theorem rem_ge {a s : Int} (h : 0 ≤ a) (hs : 0 ≤ s) : -1 ≤ rem a s := by unfold rem; split <;> omega
theorem szPhi_eq (p : LPhi) (hl : p.f1.length ≤ 9223372036854775807) (a : Int) (h0 : 0 ≤ a) (h1 : a ≤ 1048576) : laws_szPhi.f p.f0 p.f1 a = some (rem a (szP p)) := by
  unfold laws_szPhi.f
  rw [szInt64S_eq _ hl a h0 h1]; simp only [Option.bind_some]
  exact if_some_neg (rem_ge h0 (szP_nonneg p))
theorem szInst_eq (p : LInst) (hl : p.f6.length ≤ 9223372036854775807) (a : Int) (h0 : 0 ≤ a) (h1 : a ≤ 1048576) : laws_szInst.f p.f0 p.f1 p.f2 p.f3 p.f4 p.f5 p.f6 a = some (rem a (szI p)) := by
  unfold laws_szInst.f
  rw [szInt64S_eq _ hl a h0 h1]; simp only [Option.bind_some]
  exact if_some_neg (rem_ge h0 (szI_nonneg p))
/-- The head of a list's measure. -/
theorem sz_head {α : Type} {l : List α} {f : α → Int} (hl : l.length ≤ 9223372036854775807) (hf : ∀ x ∈ l, 0 ≤ f x) (L : Nat → Int → Option Int) (a : Int) (h0 : 0 ≤ a) (h1 : a ≤ 1048576)
    (h : ∀ a, 0 ≤ a → a ≤ 1048576 → Ev (fun k => L k a) (rem a (sumOf f l))) : Ev (fun k => if wrap64 (a - (l.length : Int)) < 0 then some (-1) else L k (wrap64 (a - (l.length : Int)))) (rem a (len l + sumOf f l)) := by
  have hs := sumOf_nonneg hf
  rw [w64 (by omega) (by omega)]
  by_cases c : a - (l.length : Int) < 0
  · refine Ev.ipos c (Ev.rw (Ev.now (-1)) ?_)
    unfold rem len
    rw [if_neg (by omega)]
  · refine Ev.ineg c (Ev.rw (h _ (by omega) (by omega)) ?_)
    unfold rem len
    split <;> split <;> omega
theorem szPhiS_ev (l : List LPhi) (hl : wfList wf121 l) (a : Int) (h0 : 0 ≤ a) (h1 : a ≤ 1048576) : Ev (fun k => laws_szPhiS.f k l a) (rem a (szPs l)) :=
  sz_head hl.1 (fun x _ => szP_nonneg x) (fun k a => laws_szPhiS.l0 k l a 0) a h0 h1
    (sz_loop laws_szPhiS.l0 (fun _ e a => laws_szPhi.f e.f0 e.f1 a) z121 (fun _ _ _ _ => rfl) szP l hl.1 (fun x _ => szP_nonneg x) (fun e he a h0 h1 => Ev.cst (szPhi_eq e (hl.2 e he).2.1 a h0 h1)))
theorem szInstS_ev (l : List LInst) (hl : wfList wf123 l) (a : Int) (h0 : 0 ≤ a) (h1 : a ≤ 1048576) : Ev (fun k => laws_szInstS.f k l a) (rem a (szIs l)) :=
  sz_head hl.1 (fun x _ => szI_nonneg x) (fun k a => laws_szInstS.l0 k l a 0) a h0 h1
    (sz_loop laws_szInstS.l0 (fun _ e a => laws_szInst.f e.f0 e.f1 e.f2 e.f3 e.f4 e.f5 e.f6 a) z123 (fun _ _ _ _ => rfl) szI l hl.1 (fun x _ => szI_nonneg x) (fun e he a h0 h1 => Ev.cst (szInst_eq e (hl.2 e he).2.2.2.2.2.2.1 a h0 h1)))
/-- One measure behind another one. -/
theorem sz_two {g : Nat → Option Int} {f : Nat → Int → Option Int} {a s t : Int} (h0 : 0 ≤ a) (h1 : a ≤ 1048576) (hs : 0 ≤ s) (ht : 0 ≤ t) (hg : Ev g (rem a s)) (hf : ∀ a, 0 ≤ a → a ≤ 1048576 → Ev (fun k => f k a) (rem a t)) :
    Ev (fun k => (g k).bind fun u => if u < 0 then some (-1) else ((f k u).bind fun v => if v < 0 then some (-1) else some v)) (rem a (s + t)) := by
  refine Ev.bind hg ?_
  by_cases c : s ≤ a
  · rw [show rem a s = a - s from if_pos c]
    refine Ev.ineg (by omega) (Ev.bind (hf _ (by omega) (by omega)) (Ev.cst ?_))
    rw [if_some_neg (rem_ge (by omega) ht)]
    congr 1
    unfold rem
    split <;> split <;> omega
  · rw [show rem a s = -1 from if_neg c]
    refine Ev.ipos (by decide) (Ev.rw (Ev.now (-1)) ?_)
    unfold rem
    rw [if_neg (by omega)]
theorem szBlock_ev (b : LBlock) (hb : wf74 b) (a : Int) (h0 : 0 ≤ a) (h1 : a ≤ 1048576) : Ev (fun k => laws_szBlock.f k b.f0 b.f1 b.f2.f0 b.f2.f1 b.f2.f2 b.f2.f3 a) (rem a (szB b)) :=
  sz_two h0 h1 (szPs_nonneg _) (szIs_nonneg _) (szPhiS_ev _ hb.1 a h0 h1) (fun a h0 h1 => szInstS_ev _ hb.2.1 a h0 h1)
theorem szBlockS_ev (l : List LBlock) (hl : wfList wf74 l) (a : Int) (h0 : 0 ≤ a) (h1 : a ≤ 1048576) : Ev (fun k => laws_szBlockS.f k l a) (rem a (szBs l)) :=
  sz_head hl.1 (fun x _ => szB_nonneg x) (fun k a => laws_szBlockS.l0 k l a 0) a h0 h1
    (sz_loop laws_szBlockS.l0 (fun k e a => laws_szBlock.f k e.f0 e.f1 e.f2.f0 e.f2.f1 e.f2.f2 e.f2.f3 a) z74 (fun _ _ _ _ => rfl) szB l hl.1 (fun x _ => szB_nonneg x) (fun e he a h0 h1 => szBlock_ev e (hl.2 e he) a h0 h1))
theorem szFunc_ev (p : List Int) (r : Int) (l : List LBlock) (h : wf25 ⟨p, r, l⟩) (a : Int) (h0 : 0 ≤ a) (h1 : a ≤ 1048576) : Ev (fun k => laws_szFunc.f k p r l a) (rem a (len p + szBs l)) :=
  sz_two h0 h1 (len_nonneg _) (szBs_nonneg _) (Ev.cst (szInt64S_eq p h.1.1 a h0 h1)) (fun a h0 h1 => szBlockS_ev l h.2.2 a h0 h1)
/-! ### copies -/
def cPhi (p : LPhi) : Phi := ⟨p.f0, p.f1⟩
def cInst (p : LInst) : Inst := ⟨p.f0, p.f1, p.f2, p.f3, p.f4, p.f5, p.f6⟩
def cTerm (p : LTerm) : Term := ⟨p.f0, p.f1, p.f2, p.f3⟩
def cBlock (b : LBlock) : Block := ⟨b.f0.map cPhi, b.f1.map cInst, cTerm b.f2⟩
/-- Its lists have at most 2^20 elements, and so on inwards. -/
def smI (l : List Int) : Prop := l.length ≤ 1048576
def smP (p : LPhi) : Prop := smI p.f1
def smN (p : LInst) : Prop := smI p.f6
def smB (b : LBlock) : Prop := b.f0.length ≤ 1048576 ∧ (∀ p ∈ b.f0, smP p) ∧ b.f1.length ≤ 1048576 ∧ ∀ p ∈ b.f1, smN p
def smBs (l : List LBlock) : Prop := l.length ≤ 1048576 ∧ ∀ b ∈ l, smB b
theorem sm_of_sz {p : List Int} {l : List LBlock} (h : len p + szBs l ≤ 1048576) : smI p ∧ smBs l ∧ len p + sumOf szB l + len l ≤ 1048576 := by
  have h1 := len_nonneg p
  have h2 := len_nonneg l
  have h3 := sumOf_nonneg (l := l) (fun x _ => szB_nonneg x)
  unfold szBs at h
  refine ⟨?_, ⟨?_, fun b hb => ?_⟩, by omega⟩
  · unfold smI len at *; omega
  · unfold len at *; omega
  · have hle := le_sumOf (f := szB) (fun x _ => szB_nonneg x) hb
    have a1 := szPs_nonneg b.f0
    have a2 := szIs_nonneg b.f1
    have a3 : szB b = szPs b.f0 + szIs b.f1 := rfl
    have b1 : szPs b.f0 = len b.f0 + sumOf szP b.f0 := rfl
    have b2 : szIs b.f1 = len b.f1 + sumOf szI b.f1 := rfl
    have c1 := sumOf_nonneg (l := b.f0) (fun x _ => szP_nonneg x)
    have c2 := sumOf_nonneg (l := b.f1) (fun x _ => szI_nonneg x)
    have d1 := len_nonneg b.f0
    have d2 := len_nonneg b.f1
    refine ⟨?_, fun q hq => ?_, ?_, fun q hq => ?_⟩
    · unfold len at *; omega
    · have := le_sumOf (f := szP) (fun x _ => szP_nonneg x) hq
      have e : szP q = len q.f1 := rfl
      unfold smP smI; unfold len at *; omega
    · unfold len at *; omega
    · have := le_sumOf (f := szI) (fun x _ => szI_nonneg x) hq
      have e : szI q = len q.f6 := rfl
      unfold smN smI; unfold len at *; omega
theorem to_head {α β : Type} {l : List α} {n : Nat} {z : β} {g : Nat → List β → Option (List β)} {r : List β} (hn : l.length ≤ n) (h : ∀ out : List β, out.length = l.length → Ev (fun k => g k out) r) :
    Ev (fun k => if 0 ≤ (l.length : Int) then (if ((l.length : Int) : Int).toNat ≤ n then g k (List.replicate ((l.length : Int) : Int).toNat z) else none) else none) r :=
  Ev.ipos (by omega) (Ev.ipos (by simpa using hn) (h _ (by simp)))
theorem toInt64S_ev (l : List Int) (h : smI l) : Ev (fun k => laws_toInt64S.f k l) l :=
  to_head (Nat.le_trans h (by decide)) (fun out ho => Ev.rw (to_loop laws_toInt64S.l0 (fun _ e => some e) id 0 (fun _ _ _ _ => rfl) id l h (fun e _ => ⟨e, Ev.now e, rfl⟩) out ho) (by simp))
theorem toPhi_ev (p : LPhi) (h : smP p) : Ev (fun k => laws_toPhi.f k p.f0 p.f1) (p.f0, p.f1) := Ev.bind (toInt64S_ev _ h) (Ev.now _)
theorem toInst_ev (p : LInst) (h : smN p) : Ev (fun k => laws_toInst.f k p.f0 p.f1 p.f2 p.f3 p.f4 p.f5 p.f6) (p.f0, p.f1, p.f2, p.f3, p.f4, p.f5, p.f6) := Ev.bind (toInt64S_ev _ h) (Ev.now _)
theorem toPhiS_ev (l : List LPhi) (hl : l.length ≤ 1048576) (h : ∀ p ∈ l, smP p) : Ev (fun k => laws_toPhiS.f k l) (l.map cPhi) :=
  to_head (Nat.le_trans hl (by decide)) (fun out ho => to_loop laws_toPhiS.l0 (fun k e => laws_toPhi.f k e.f0 e.f1) (fun t => ⟨t.1, t.2⟩) z121 (fun _ _ _ _ => rfl) cPhi l hl (fun e he => ⟨_, toPhi_ev e (h e he), rfl⟩) out ho)
theorem toInstS_ev (l : List LInst) (hl : l.length ≤ 1048576) (h : ∀ p ∈ l, smN p) : Ev (fun k => laws_toInstS.f k l) (l.map cInst) :=
  to_head (Nat.le_trans hl (by decide)) (fun out ho => to_loop laws_toInstS.l0 (fun k e => laws_toInst.f k e.f0 e.f1 e.f2 e.f3 e.f4 e.f5 e.f6) (fun t => ⟨t.1, t.2.1, t.2.2.1, t.2.2.2.1, t.2.2.2.2.1, t.2.2.2.2.2.1, t.2.2.2.2.2.2⟩) z123 (fun _ _ _ _ => rfl) cInst l hl (fun e he => ⟨_, toInst_ev e (h e he), rfl⟩) out ho)
theorem toBlock_ev (b : LBlock) (h : smB b) : Ev (fun k => laws_toBlock.f k b.f0 b.f1 b.f2.f0 b.f2.f1 b.f2.f2 b.f2.f3) (b.f0.map cPhi, b.f1.map cInst, b.f2.f0, b.f2.f1, b.f2.f2, b.f2.f3) :=
  Ev.bind (toPhiS_ev _ h.1 h.2.1) (Ev.bind (toInstS_ev _ h.2.2.1 h.2.2.2) (Ev.now _))
theorem toBlockS_ev (l : List LBlock) (h : smBs l) : Ev (fun k => laws_toBlockS.f k l) (l.map cBlock) :=
  to_head (Nat.le_trans h.1 (by decide)) (fun out ho => to_loop laws_toBlockS.l0 (fun k e => laws_toBlock.f k e.f0 e.f1 e.f2.f0 e.f2.f1 e.f2.f2 e.f2.f3) (fun t => ⟨t.1, t.2.1, ⟨t.2.2.1, t.2.2.2.1, t.2.2.2.2.1, t.2.2.2.2.2⟩⟩) z74 (fun _ _ _ _ => rfl) cBlock l h.1 (fun e he => ⟨_, toBlock_ev e (h.2 e he), rfl⟩) out ho)
theorem toFunc_ev (p : List Int) (r : Int) (l : List LBlock) (hp : smI p) (hl : smBs l) : Ev (fun k => laws_toFunc.f k p r l) (p, r, l.map cBlock) := Ev.bind (toInt64S_ev _ hp) (Ev.bind (toBlockS_ev l hl) (Ev.now _))
/-! ### a comparison with itself -/
theorem eqInt64S_ev (l : List Int) (h : smI l) : Ev (fun k => laws_eqInt64S.f k l l) true :=
  Ev.ipos rfl (eq_loop laws_eqInt64S.l0 (fun _ a b => some (decide (a = b))) 0 (fun k x y i => by
    simp only [laws_eqInt64S.l0, Option.bind_some, decide_eq_true_eq]; rfl) l h (fun e _ => Ev.cst (by simp)))
theorem eqPhi_ev (p : Phi) (h : smI p.f1) : Ev (fun k => laws_eqPhi.f k p.f0 p.f1 p.f0 p.f1) true := Ev.ipos rfl (Ev.bind (eqInt64S_ev _ h) (Ev.ipos rfl (Ev.now _)))
theorem eqInst_ev (p : Inst) (h : smI p.f6) : Ev (fun k => laws_eqInst.f k p.f0 p.f1 p.f2 p.f3 p.f4 p.f5 p.f6 p.f0 p.f1 p.f2 p.f3 p.f4 p.f5 p.f6) true :=
  Ev.ipos rfl (Ev.ipos rfl (Ev.ipos rfl (Ev.ipos rfl (Ev.ipos rfl (Ev.ipos rfl (Ev.bind (eqInt64S_ev _ h) (Ev.ipos rfl (Ev.now _))))))))
theorem eqTerm_eq (t : Term) : laws_eqTerm.f t.f0 t.f1 t.f2 t.f3 t.f0 t.f1 t.f2 t.f3 = some true := by simp [laws_eqTerm.f]
theorem eqPhiS_ev (l : List Phi) (hl : l.length ≤ 1048576) (h : ∀ p ∈ l, smI p.f1) : Ev (fun k => laws_eqPhiS.f k l l) true :=
  Ev.ipos rfl (eq_loop laws_eqPhiS.l0 (fun k a b => laws_eqPhi.f k a.f0 a.f1 b.f0 b.f1) z93 (fun _ _ _ _ => rfl) l hl (fun e he => eqPhi_ev e (h e he)))
theorem eqInstS_ev (l : List Inst) (hl : l.length ≤ 1048576) (h : ∀ p ∈ l, smI p.f6) : Ev (fun k => laws_eqInstS.f k l l) true :=
  Ev.ipos rfl (eq_loop laws_eqInstS.l0 (fun k a b => laws_eqInst.f k a.f0 a.f1 a.f2 a.f3 a.f4 a.f5 a.f6 b.f0 b.f1 b.f2 b.f3 b.f4 b.f5 b.f6) z96 (fun _ _ _ _ => rfl) l hl (fun e he => eqInst_ev e (h e he)))
/-- A block that is small. -/
def smb (b : Block) : Prop := b.f0.length ≤ 1048576 ∧ (∀ p ∈ b.f0, smI p.f1) ∧ b.f1.length ≤ 1048576 ∧ ∀ p ∈ b.f1, smI p.f6
def smbs (l : List Block) : Prop := l.length ≤ 1048576 ∧ ∀ b ∈ l, smb b
theorem eqBlock_ev (b : Block) (h : smb b) : Ev (fun k => laws_eqBlock.f k b.f0 b.f1 b.f2.f0 b.f2.f1 b.f2.f2 b.f2.f3 b.f0 b.f1 b.f2.f0 b.f2.f1 b.f2.f2 b.f2.f3) true :=
  Ev.bind (eqPhiS_ev _ h.1 h.2.1) (Ev.ipos rfl (Ev.bind (eqInstS_ev _ h.2.2.1 h.2.2.2) (Ev.ipos rfl (Ev.bind (Ev.cst (eqTerm_eq b.f2)) (Ev.ipos rfl (Ev.now _))))))
theorem eqBlockS_ev (l : List Block) (h : smbs l) : Ev (fun k => laws_eqBlockS.f k l l) true :=
  Ev.ipos rfl (eq_loop laws_eqBlockS.l0 (fun k a b => laws_eqBlock.f k a.f0 a.f1 a.f2.f0 a.f2.f1 a.f2.f2 a.f2.f3 b.f0 b.f1 b.f2.f0 b.f2.f1 b.f2.f2 b.f2.f3) z80 (fun _ _ _ _ => rfl) l h.1 (fun e he => eqBlock_ev e (h.2 e he)))
theorem eqFunc_ev (p : List Int) (r : Int) (l : List Block) (hp : smI p) (h : smbs l) : Ev (fun k => laws_eqFunc.f k p r l p r l) true :=
  Ev.bind (eqInt64S_ev _ hp) (Ev.ipos rfl (Ev.ipos rfl (Ev.bind (eqBlockS_ev l h) (Ev.ipos rfl (Ev.now _)))))
theorem smbs_of {l : List LBlock} (h : smBs l) : smbs (l.map cBlock) := by
  refine ⟨by simpa using h.1, fun b hb => ?_⟩
  obtain ⟨x, hx, rfl⟩ := List.mem_map.1 hb
  have hx := h.2 x hx
  refine ⟨by simpa [cBlock] using hx.1, fun q hq => ?_, by simpa [cBlock] using hx.2.2.1, fun q hq => ?_⟩
  · obtain ⟨y, hy, rfl⟩ := List.mem_map.1 hq
    exact hx.2.1 y hy
  · obtain ⟨y, hy, rfl⟩ := List.mem_map.1 hq
    exact hx.2.2.2 y hy
/-- How many ids there are, and what else a list of blocks weighs, is at most 2^20. -/
def cntB (b : Block) : Int := len b.f0 + len b.f1
theorem cnt_le {p : List Int} {l : List LBlock} (h : len p + szBs l ≤ 1048576) : len p + sumOf cntB (l.map cBlock) ≤ 1048576 := by
  have : ∀ l : List LBlock, sumOf cntB (l.map cBlock) ≤ sumOf szB l := by
    intro l
    induction l with
    | nil => exact Int.le_refl _
    | cons b l ih =>
      simp only [List.map_cons, sumOf]
      have a3 : szB b = szPs b.f0 + szIs b.f1 := rfl
      have b1 : szPs b.f0 = len b.f0 + sumOf szP b.f0 := rfl
      have b2 : szIs b.f1 = len b.f1 + sumOf szI b.f1 := rfl
      have c1 := sumOf_nonneg (l := b.f0) (fun x _ => szP_nonneg x)
      have c2 := sumOf_nonneg (l := b.f1) (fun x _ => szI_nonneg x)
      have e : cntB (cBlock b) = len b.f0 + len b.f1 := by simp [cntB, cBlock, len]
      omega
  have := this l
  have h2 := len_nonneg l
  unfold szBs at h
  omega
end Go.Proofs.Ytobfgnjdcoidoaa.X
