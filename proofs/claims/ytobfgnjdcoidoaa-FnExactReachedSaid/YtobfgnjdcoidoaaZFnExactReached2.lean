/- PROVED HERE: what the functions that the law FnExactReached reaches do in memory, each as a plain Lean function, and what these tell: part 3 of 5 of the proof of that law; no condition beyond those written out at each theorem. -/
import Derived.Test.YtobfgnjdcoidoaaZFnExactReached0
import Derived.Test.YtobfgnjdcoidoaaZFnExactReached1
namespace Go.Proofs.Ytobfgnjdcoidoaa.X
open Go.RowKit Go.Proofs.YtobfgnjdcoidoaaW.PrintWords Go.Proofs.YtobfgnjdcoidoaaW.PrintLast Go.Proofs.YtobfgnjdcoidoaaW.PrintMore
attribute [local go_sem] max2_int min2_int max_two min_two max_three min_three max_four min_four   -- for this text's walks alone
set_option linter.unusedVariables false
set_option linter.unusedSimpArgs false

/-! ### spec_l3There: function 27 -/
mutual
def spec_l3There.l0 : Nat → Int → Int → Int → List Int → Int → List (S80) → Option (Bool)
 | 0, _, _, _, _, _, _ => none
 | k + 1, x1, x5, x6, x130000, x130001, x130002 => if x6 < x5 then ((spec_l3Succs.f x130000 x130001 x130002 x6).bind fun t131 => (spec_l3There.l1 k x1 x5 x6 t131 0 x130000 x130001 x130002)) else ((spec_l1In.f x1 0 (wrap64 (x5 - 1))).bind fun t130 => (if t130 = true then (some (decide (x5 ≤ 10))) else (some false)))
def spec_l3There.l1 : Nat → Int → Int → Int → List Int → Int → List Int → Int → List (S80) → Option (Bool)
 | 0, _, _, _, _, _, _, _, _ => none
 | k + 1, x1, x5, x6, x7, x8, x130000, x130001, x130002 => if x8 < (x7.length : Int) then (if 0 ≤ x8 then ((spec_l1In.f (rd x7 x8) 0 (wrap64 (x5 - 1))).bind fun t135 => (if t135 = true then (spec_l3There.l1 k x1 x5 x6 x7 (wrap64 (x8 + 1)) x130000 x130001 x130002) else (some false))) else (none)) else (spec_l3There.l0 k x1 x5 (wrap64 (x6 + 1)) x130000 x130001 x130002)
end
def spec_l3There.f (k : Nat) (l0_0 : List Int) (a0_1 : Int) (l0_2 : List (S80)) (a1 : Int) : Option (Bool) := spec_l3There.l0 k a1 (l0_2.length : Int) 0 l0_0 a0_1 l0_2
theorem spec_l3There.mono_l : ∀ k, (∀ y0 y1 y2 y3 y4 y5, LeO (spec_l3There.l0 k y0 y1 y2 y3 y4 y5) (spec_l3There.l0 (k + 1) y0 y1 y2 y3 y4 y5)) ∧ (∀ y0 y1 y2 y3 y4 y5 y6 y7, LeO (spec_l3There.l1 k y0 y1 y2 y3 y4 y5 y6 y7) (spec_l3There.l1 (k + 1) y0 y1 y2 y3 y4 y5 y6 y7))
 | 0 => ⟨fun _ _ _ _ _ _ r h => by simp [spec_l3There.l0] at h, fun _ _ _ _ _ _ _ _ r h => by simp [spec_l3There.l1] at h⟩
 | k + 1 => by
  obtain ⟨ih0, ih1⟩ := spec_l3There.mono_l k
  refine ⟨?_, ?_⟩
  ·intro y0 y1 y2 y3 y4 y5
   unfold spec_l3There.l0
   repeat' first
   | (with_reducible exact ih0 _ _ _ _ _ _)
   | (with_reducible exact ih1 _ _ _ _ _ _ _ _)
   | (with_reducible exact LeO.refl _)
   | (with_reducible exact LeO.none _)
   | (with_reducible refine LeO.ite ?_ ?_)
   | (with_reducible refine LeO.bind ?_ (fun _ => ?_))
   | exact ih0 _ _ _ _ _ _
   | exact ih1 _ _ _ _ _ _ _ _
   | exact LeO.none _
   | refine LeO.ite ?_ ?_
   | refine LeO.bind ?_ (fun _ => ?_)
  ·intro y0 y1 y2 y3 y4 y5 y6 y7
   unfold spec_l3There.l1
   repeat' first
   | (with_reducible exact ih0 _ _ _ _ _ _)
   | (with_reducible exact ih1 _ _ _ _ _ _ _ _)
   | (with_reducible exact LeO.refl _)
   | (with_reducible exact LeO.none _)
   | (with_reducible refine LeO.ite ?_ ?_)
   | (with_reducible refine LeO.bind ?_ (fun _ => ?_))
   | exact ih0 _ _ _ _ _ _
   | exact ih1 _ _ _ _ _ _ _ _
   | exact LeO.none _
   | refine LeO.ite ?_ ?_
   | refine LeO.bind ?_ (fun _ => ?_)
theorem spec_l3There.mono : ∀ a0 a1 a2 a3 k, LeO (spec_l3There.f k a0 a1 a2 a3) (spec_l3There.f (k + 1) a0 a1 a2 a3) := by
 intro a0 a1 a2 a3 k
 obtain ⟨ih0, ih1⟩ := spec_l3There.mono_l k
 unfold spec_l3There.f
 repeat' first
   | (with_reducible exact ih0 _ _ _ _ _ _)
   | (with_reducible exact ih1 _ _ _ _ _ _ _ _)
   | (with_reducible exact LeO.refl _)
   | (with_reducible exact LeO.none _)
   | (with_reducible refine LeO.ite ?_ ?_)
   | (with_reducible refine LeO.bind ?_ (fun _ => ?_))
   | exact ih0 _ _ _ _ _ _
   | exact ih1 _ _ _ _ _ _ _ _
   | exact LeO.none _
   | refine LeO.ite ?_ ?_
   | refine LeO.bind ?_ (fun _ => ?_)
set_option maxHeartbeats 8000000 in
set_option maxRecDepth 100000 in
theorem spec_l3There.calls (k : Nat) (A0_0 : Option Addr) (c0_0 : Nat) (l0_0 : List Int) (a0_1 : Int) (A0_2 : Option Addr) (c0_2 : Nat) (l0_2 : List (S80)) (a1 : Int) (r : Bool) (w : World) (hr0_0 : Kd.C (Kd.int .i64) w A0_0 l0_0.length l0_0) (hc0_0 : l0_0.length ≤ c0_0) (hr0_2 : Kd.C k80 w A0_2 l0_2.length l0_2) (hc0_2 : l0_2.length ≤ c0_2) (h : spec_l3There.f k l0_0 a0_1 l0_2 a1 = some r) :
  Calls Try.prog 27 #[.agg #[.slice A0_0 l0_0.length c0_0, .int .i64 a0_1, .slice A0_2 l0_2.length c0_2], .int .i64 a1] w fun e w' => e = .returned (.bool r) ∧ Below w.heap.size w w' := by
 have hu30 := Try.underlying30
 have HR0_0 := Aside0.mk hr0_0
 have HC0_0 := Aside0.mk hc0_0
 clear hr0_0 hc0_0
 have HR0_2 := Aside0.mk hr0_2
 have HC0_2 := Aside0.mk hc0_2
 clear hr0_2 hc0_2
 have HB := Aside0.mk (Below.refl w.heap.size w)
 have H : (spec_l3There.l0 k a1 (l0_2.length : Int) 0 l0_0 a0_1 l0_2) = some r := h
 clear h
 have H' := Aside0.mk H
 clear H
 go_enter Try.func27, Try.ntmps27
 go_wp2_with (first | ((with_reducible refine gate_dst (N := 2) rfl ?_); refine box_event ?hg (N := 2) ?hd (cs := #[.slice A0_0 l0_0.length c0_0, .int .i64 a0_1, .slice A0_2 l0_2.length c0_2]) (t := 30) ?hr ?_; (case hd => rfl); (case hg => rfl); (case hr => first | (go_simp; done) | (go_simp; rfl)); intro gb129 hg w3 hbox hb; have n0_ := Aside0.mk (below_step hB_ hb); have n1_ := Aside0.mk (hbox); have n2_ := Aside0.mk ((by rw [hg]; exact (below_size hB_) : w.heap.size ≤ gb129)); have n3_ := Aside0.mk ((by rw [hg]; exact (below_size hB_) : w.heap.size ≤ gb129)); clear HB; have HB := n0_; have BK129 := n1_; have GW129 := n2_; have GE129 := n3_; clear n0_ n1_ n2_ n3_; clear hb hbox hg; obtain ⟨hcz4_0, hcz4_1, hcz4_2, hfz4_0, hfz4_1, hfz4_2⟩ := blkc3_ BK129.out))
 go_loopg [6] k (fun kq v6 w' => ∃ (x6_1 : Int), v6 = .int .i64 x6_1 ∧ Aside0 (spec_l3There.l0 kq a1 (l0_2.length : Int) x6_1 l0_0 a0_1 l0_2 = some r) ∧ Aside0 (kq ≤ k) ∧ Aside0 (w'.heap[gb129]? = some (.cells #[(.slice A0_0 l0_0.length c0_0), .int .i64 a0_1, (.slice A0_2 l0_2.length c0_2)] 30 (0, 0))) ∧ Aside0 (Below w.heap.size w w'))
 case atStart => exact ⟨(0), rF_, H', ⟨Nat.le_refl _⟩, ⟨bK129_⟩, ⟨hS_⟩⟩
 case round =>
  clear H'
  try clear c2
  try clear p2
  try clear hcz4_0 hcz4_1 hcz4_2 hfz4_0 hfz4_1 hfz4_2
  obtain ⟨x6_1, rfl, HA, HK1, BK129, HB⟩ := hrel
  cases gk with
  | zero => exact absurd HA.out (by simp [spec_l3There.l0])
  | succ k1 =>
   have H := HA.out
   clear HA
   simp only [spec_l3There.l0] at H
   by_cases c5 : x6_1 < (l0_2.length : Int)
   ·rw [if_pos c5] at H
    have c5b0 : decide (x6_1 < (l0_2.length : Int)) = true := decide_eq_true c5
    clear c5
    replace H := Option.bind_eq_some_iff.mp H
    obtain ⟨t131, A60, H⟩ := H
    replace H : (spec_l3There.l1 k1 a1 (l0_2.length : Int) x6_1 t131 0 l0_0 a0_1 l0_2) = some r := H
    have A6 := Aside0.mk A60
    clear A60
    have H' := Aside0.mk H
    clear H
    obtain ⟨hcz7_0, hcz7_1, hcz7_2, hfz7_0, hfz7_1, hfz7_2⟩ := blkc3_ BK129.out
    go_wp2_with (first | ((with_reducible refine gate_callee (f := 51) rfl ?_); refine gL_ (some 19) Try.func51 #[.agg #[.slice A0_0 l0_0.length c0_0, .int .i64 a0_1, .slice A0_2 l0_2.length c0_2], .int .i64 x6_1] ?_; (with_reducible refine (spec_l3Succs.calls _ _ l0_0 a0_1 _ _ l0_2 x6_1 t131 _ ?side1 ?side2 ?side3 ?side4 A6.out).mono ?_); (case side1 => repeat (first | exact (Kd.C_below HR0_0.out HB.out) | (with_reducible refine Kd.C_alloc ?_ _) | (with_reducible refine Kd.C_drewN ?_ _) | (with_reducible refine Kd.C_drew ?_))); (case side2 => exact HC0_0.out); (case side3 => repeat (first | exact (Kd.C_below HR0_2.out HB.out) | (with_reducible refine Kd.C_alloc ?_ _) | (with_reducible refine Kd.C_drewN ?_ _) | (with_reducible refine Kd.C_drew ?_))); (case side4 => exact HC0_2.out); rintro e w8 ⟨v132, rfl, ho0, hb⟩; refine ⟨_, rfl, ?_⟩; have n0_ := Aside0.mk (Kd.R_lower ho0 (below_size hS_)); have n1_ := Aside0.mk (blk_below (g := gb129) (o := .cells #[.slice A0_0 l0_0.length c0_0, .int .i64 a0_1, .slice A0_2 l0_2.length c0_2] 30 (0, 0)) bK129_ hb); have n2_ := Aside0.mk (below_step hS_ hb); clear BK129; clear HB; have HO133 := n0_; have BK129 := n1_; have HB := n2_; clear n0_ n1_ n2_; (try clear hb); (try clear hb2); (try clear hk); (try clear hi); (try clear ho0)))
    go_loopg [8] k1 (fun kq v8 w' => ∃ (x8_2 : Int), v8 = .int .i64 x8_2 ∧ Aside0 (spec_l3There.l1 kq a1 (l0_2.length : Int) x6_1 t131 x8_2 l0_0 a0_1 l0_2 = some r) ∧ Aside0 (kq ≤ k1) ∧ Aside0 (Kd.R (Kd.int .i64) 2 w' w.heap.size (fun _ => True) v132 t131) ∧ Aside0 (w'.heap[gb129]? = some (.cells #[(.slice A0_0 l0_0.length c0_0), .int .i64 a0_1, (.slice A0_2 l0_2.length c0_2)] 30 (0, 0))) ∧ Aside0 (Below w.heap.size w w'))
    case atStart => exact ⟨(0), rF_, H', ⟨Nat.le_refl _⟩, ⟨rHO133_⟩, ⟨bK129_⟩, ⟨hS_⟩⟩
    case round =>
     clear H'
     try clear c2
     try clear p2
     try clear c5
     try clear c5b0
     try clear hcz4_0 hcz4_1 hcz4_2 hfz4_0 hfz4_1 hfz4_2
     try clear hcz7_0 hcz7_1 hcz7_2 hfz7_0 hfz7_1 hfz7_2
     try clear p2
     obtain ⟨x8_2, rfl, HA, HK2, HO_7, BK129, HB⟩ := hrel
     cases gk with
     | zero => exact absurd HA.out (by simp [spec_l3There.l1])
     | succ k2 =>
      have H := HA.out
      clear HA
      simp only [spec_l3There.l1] at H
      by_cases c9 : x8_2 < (t131.length : Int)
      ·rw [if_pos c9] at H
       have c9b0 : decide (x8_2 < (t131.length : Int)) = true := decide_eq_true c9
       clear c9
       by_cases c10 : 0 ≤ x8_2
       ·rw [if_pos c10] at H
        have c10b0 : decide (0 ≤ x8_2) = true := decide_eq_true c10
        clear c10
        replace H := Option.bind_eq_some_iff.mp H
        obtain ⟨t135, A110, H⟩ := H
        replace H : (if t135 = true then (spec_l3There.l1 k2 a1 (l0_2.length : Int) x6_1 t131 (wrap64 (x8_2 + 1)) l0_0 a0_1 l0_2) else (some false)) = some r := H
        have A11 := Aside0.mk A110
        clear A110
        by_cases c12 : t135 = true
        ·subst c12
         have H1 := (if_pos rfl).symm.trans H
         clear H
         have H := H1
         clear H1
         have H' := Aside0.mk H
         clear H
         obtain ⟨Ao13, co13, eo13⟩ := Kd.R_slice HO_7.out
         subst eo13
         have p134 : 0 ≤ (x8_2 : Int) := oD_
         have q134 : x8_2 < (t131.length : Int) := oD_
         obtain ⟨ad134, e134, hx134_0⟩ := Kd.at_int (Kd.R_reads' HO_7.out).2.2 x8_2 p134 q134
         cases e134
         replace p134 := eq_true p134
         replace q134 := eq_true q134
         go_wp2_with (first | ((with_reducible refine gate_callee (f := 42) rfl ?_); refine gL_ (some 32) Try.func42 #[.int .i64 (rd t131 x8_2), .int .i64 0, .int .i64 (wrap64 ((l0_2.length : Int) - 1))] ?_; (with_reducible refine (spec_l1In.calls (rd t131 x8_2) 0 (wrap64 ((l0_2.length : Int) - 1)) true _ A11.out).mono ?_); rintro e w' ⟨rfl, ⟨nd, rfl⟩⟩; refine ⟨_, rfl, ?_⟩))
         go_roundg k2
         case measure => have := HK1.out; have := HK2.out; omega
         case rel => exact ⟨(wrap64 (x8_2 + 1)), rF_, H', ⟨by have := HK1.out; have := HK2.out; omega⟩, ⟨rHO_7_⟩, ⟨bK129_⟩, ⟨hS_⟩⟩
        ·replace c12 := Bool.eq_false_iff.mpr c12
         subst c12
         have H1 := (if_neg (show ¬ (false = true) by decide)).symm.trans H
         clear H
         have H := H1
         clear H1
         obtain rfl := Option.some.inj H
         obtain ⟨Ao14, co14, eo14⟩ := Kd.R_slice HO_7.out
         subst eo14
         have p134 : 0 ≤ (x8_2 : Int) := oD_
         have q134 : x8_2 < (t131.length : Int) := oD_
         obtain ⟨ad134, e134, hx134_0⟩ := Kd.at_int (Kd.R_reads' HO_7.out).2.2 x8_2 p134 q134
         cases e134
         replace p134 := eq_true p134
         replace q134 := eq_true q134
         go_wp2_with (first | ((with_reducible refine gate_callee (f := 42) rfl ?_); refine gL_ (some 32) Try.func42 #[.int .i64 (rd t131 x8_2), .int .i64 0, .int .i64 (wrap64 ((l0_2.length : Int) - 1))] ?_; (with_reducible refine (spec_l1In.calls (rd t131 x8_2) 0 (wrap64 ((l0_2.length : Int) - 1)) false _ A11.out).mono ?_); rintro e w' ⟨rfl, ⟨nd, rfl⟩⟩; refine ⟨_, rfl, ?_⟩))
         go_ret
         exact ⟨rG_, hS_⟩
       ·rw [if_neg c10] at H
        exact absurd H (by simp)
      ·rw [if_neg c9] at H
       have c9b0 : decide (x8_2 < (t131.length : Int)) = false := decide_eq_false c9
       clear c9
       have H' := Aside0.mk H
       clear H
       obtain ⟨Ao15, co15, eo15⟩ := Kd.R_slice HO_7.out
       subst eo15
       go_wp2
       go_roundg k2
       case measure => have := HK1.out; have := HK2.out; omega
       case rel => exact ⟨(wrap64 (x6_1 + 1)), rF_, H', ⟨by have := HK1.out; have := HK2.out; omega⟩, ⟨bK129_⟩, ⟨hS_⟩⟩
   ·rw [if_neg c5] at H
    have c5b0 : decide (x6_1 < (l0_2.length : Int)) = false := decide_eq_false c5
    clear c5
    replace H := Option.bind_eq_some_iff.mp H
    obtain ⟨t130, A160, H⟩ := H
    replace H : (if t130 = true then (some (decide ((l0_2.length : Int) ≤ 10))) else (some false)) = some r := H
    have A16 := Aside0.mk A160
    clear A160
    by_cases c17 : t130 = true
    ·subst c17
     have H1 := (if_pos rfl).symm.trans H
     clear H
     have H := H1
     clear H1
     obtain rfl := Option.some.inj H
     go_wp2_with (first | ((with_reducible refine gate_callee (f := 42) rfl ?_); refine gL_ (some 37) Try.func42 #[.int .i64 a1, .int .i64 0, .int .i64 (wrap64 ((l0_2.length : Int) - 1))] ?_; (with_reducible refine (spec_l1In.calls a1 0 (wrap64 ((l0_2.length : Int) - 1)) true _ A16.out).mono ?_); rintro e w' ⟨rfl, ⟨nd, rfl⟩⟩; refine ⟨_, rfl, ?_⟩))
     go_ret
     exact ⟨rG_, hS_⟩
    ·replace c17 := Bool.eq_false_iff.mpr c17
     subst c17
     have H1 := (if_neg (show ¬ (false = true) by decide)).symm.trans H
     clear H
     have H := H1
     clear H1
     obtain rfl := Option.some.inj H
     go_wp2_with (first | ((with_reducible refine gate_callee (f := 42) rfl ?_); refine gL_ (some 37) Try.func42 #[.int .i64 a1, .int .i64 0, .int .i64 (wrap64 ((l0_2.length : Int) - 1))] ?_; (with_reducible refine (spec_l1In.calls a1 0 (wrap64 ((l0_2.length : Int) - 1)) false _ A16.out).mono ?_); rintro e w' ⟨rfl, ⟨nd, rfl⟩⟩; refine ⟨_, rfl, ?_⟩))
     go_ret
     exact ⟨rG_, hS_⟩

end Go.Proofs.Ytobfgnjdcoidoaa.X
namespace Go.Proofs.Ytobfgnjdcoidoaa.X
open Go.RowKit Go.Proofs.YtobfgnjdcoidoaaW.PrintWords Go.Proofs.YtobfgnjdcoidoaaW.PrintLast Go.Proofs.YtobfgnjdcoidoaaW.PrintMore
attribute [local go_sem] max2_int min2_int max_two min_two max_three min_three max_four min_four   -- for this text's walks alone
set_option linter.unusedVariables false
set_option linter.unusedSimpArgs false

/-! ### spec_l1Has: function 52 -/
def spec_l1Has.l0 : Nat → List Int → Int → Int → Option (Bool)
 | 0, _, _, _ => none
 | k + 1, x0, x1, x5 => if x5 < (x0.length : Int) then (if 0 ≤ x5 then (if (rd x0 x5) = x1 then (some true) else (spec_l1Has.l0 k x0 x1 (wrap64 (x5 + 1)))) else (none)) else (some false)
def spec_l1Has.f (k : Nat) (l0 : List Int) (a1 : Int) : Option (Bool) := spec_l1Has.l0 k l0 a1 0
theorem spec_l1Has.mono_l : ∀ k, (∀ y0 y1 y2, LeO (spec_l1Has.l0 k y0 y1 y2) (spec_l1Has.l0 (k + 1) y0 y1 y2))
 | 0 => fun _ _ _ r h => by simp [spec_l1Has.l0] at h
 | k + 1 => by
  have ih0 := spec_l1Has.mono_l k
  ·intro y0 y1 y2
   unfold spec_l1Has.l0
   repeat' first
   | (with_reducible exact ih0 _ _ _)
   | (with_reducible exact LeO.refl _)
   | (with_reducible exact LeO.none _)
   | (with_reducible refine LeO.ite ?_ ?_)
   | (with_reducible refine LeO.bind ?_ (fun _ => ?_))
   | exact ih0 _ _ _
   | exact LeO.none _
   | refine LeO.ite ?_ ?_
   | refine LeO.bind ?_ (fun _ => ?_)
theorem spec_l1Has.mono : ∀ a0 a1 k, LeO (spec_l1Has.f k a0 a1) (spec_l1Has.f (k + 1) a0 a1) := by
 intro a0 a1 k
 have ih0 := spec_l1Has.mono_l k
 unfold spec_l1Has.f
 repeat' first
   | (with_reducible exact ih0 _ _ _)
   | (with_reducible exact LeO.refl _)
   | (with_reducible exact LeO.none _)
   | (with_reducible refine LeO.ite ?_ ?_)
   | (with_reducible refine LeO.bind ?_ (fun _ => ?_))
   | exact ih0 _ _ _
   | exact LeO.none _
   | refine LeO.ite ?_ ?_
   | refine LeO.bind ?_ (fun _ => ?_)
set_option maxHeartbeats 8000000 in
set_option maxRecDepth 100000 in
theorem spec_l1Has.calls (k : Nat) (A0 : Option Addr) (c0 : Nat) (l0 : List Int) (a1 : Int) (r : Bool) (w : World) (hr0 : Kd.C (Kd.int .i64) w A0 l0.length l0) (hc0 : l0.length ≤ c0) (h : spec_l1Has.f k l0 a1 = some r) :
  Calls Try.prog 52 #[.slice A0 l0.length c0, .int .i64 a1] w fun e w' => e = .returned (.bool r) ∧ Drawn0 w w' := by
 have HR0 := Aside0.mk hr0
 have HC0 := Aside0.mk hc0
 clear hr0 hc0
 have H : (spec_l1Has.l0 k l0 a1 0) = some r := h
 clear h
 have H' := Aside0.mk H
 clear H
 go_enter Try.func52, Try.ntmps52
 go_wp2
 go_loopg [5] k (fun kq v5 w' => ∃ (x5_1 : Int), v5 = .int .i64 x5_1 ∧ Aside0 (spec_l1Has.l0 kq l0 a1 x5_1 = some r) ∧ Aside0 (kq ≤ k) ∧ Drawn0 w w')
 case atStart => exact ⟨(0), rF_, H', ⟨Nat.le_refl _⟩, by repeat (first | exact Drawn0.refl _ | apply Drawn0.step)⟩
 case round =>
  clear H'
  try clear p2
  obtain ⟨x5_1, rfl, HA, HK1, ⟨m1, rfl⟩⟩ := hrel
  cases gk with
  | zero => exact absurd HA.out (by simp [spec_l1Has.l0])
  | succ k1 =>
   have H := HA.out
   clear HA
   simp only [spec_l1Has.l0] at H
   by_cases c3 : x5_1 < (l0.length : Int)
   ·rw [if_pos c3] at H
    have c3b0 : decide (x5_1 < (l0.length : Int)) = true := decide_eq_true c3
    clear c3
    by_cases c4 : 0 ≤ x5_1
    ·rw [if_pos c4] at H
     have c4b0 : decide (0 ≤ x5_1) = true := decide_eq_true c4
     clear c4
     by_cases c5 : (rd l0 x5_1) = a1
     ·rw [if_pos c5] at H
      have c5b0 : ((rd l0 x5_1) == a1) = true := beq_iff_eq.mpr c5
      have c5b1 : ((rd l0 x5_1) != a1) = false := bne_eq_false_iff_eq.mpr c5
      clear c5
      obtain rfl := Option.some.inj H
      have p136 : 0 ≤ (x5_1 : Int) := oD_
      have q136 : x5_1 < (l0.length : Int) := oD_
      obtain ⟨ad136, e136, hx136_0⟩ := Kd.at_int HR0.out x5_1 p136 q136
      cases e136
      replace p136 := eq_true p136
      replace q136 := eq_true q136
      go_wp2
      go_ret
      exact ⟨rF_, by repeat (first | exact Drawn0.refl _ | apply Drawn0.step)⟩
     ·rw [if_neg c5] at H
      have c5b0 : ((rd l0 x5_1) == a1) = false := beq_eq_false_iff_ne.mpr c5
      have c5b1 : ((rd l0 x5_1) != a1) = true := bne_iff_ne.mpr c5
      have H' := Aside0.mk H
      clear H
      have p136 : 0 ≤ (x5_1 : Int) := oD_
      have q136 : x5_1 < (l0.length : Int) := oD_
      obtain ⟨ad136, e136, hx136_0⟩ := Kd.at_int HR0.out x5_1 p136 q136
      cases e136
      replace p136 := eq_true p136
      replace q136 := eq_true q136
      go_wp2
      go_roundg k1
      case measure => have := HK1.out; omega
      case rel => exact ⟨(wrap64 (x5_1 + 1)), rF_, H', ⟨by have := HK1.out; omega⟩, by repeat (first | exact Drawn0.refl _ | apply Drawn0.step)⟩
    ·rw [if_neg c4] at H
     exact absurd H (by simp)
   ·rw [if_neg c3] at H
    have c3b0 : decide (x5_1 < (l0.length : Int)) = false := decide_eq_false c3
    clear c3
    obtain rfl := Option.some.inj H
    go_wp2
    go_ret
    exact ⟨rF_, by repeat (first | exact Drawn0.refl _ | apply Drawn0.step)⟩

end Go.Proofs.Ytobfgnjdcoidoaa.X
namespace Go.Proofs.Ytobfgnjdcoidoaa.X
open Go.RowKit Go.Proofs.YtobfgnjdcoidoaaW.PrintWords Go.Proofs.YtobfgnjdcoidoaaW.PrintLast Go.Proofs.YtobfgnjdcoidoaaW.PrintMore
attribute [local go_sem] max2_int min2_int max_two min_two max_three min_three max_four min_four   -- for this text's walks alone
set_option linter.unusedVariables false
set_option linter.unusedSimpArgs false

/-! ### spec_l1Put: function 59 -/
def spec_l1Put.l0 : Nat → List Int → Int → Int → Option (List Int)
 | 0, _, _, _ => none
 | k + 1, x0, x1, x5 => if x5 < (x0.length : Int) then (if 0 ≤ x5 then (if (rd x0 x5) < x1 then (spec_l1Put.l0 k x0 x1 (wrap64 (x5 + 1))) else (if (rd x0 x5) = x1 then (some x0) else ((some (([] : List Int) : List Int)).bind fun y348 => (if x5 ≤ (x0.length : Int) then ((some (x0.take (x5 : Int).toNat : List Int)).bind fun y351 => (if y348.length + y351.length < 17592186044416 then ((some (y348 ++ y351 : List Int)).bind fun y355 => (if y355.length < 17592186044416 then ((some (y355 ++ [x1] : List Int)).bind fun y358 => ((some (x0.drop (x5 : Int).toNat : List Int)).bind fun y361 => (if y358.length + y361.length < 17592186044416 then (some (y358 ++ y361)) else (none)))) else (none))) else (none))) else (none))))) else (none)) else ((some (([] : List Int) : List Int)).bind fun y368 => (if 0 ≤ x5 then (if x5 ≤ (x0.length : Int) then ((some (x0.take (x5 : Int).toNat : List Int)).bind fun y371 => (if y368.length + y371.length < 17592186044416 then ((some (y368 ++ y371 : List Int)).bind fun y375 => (if y375.length < 17592186044416 then ((some (y375 ++ [x1] : List Int)).bind fun y378 => ((some (x0.drop (x5 : Int).toNat : List Int)).bind fun y381 => (if y378.length + y381.length < 17592186044416 then (some (y378 ++ y381)) else (none)))) else (none))) else (none))) else (none)) else (none)))
def spec_l1Put.f (k : Nat) (l0 : List Int) (a1 : Int) : Option (List Int) := spec_l1Put.l0 k l0 a1 0
theorem spec_l1Put.mono_l : ∀ k, (∀ y0 y1 y2, LeO (spec_l1Put.l0 k y0 y1 y2) (spec_l1Put.l0 (k + 1) y0 y1 y2))
 | 0 => fun _ _ _ r h => by simp [spec_l1Put.l0] at h
 | k + 1 => by
  have ih0 := spec_l1Put.mono_l k
  ·intro y0 y1 y2
   unfold spec_l1Put.l0
   repeat' first
   | (with_reducible exact ih0 _ _ _)
   | (with_reducible exact LeO.refl _)
   | (with_reducible exact LeO.none _)
   | (with_reducible refine LeO.ite ?_ ?_)
   | (with_reducible refine LeO.bind ?_ (fun _ => ?_))
   | exact ih0 _ _ _
   | exact LeO.none _
   | refine LeO.ite ?_ ?_
   | refine LeO.bind ?_ (fun _ => ?_)
theorem spec_l1Put.mono : ∀ a0 a1 k, LeO (spec_l1Put.f k a0 a1) (spec_l1Put.f (k + 1) a0 a1) := by
 intro a0 a1 k
 have ih0 := spec_l1Put.mono_l k
 unfold spec_l1Put.f
 repeat' first
   | (with_reducible exact ih0 _ _ _)
   | (with_reducible exact LeO.refl _)
   | (with_reducible exact LeO.none _)
   | (with_reducible refine LeO.ite ?_ ?_)
   | (with_reducible refine LeO.bind ?_ (fun _ => ?_))
   | exact ih0 _ _ _
   | exact LeO.none _
   | refine LeO.ite ?_ ?_
   | refine LeO.bind ?_ (fun _ => ?_)
set_option maxHeartbeats 8000000 in
set_option maxRecDepth 100000 in
theorem spec_l1Put.calls (k : Nat) (P0_ : Nat → Prop) (u9000_ : Value) (l0 : List Int) (a1 : Int) (r : List Int) (w0 w : World) (hB : Below w0.heap.size w0 w) (ho0 : Kd.R (Kd.int .i64) 2 w w0.heap.size P0_ u9000_ l0) (h : spec_l1Put.f k l0 a1 = some r) :
  Calls Try.prog 59 #[u9000_, .int .i64 a1] w fun e w' => ∃ v0_ : Value, e = .returned (v0_) ∧ Kd.R (Kd.int .i64) 2 w' w0.heap.size (fun k_ => (P0_ k_ ∨ w.heap.size ≤ k_)) v0_ r ∧ Below w0.heap.size w0 w' ∧ Kept w w' (fun k_ => P0_ k_) := by
 have HO0 := Aside0.mk (show Kd.R (Kd.int .i64) 2 w w0.heap.size (fun k_ => (P0_ k_ ∨ w.heap.size ≤ k_)) u9000_ l0 from Kd.R_mono ho0 (fun k_ hk => (.inl hk)))
 have HK := Aside0.mk (Kept.refl w (fun k_ => P0_ k_))
 have HW0 := Aside0.mk hB.size
 have HB := Aside0.mk hB
 clear hB
 have H : (spec_l1Put.l0 k l0 a1 0) = some r := h
 clear h
 have H' := Aside0.mk H
 clear H
 go_enter Try.func59, Try.ntmps59
 go_wp2
 go_loopg [5] k (fun kq v5 w' => ∃ (x5_1 : Int), v5 = .int .i64 x5_1 ∧ Aside0 (spec_l1Put.l0 kq l0 a1 x5_1 = some r) ∧ Aside0 (kq ≤ k) ∧ Aside0 (Kd.R (Kd.int .i64) 2 w' w0.heap.size (fun k_ => (P0_ k_ ∨ w.heap.size ≤ k_)) u9000_ l0) ∧ Aside0 (Kept w w' (fun k_ => P0_ k_)) ∧ Aside0 (Below w0.heap.size w0 w'))
 case atStart => exact ⟨(0), rF_, H', ⟨Nat.le_refl _⟩, ⟨rHO0_⟩, ⟨by repeat (first | (with_reducible first | exact HK.out | apply Kept.alloc | apply Kept.drewN | apply Kept.drew) | exact HK.out)⟩, ⟨hB_⟩⟩
 case round =>
  clear H'
  try clear p2
  obtain ⟨x5_1, rfl, HA, HK1, HO_0, HK, HB⟩ := hrel
  cases gk with
  | zero => exact absurd HA.out (by simp [spec_l1Put.l0])
  | succ k1 =>
   have H := HA.out
   clear HA
   simp only [spec_l1Put.l0] at H
   by_cases c3 : x5_1 < (l0.length : Int)
   ·rw [if_pos c3] at H
    have c3b0 : decide (x5_1 < (l0.length : Int)) = true := decide_eq_true c3
    clear c3
    by_cases c4 : 0 ≤ x5_1
    ·rw [if_pos c4] at H
     have c4b0 : decide (0 ≤ x5_1) = true := decide_eq_true c4
     clear c4
     by_cases c5 : (rd l0 x5_1) < a1
     ·rw [if_pos c5] at H
      have c5b0 : decide ((rd l0 x5_1) < a1) = true := decide_eq_true c5
      clear c5
      have H' := Aside0.mk H
      clear H
      obtain ⟨Ao6, co6, eo6⟩ := Kd.R_slice HO_0.out
      subst eo6
      have p346 : 0 ≤ (x5_1 : Int) := oD_
      have q346 : x5_1 < (l0.length : Int) := oD_
      obtain ⟨ad346, e346, hx346_0⟩ := Kd.at_int (Kd.R_reads' HO_0.out).2.2 x5_1 p346 q346
      cases e346
      replace p346 := eq_true p346
      replace q346 := eq_true q346
      go_wp2
      go_roundg k1
      case measure => have := HK1.out; omega
      case rel => exact ⟨(wrap64 (x5_1 + 1)), rF_, H', ⟨by have := HK1.out; omega⟩, ⟨rHO_0_⟩, ⟨by repeat (first | (with_reducible first | exact HK.out | apply Kept.alloc | apply Kept.drewN | apply Kept.drew) | exact HK.out)⟩, ⟨hB_⟩⟩
     ·rw [if_neg c5] at H
      have c5b0 : decide ((rd l0 x5_1) < a1) = false := decide_eq_false c5
      clear c5
      by_cases c7 : (rd l0 x5_1) = a1
      ·rw [if_pos c7] at H
       have c7b0 : ((rd l0 x5_1) == a1) = true := beq_iff_eq.mpr c7
       have c7b1 : ((rd l0 x5_1) != a1) = false := bne_eq_false_iff_eq.mpr c7
       clear c7
       obtain rfl := Option.some.inj H
       obtain ⟨Ao8, co8, eo8⟩ := Kd.R_slice HO_0.out
       subst eo8
       have p346 : 0 ≤ (x5_1 : Int) := oD_
       have q346 : x5_1 < (l0.length : Int) := oD_
       obtain ⟨ad346, e346, hx346_0⟩ := Kd.at_int (Kd.R_reads' HO_0.out).2.2 x5_1 p346 q346
       cases e346
       replace p346 := eq_true p346
       replace q346 := eq_true q346
       have p347 : 0 ≤ (x5_1 : Int) := oD_
       have q347 : x5_1 < (l0.length : Int) := oD_
       obtain ⟨ad347, e347, hx347_0⟩ := Kd.at_int (Kd.R_reads' HO_0.out).2.2 x5_1 p347 q347
       obtain rfl : ad346 = ad347 := (by injection e347)
       replace p347 := eq_true p347
       replace q347 := eq_true q347
       go_wp2
       go_ret
       exact ⟨_, rG_, rHO_0_, hB_, by repeat (first | (with_reducible first | exact HK.out | apply Kept.alloc | apply Kept.drewN | apply Kept.drew) | exact HK.out)⟩
      ·rw [if_neg c7] at H
       have c7b0 : ((rd l0 x5_1) == a1) = false := beq_eq_false_iff_ne.mpr c7
       have c7b1 : ((rd l0 x5_1) != a1) = true := bne_iff_ne.mpr c7
       obtain ⟨y348, hy348⟩ : ∃ y_ : List Int, y_ = (([] : List Int)) := ⟨_, rfl⟩
       replace H : (if x5_1 ≤ (l0.length : Int) then ((some (l0.take (x5_1 : Int).toNat : List Int)).bind fun y351 => (if y348.length + y351.length < 17592186044416 then ((some (y348 ++ y351 : List Int)).bind fun y355 => (if y355.length < 17592186044416 then ((some (y355 ++ [a1] : List Int)).bind fun y358 => ((some (l0.drop (x5_1 : Int).toNat : List Int)).bind fun y361 => (if y358.length + y361.length < 17592186044416 then (some (y358 ++ y361)) else (none)))) else (none))) else (none))) else (none)) = some r := by first | (rw [hy348]; with_reducible exact H) | (have H2_ := (Option.bind_some _ _).symm.trans H; rw [hy348]; with_reducible exact H2_) | (have H2_ := (Option.bind_some _ _).symm.trans H; with_reducible exact H2_) | with_reducible exact H | (rw [hy348]; exact H) | exact H
       have Ny348 := Aside0.mk hy348
       clear hy348
       have c9b0 := eq_true (oD_ : 0 ≤ x5_1)
       by_cases c10 : x5_1 ≤ (l0.length : Int)
       ·rw [if_pos c10] at H
        have c10b0 := eq_true c10
        have c10b1 : decide (x5_1 ≤ (l0.length : Int)) = true := decide_eq_true c10
        clear c10
        obtain ⟨y351, hy351⟩ : ∃ y_ : List Int, y_ = (l0.take (x5_1 : Int).toNat) := ⟨_, rfl⟩
        replace H : (if y348.length + y351.length < 17592186044416 then ((some (y348 ++ y351 : List Int)).bind fun y355 => (if y355.length < 17592186044416 then ((some (y355 ++ [a1] : List Int)).bind fun y358 => ((some (l0.drop (x5_1 : Int).toNat : List Int)).bind fun y361 => (if y358.length + y361.length < 17592186044416 then (some (y358 ++ y361)) else (none)))) else (none))) else (none)) = some r := by first | (rw [hy351]; with_reducible exact H) | (have H2_ := (Option.bind_some _ _).symm.trans H; rw [hy351]; with_reducible exact H2_) | (have H2_ := (Option.bind_some _ _).symm.trans H; with_reducible exact H2_) | with_reducible exact H | (rw [hy351]; exact H) | exact H
        have Ny351 := Aside0.mk hy351
        clear hy351
        by_cases c11 : y348.length + y351.length < 17592186044416
        ·rw [if_pos c11] at H
         have LMc11 := Aside0.mk c11
         clear c11
         obtain ⟨y355, hy355⟩ : ∃ y_ : List Int, y_ = (y348 ++ y351) := ⟨_, rfl⟩
         replace H : (if y355.length < 17592186044416 then ((some (y355 ++ [a1] : List Int)).bind fun y358 => ((some (l0.drop (x5_1 : Int).toNat : List Int)).bind fun y361 => (if y358.length + y361.length < 17592186044416 then (some (y358 ++ y361)) else (none)))) else (none)) = some r := by first | (rw [hy355]; with_reducible exact H) | (have H2_ := (Option.bind_some _ _).symm.trans H; rw [hy355]; with_reducible exact H2_) | (have H2_ := (Option.bind_some _ _).symm.trans H; with_reducible exact H2_) | with_reducible exact H | (rw [hy355]; exact H) | exact H
         have Ny355 := Aside0.mk hy355
         clear hy355
         by_cases c12 : y355.length < 17592186044416
         ·rw [if_pos c12] at H
          have LMc12 := Aside0.mk c12
          clear c12
          obtain ⟨y358, hy358⟩ : ∃ y_ : List Int, y_ = (y355 ++ [a1]) := ⟨_, rfl⟩
          replace H : ((some (l0.drop (x5_1 : Int).toNat : List Int)).bind fun y361 => (if y358.length + y361.length < 17592186044416 then (some (y358 ++ y361)) else (none))) = some r := by first | (rw [hy358]; with_reducible exact H) | (have H2_ := (Option.bind_some _ _).symm.trans H; rw [hy358]; with_reducible exact H2_) | (have H2_ := (Option.bind_some _ _).symm.trans H; with_reducible exact H2_) | with_reducible exact H | (rw [hy358]; exact H) | exact H
          have Ny358 := Aside0.mk hy358
          clear hy358
          have c13b0 := eq_true (oD_ : 0 ≤ x5_1)
          have c14b0 := eq_true (oD_ : x5_1 ≤ (l0.length : Int))
          obtain ⟨y361, hy361⟩ : ∃ y_ : List Int, y_ = (l0.drop (x5_1 : Int).toNat) := ⟨_, rfl⟩
          replace H : (if y358.length + y361.length < 17592186044416 then (some (y358 ++ y361)) else (none)) = some r := by first | (rw [hy361]; with_reducible exact H) | (have H2_ := (Option.bind_some _ _).symm.trans H; rw [hy361]; with_reducible exact H2_) | (have H2_ := (Option.bind_some _ _).symm.trans H; with_reducible exact H2_) | with_reducible exact H | (rw [hy361]; exact H) | exact H
          have Ny361 := Aside0.mk hy361
          clear hy361
          by_cases c15 : y358.length + y361.length < 17592186044416
          ·rw [if_pos c15] at H
           have LMc15 := Aside0.mk c15
           clear c15
           obtain ⟨y365, hy365⟩ : ∃ y_ : List Int, y_ = (y358 ++ y361) := ⟨_, rfl⟩
           replace H : (some y365) = some r := by first | (rw [hy365]; with_reducible exact H) | (have H2_ := (Option.bind_some _ _).symm.trans H; rw [hy365]; with_reducible exact H2_) | (have H2_ := (Option.bind_some _ _).symm.trans H; with_reducible exact H2_) | with_reducible exact H | (rw [hy365]; exact H) | exact H
           have Ny365 := Aside0.mk hy365
           clear hy365
           obtain rfl := Option.some.inj H
           obtain ⟨Ao16, co16, eo16⟩ := Kd.R_slice HO_0.out
           subst eo16
           have p346 : 0 ≤ (x5_1 : Int) := oD_
           have q346 : x5_1 < (l0.length : Int) := oD_
           obtain ⟨ad346, e346, hx346_0⟩ := Kd.at_int (Kd.R_reads' HO_0.out).2.2 x5_1 p346 q346
           cases e346
           replace p346 := eq_true p346
           replace q346 := eq_true q346
           have p347 : 0 ≤ (x5_1 : Int) := oD_
           have q347 : x5_1 < (l0.length : Int) := oD_
           obtain ⟨ad347, e347, hx347_0⟩ := Kd.at_int (Kd.R_reads' HO_0.out).2.2 x5_1 p347 q347
           obtain rfl : ad346 = ad347 := (by injection e347)
           replace p347 := eq_true p347
           replace q347 := eq_true q347
           go_wp2_with (first | ((with_reducible refine gate_dst (N := 34) rfl ?_); refine Kd.R_lit (Kd.int .i64) _ 2 ?hg (N := 34) ?hd (xs := ([] : List Int)) (inner := []) (ok := fun _ => True) (okp := fun _ => True) ?hr ?hp (fun _ hk => hk) trivial (Below.refl _ _) (Nat.le_refl _) (by simp) ?_; (case hd => rfl); (case hg => rfl); (case hr => first | (go_simp; done) | (go_simp; rfl)); (case hp => exact (Reps.none _ _)); intro v349 w17 ho18 hb hg_ hnew_; clear hg_ hnew_; (first | rw [← Ny348.out] at ho18 | (simp only [Int.reduceToNat] at ho18; rw [← Ny348.out] at ho18)); have n0_ := Aside0.mk (Kd.R_elder' rHO_0_ (Kd.R_base ho18) hb); have n1_ := Aside0.mk (Kd.R_lower (Kd.R_new' (Kd.R_newM (M := fun k_ => (P0_ k_ ∨ w.heap.size ≤ k_)) ho18 (by first | exact HK.out.1 | exact (show Kept w _ (fun k_ => P0_ k_) from by repeat (first | (with_reducible first | exact HK.out | apply Kept.alloc | apply Kept.drewN | apply Kept.drew) | exact HK.out)).1) (fun k_ h_ => .inr h_)) (Kd.R_lt rHO_0_)) (below_size hB_)); have n2_ := Aside0.mk (Kept.below (S := (fun k_ => P0_ k_)) (by repeat (first | (with_reducible first | exact HK.out | apply Kept.alloc | apply Kept.drewN | apply Kept.drew) | exact HK.out)) hb); have n3_ := Aside0.mk (below_step hB_ hb); clear HO_0; clear HK; clear HB; have HO_0 := n0_; have HO350 := n1_; have HK := n2_; have HB := n3_; clear n0_ n1_ n2_ n3_; clear hb ho18; have q19 : (x5_1 : Int) ≤ ((l0.length : Int) : Int) := oD_; obtain ⟨i019, hi019, _, hsz19, _⟩ := info_parts info2; have hroom19 : l0.length ≤ co16 := (Kd.R_reads' HO_0.out).2.1; have hC19 : Kd.C (Kd.int .i64) _ (some ad346) l0.length l0 := (Kd.R_reads' HO_0.out).2.2; have hcut19 := cut_to (P := Try.prog) 22 2 .i64 Try.underlying22 hi019 (some ad346) l0.length co16 x5_1 (oD_) q19 hroom19; have hr19 := Kd.C_take (m := (x5_1 : Int).toNat) hC19 (by omega); have hy19 : y351.length = (x5_1 : Int).toNat := (by rw [Ny351.out, List.length_take]; omega); rw [← Ny351.out] at hr19; rw [← hy19] at hcut19; have HR354 := Aside0.mk hr19; have HC354 := Aside0.mk (show y351.length ≤ co16 from by omega); clear hr19 hC19 hroom19 hi019 hsz19; have KY19 := Aside0.mk hy19; clear hy19; have KL19 := Aside0.mk (show (x5_1 : Int).toNat ≤ l0.length from by omega); replace q19 := eq_true q19) | ((with_reducible refine gate_builtin (b := .append) (xs := #[.tmp 34, .tmp 37]) rfl ?_); at_builtin; refine Kd.R_append_rows (Kd.int .i64) (w0 := w0) w0.heap.size rfl (.tmp 34) (.tmp 37) 22 2 (.int .i64 0) 8 rfl Try.underlying22 info2 rfl (by decide) (by omega) v349 y348 y351 _ _ _ (fun k_ => (P0_ k_ ∨ w.heap.size ≤ k_) ∧ some k_ ≠ (.slice (some ad346) l0.length co16 : Value).ownBlock) (fun _ => False) rfl rfl ?aO ?aR (fun _ _ h => h) (fun _ h => h.elim) ?aF ?aB ?aS ?aL ?_; (case aR => repeat (first | exact (by repeat (first | (with_reducible exact HR354.out) | (with_reducible refine Kd.C_alloc ?_ _) | (with_reducible refine Kd.C_drewN ?_ _) | (with_reducible refine Kd.C_drew ?_) | exact HR354.out)) | (with_reducible refine Kd.C_alloc ?_ _) | (with_reducible refine Kd.C_drewN ?_ _) | (with_reducible refine Kd.C_drew ?_))); (case aB => exact hB_); (case aF => exact (fun k_ hk => ⟨(.inr (Nat.le_trans (by first | exact HK.out.1 | exact (show Kept w _ (fun k_ => P0_ k_) from by repeat (first | (with_reducible first | exact HK.out | apply Kept.alloc | apply Kept.drewN | apply Kept.drew) | exact HK.out)).1) hk)), Kd.fresh' (Kd.R_lt rHO_0_) k_ hk⟩)); (case aO => exact (by (with_reducible repeat (first | apply Kd.R_alloc | apply Kd.R_drewN | apply Kd.R_drew)); exact Kd.R_mono HO350.out (fun _ hk => ⟨hk.1.1, hk.2⟩))); (case aS => exact (below_size hB_)); (case aL => have := LMc11.out; omega); intro v356 w20 ho hb hg hat; rw [← Ny355.out] at ho; have n0_ := Aside0.mk (Kd.R_after (ok := (fun k_ => (P0_ k_ ∨ w.heap.size ≤ k_))) rHO_0_ hg hat); have n1_ := Aside0.mk (hb); have n2_ := Aside0.mk (Kept.of_grown (S := (fun k_ => P0_ k_)) hg (by repeat (first | (with_reducible first | exact HK.out | apply Kept.alloc | apply Kept.drewN | apply Kept.drew) | exact HK.out)) (fun k_ e_ => (HO350.out.1 k_ e_).1.1)); have n3_ := Aside0.mk ((show Kd.C (Kd.int .i64) w20 (some ad346) y351.length y351 from by rw [Ny351.out]; exact Kd.C_take (m := (x5_1 : Int).toNat) ((Kd.R_reads' (Kd.R_after (ok := (fun k_ => (P0_ k_ ∨ w.heap.size ≤ k_))) rHO_0_ hg hat)).2.2) KL19.out)); have n4_ := Aside0.mk (ho); clear HO_0; clear HB; clear HK; clear HR354; clear HO350; have HO_0 := n0_; have HB := n1_; have HK := n2_; have HR354 := n3_; have HO357 := n4_; clear n0_ n1_ n2_ n3_ n4_; clear ho hb hg hat) | ((with_reducible refine gate_builtin (b := .append) (xs := #[.tmp 39, .tmp 41]) rfl ?_); at_builtin; refine Kd.R_append (Kd.int .i64) (w0 := w0) w0.heap.size rfl (.tmp 39) (.tmp 41) 22 2 (.int .i64 0) 8 rfl Try.underlying22 info2 rfl (by decide) (by omega) v356 y355 a1 [.int .i64 a1] (fun k_ => (P0_ k_ ∨ w.heap.size ≤ k_) ∧ some k_ ≠ (.slice (some ad346) l0.length co16 : Value).ownBlock) (fun _ => False) rfl rfl ?aP (fun _ hk => hk.elim) ?aF ?aO ?aB ?aS ?aL ?_; (case aP => exact rfl); (case aB => exact hB_); (case aF => exact (fun k_ hk => ⟨(.inr (Nat.le_trans (by first | exact HK.out.1 | exact (show Kept w _ (fun k_ => P0_ k_) from by repeat (first | (with_reducible first | exact HK.out | apply Kept.alloc | apply Kept.drewN | apply Kept.drew) | exact HK.out)).1) hk)), Kd.fresh' (Kd.R_lt rHO_0_) k_ hk⟩)); (case aO => exact rHO357_); (case aS => exact (below_size hB_)); (case aL => have := LMc12.out; omega); intro v359 w21 ho hb hg hat; rw [← Ny358.out] at ho; have n0_ := Aside0.mk (Kd.R_after (ok := (fun k_ => (P0_ k_ ∨ w.heap.size ≤ k_))) rHO_0_ hg hat); have n1_ := Aside0.mk (hb); have n2_ := Aside0.mk (Kept.of_grown (S := (fun k_ => P0_ k_)) hg (by repeat (first | (with_reducible first | exact HK.out | apply Kept.alloc | apply Kept.drewN | apply Kept.drew) | exact HK.out)) (fun k_ e_ => (HO357.out.1 k_ e_).1)); have n3_ := Aside0.mk ((show Kd.C (Kd.int .i64) w21 (some ad346) y351.length y351 from by rw [Ny351.out]; exact Kd.C_take (m := (x5_1 : Int).toNat) ((Kd.R_reads' (Kd.R_after (ok := (fun k_ => (P0_ k_ ∨ w.heap.size ≤ k_))) rHO_0_ hg hat)).2.2) KL19.out)); have n4_ := Aside0.mk (ho); clear HO_0; clear HB; clear HK; clear HR354; clear HO357; have HO_0 := n0_; have HB := n1_; have HK := n2_; have HR354 := n3_; have HO360 := n4_; clear n0_ n1_ n2_ n3_ n4_; clear ho hb hg hat; have q22 : (x5_1 : Int) ≤ ((l0.length : Int) : Int) := oD_; obtain ⟨i022, hi022, _, hsz22, _⟩ := info_parts info2; have hroom22 : l0.length ≤ co16 := (Kd.R_reads' HO_0.out).2.1; have hC22 : Kd.C (Kd.int .i64) _ (some ad346) l0.length l0 := (Kd.R_reads' HO_0.out).2.2; have q022 : (0 : Int) ≤ (x5_1 : Int) := oD_; have hcut22 := cut_from (P := Try.prog) 22 2 .i64 Try.underlying22 hi022 1 hsz22 (some ad346) l0.length co16 x5_1 q022 q22; have hr22 := Kd.C_drop (m := (x5_1 : Int).toNat) (c := co16) hC22 (by omega) hroom22; obtain ⟨A22, hA22⟩ : ∃ A1, A1 = (if co16 = (x5_1 : Int).toNat then (some ad346) else ((some ad346) : Option Addr).map (·.add ((x5_1 : Int).toNat * 1))) := ⟨_, rfl⟩; obtain ⟨c22, hc22⟩ : ∃ c1, c1 = co16 - (x5_1 : Int).toNat := ⟨_, rfl⟩; have hy22 : y361.length = l0.length - (x5_1 : Int).toNat := (by rw [Ny361.out, List.length_drop] <;> omega); rw [show (l0).drop (x5_1 : Int).toNat = y361 from Ny361.out.symm] at hr22; replace hr22 : Kd.C (Kd.int .i64) _ A22 y361.length y361 := (by rw [hA22]; exact hr22); rw [← hy22, ← hA22, ← hc22] at hcut22; have HR364 := Aside0.mk hr22; have HC364 := Aside0.mk (show y361.length ≤ c22 from by rw [hy22, hc22]; exact Nat.sub_le_sub_right hroom22 _); clear hr22 hC22 hroom22 hi022 hsz22 hc22; have KY22 := Aside0.mk hy22; have KA22 := Aside0.mk hA22; clear hy22 hA22; have KL22 := Aside0.mk (show (x5_1 : Int).toNat ≤ l0.length from by omega); replace q22 := eq_true q22) | ((with_reducible refine gate_builtin (b := .append) (xs := #[.tmp 43, .tmp 46]) rfl ?_); at_builtin; refine Kd.R_append_rows (Kd.int .i64) (w0 := w0) w0.heap.size rfl (.tmp 43) (.tmp 46) 22 2 (.int .i64 0) 8 rfl Try.underlying22 info2 rfl (by decide) (by omega) v359 y358 y361 _ _ _ (fun k_ => (P0_ k_ ∨ w.heap.size ≤ k_) ∧ some k_ ≠ (.slice (some ad346) l0.length co16 : Value).ownBlock) (fun _ => False) rfl rfl ?aO ?aR (fun _ _ h => h) (fun _ h => h.elim) ?aF ?aB ?aS ?aL ?_; (case aR => repeat (first | exact (by repeat (first | (with_reducible exact HR364.out) | (with_reducible refine Kd.C_alloc ?_ _) | (with_reducible refine Kd.C_drewN ?_ _) | (with_reducible refine Kd.C_drew ?_) | exact HR364.out)) | (with_reducible refine Kd.C_alloc ?_ _) | (with_reducible refine Kd.C_drewN ?_ _) | (with_reducible refine Kd.C_drew ?_))); (case aB => exact hB_); (case aF => exact (fun k_ hk => ⟨(.inr (Nat.le_trans (by first | exact HK.out.1 | exact (show Kept w _ (fun k_ => P0_ k_) from by repeat (first | (with_reducible first | exact HK.out | apply Kept.alloc | apply Kept.drewN | apply Kept.drew) | exact HK.out)).1) hk)), Kd.fresh' (Kd.R_lt rHO_0_) k_ hk⟩)); (case aO => exact rHO360_); (case aS => exact (below_size hB_)); (case aL => have := LMc15.out; omega); intro v366 w23 ho hb hg hat; rw [← Ny365.out] at ho; have n0_ := Aside0.mk (Kd.R_after (ok := (fun k_ => (P0_ k_ ∨ w.heap.size ≤ k_))) rHO_0_ hg hat); have n1_ := Aside0.mk (hb); have n2_ := Aside0.mk (Kept.of_grown (S := (fun k_ => P0_ k_)) hg (by repeat (first | (with_reducible first | exact HK.out | apply Kept.alloc | apply Kept.drewN | apply Kept.drew) | exact HK.out)) (fun k_ e_ => (HO360.out.1 k_ e_).1)); have n3_ := Aside0.mk ((show Kd.C (Kd.int .i64) w23 (some ad346) y351.length y351 from by rw [Ny351.out]; exact Kd.C_take (m := (x5_1 : Int).toNat) ((Kd.R_reads' (Kd.R_after (ok := (fun k_ => (P0_ k_ ∨ w.heap.size ≤ k_))) rHO_0_ hg hat)).2.2) KL19.out)); have n4_ := Aside0.mk ((show Kd.C (Kd.int .i64) w23 A22 y361.length y361 from by rw [Ny361.out, KA22.out]; exact Kd.C_drop (m := (x5_1 : Int).toNat) (c := co16) ((Kd.R_reads' (Kd.R_after (ok := (fun k_ => (P0_ k_ ∨ w.heap.size ≤ k_))) rHO_0_ hg hat)).2.2) KL22.out ((Kd.R_reads' (Kd.R_after (ok := (fun k_ => (P0_ k_ ∨ w.heap.size ≤ k_))) rHO_0_ hg hat)).2.1))); have n5_ := Aside0.mk (ho); clear HO_0; clear HB; clear HK; clear HR354; clear HR364; clear HO360; have HO_0 := n0_; have HB := n1_; have HK := n2_; have HR354 := n3_; have HR364 := n4_; have HO367 := n5_; clear n0_ n1_ n2_ n3_ n4_ n5_; clear ho hb hg hat))
           go_ret
           exact ⟨_, rG_, by (with_reducible repeat (first | apply Kd.R_alloc | apply Kd.R_drewN | apply Kd.R_drew)); exact Kd.R_mono HO367.out (fun _ hk => hk.1), hB_, by repeat (first | (with_reducible first | exact HK.out | apply Kept.alloc | apply Kept.drewN | apply Kept.drew) | exact HK.out)⟩
          ·rw [if_neg c15] at H
           exact absurd H (by simp)
         ·rw [if_neg c12] at H
          exact absurd H (by simp)
        ·rw [if_neg c11] at H
         exact absurd H (by simp)
       ·rw [if_neg c10] at H
        exact absurd H (by simp)
    ·rw [if_neg c4] at H
     exact absurd H (by simp)
   ·rw [if_neg c3] at H
    have c3b0 : decide (x5_1 < (l0.length : Int)) = false := decide_eq_false c3
    clear c3
    obtain ⟨y368, hy368⟩ : ∃ y_ : List Int, y_ = (([] : List Int)) := ⟨_, rfl⟩
    replace H : (if 0 ≤ x5_1 then (if x5_1 ≤ (l0.length : Int) then ((some (l0.take (x5_1 : Int).toNat : List Int)).bind fun y371 => (if y368.length + y371.length < 17592186044416 then ((some (y368 ++ y371 : List Int)).bind fun y375 => (if y375.length < 17592186044416 then ((some (y375 ++ [a1] : List Int)).bind fun y378 => ((some (l0.drop (x5_1 : Int).toNat : List Int)).bind fun y381 => (if y378.length + y381.length < 17592186044416 then (some (y378 ++ y381)) else (none)))) else (none))) else (none))) else (none)) else (none)) = some r := by first | (rw [hy368]; with_reducible exact H) | (have H2_ := (Option.bind_some _ _).symm.trans H; rw [hy368]; with_reducible exact H2_) | (have H2_ := (Option.bind_some _ _).symm.trans H; with_reducible exact H2_) | with_reducible exact H | (rw [hy368]; exact H) | exact H
    have Ny368 := Aside0.mk hy368
    clear hy368
    by_cases c24 : 0 ≤ x5_1
    ·rw [if_pos c24] at H
     have c24b0 := eq_true c24
     have c24b1 : decide (0 ≤ x5_1) = true := decide_eq_true c24
     clear c24
     by_cases c25 : x5_1 ≤ (l0.length : Int)
     ·rw [if_pos c25] at H
      have c25b0 := eq_true c25
      have c25b1 : decide (x5_1 ≤ (l0.length : Int)) = true := decide_eq_true c25
      clear c25
      obtain ⟨y371, hy371⟩ : ∃ y_ : List Int, y_ = (l0.take (x5_1 : Int).toNat) := ⟨_, rfl⟩
      replace H : (if y368.length + y371.length < 17592186044416 then ((some (y368 ++ y371 : List Int)).bind fun y375 => (if y375.length < 17592186044416 then ((some (y375 ++ [a1] : List Int)).bind fun y378 => ((some (l0.drop (x5_1 : Int).toNat : List Int)).bind fun y381 => (if y378.length + y381.length < 17592186044416 then (some (y378 ++ y381)) else (none)))) else (none))) else (none)) = some r := by first | (rw [hy371]; with_reducible exact H) | (have H2_ := (Option.bind_some _ _).symm.trans H; rw [hy371]; with_reducible exact H2_) | (have H2_ := (Option.bind_some _ _).symm.trans H; with_reducible exact H2_) | with_reducible exact H | (rw [hy371]; exact H) | exact H
      have Ny371 := Aside0.mk hy371
      clear hy371
      by_cases c26 : y368.length + y371.length < 17592186044416
      ·rw [if_pos c26] at H
       have LMc26 := Aside0.mk c26
       clear c26
       obtain ⟨y375, hy375⟩ : ∃ y_ : List Int, y_ = (y368 ++ y371) := ⟨_, rfl⟩
       replace H : (if y375.length < 17592186044416 then ((some (y375 ++ [a1] : List Int)).bind fun y378 => ((some (l0.drop (x5_1 : Int).toNat : List Int)).bind fun y381 => (if y378.length + y381.length < 17592186044416 then (some (y378 ++ y381)) else (none)))) else (none)) = some r := by first | (rw [hy375]; with_reducible exact H) | (have H2_ := (Option.bind_some _ _).symm.trans H; rw [hy375]; with_reducible exact H2_) | (have H2_ := (Option.bind_some _ _).symm.trans H; with_reducible exact H2_) | with_reducible exact H | (rw [hy375]; exact H) | exact H
       have Ny375 := Aside0.mk hy375
       clear hy375
       by_cases c27 : y375.length < 17592186044416
       ·rw [if_pos c27] at H
        have LMc27 := Aside0.mk c27
        clear c27
        obtain ⟨y378, hy378⟩ : ∃ y_ : List Int, y_ = (y375 ++ [a1]) := ⟨_, rfl⟩
        replace H : ((some (l0.drop (x5_1 : Int).toNat : List Int)).bind fun y381 => (if y378.length + y381.length < 17592186044416 then (some (y378 ++ y381)) else (none))) = some r := by first | (rw [hy378]; with_reducible exact H) | (have H2_ := (Option.bind_some _ _).symm.trans H; rw [hy378]; with_reducible exact H2_) | (have H2_ := (Option.bind_some _ _).symm.trans H; with_reducible exact H2_) | with_reducible exact H | (rw [hy378]; exact H) | exact H
        have Ny378 := Aside0.mk hy378
        clear hy378
        have c28b0 := eq_true (oD_ : 0 ≤ x5_1)
        have c29b0 := eq_true (oD_ : x5_1 ≤ (l0.length : Int))
        obtain ⟨y381, hy381⟩ : ∃ y_ : List Int, y_ = (l0.drop (x5_1 : Int).toNat) := ⟨_, rfl⟩
        replace H : (if y378.length + y381.length < 17592186044416 then (some (y378 ++ y381)) else (none)) = some r := by first | (rw [hy381]; with_reducible exact H) | (have H2_ := (Option.bind_some _ _).symm.trans H; rw [hy381]; with_reducible exact H2_) | (have H2_ := (Option.bind_some _ _).symm.trans H; with_reducible exact H2_) | with_reducible exact H | (rw [hy381]; exact H) | exact H
        have Ny381 := Aside0.mk hy381
        clear hy381
        by_cases c30 : y378.length + y381.length < 17592186044416
        ·rw [if_pos c30] at H
         have LMc30 := Aside0.mk c30
         clear c30
         obtain ⟨y385, hy385⟩ : ∃ y_ : List Int, y_ = (y378 ++ y381) := ⟨_, rfl⟩
         replace H : (some y385) = some r := by first | (rw [hy385]; with_reducible exact H) | (have H2_ := (Option.bind_some _ _).symm.trans H; rw [hy385]; with_reducible exact H2_) | (have H2_ := (Option.bind_some _ _).symm.trans H; with_reducible exact H2_) | with_reducible exact H | (rw [hy385]; exact H) | exact H
         have Ny385 := Aside0.mk hy385
         clear hy385
         obtain rfl := Option.some.inj H
         obtain ⟨Ao31, co31, eo31⟩ := Kd.R_slice HO_0.out
         subst eo31
         go_wp2_with (first | ((with_reducible refine gate_dst (N := 34) rfl ?_); refine Kd.R_lit (Kd.int .i64) _ 2 ?hg (N := 34) ?hd (xs := ([] : List Int)) (inner := []) (ok := fun _ => True) (okp := fun _ => True) ?hr ?hp (fun _ hk => hk) trivial (Below.refl _ _) (Nat.le_refl _) (by simp) ?_; (case hd => rfl); (case hg => rfl); (case hr => first | (go_simp; done) | (go_simp; rfl)); (case hp => exact (Reps.none _ _)); intro v369 w32 ho33 hb hg_ hnew_; clear hg_ hnew_; (first | rw [← Ny368.out] at ho33 | (simp only [Int.reduceToNat] at ho33; rw [← Ny368.out] at ho33)); have n0_ := Aside0.mk (Kd.R_elder' rHO_0_ (Kd.R_base ho33) hb); have n1_ := Aside0.mk (Kd.R_lower (Kd.R_new' (Kd.R_newM (M := fun k_ => (P0_ k_ ∨ w.heap.size ≤ k_)) ho33 (by first | exact HK.out.1 | exact (show Kept w _ (fun k_ => P0_ k_) from by repeat (first | (with_reducible first | exact HK.out | apply Kept.alloc | apply Kept.drewN | apply Kept.drew) | exact HK.out)).1) (fun k_ h_ => .inr h_)) (Kd.R_lt rHO_0_)) (below_size hB_)); have n2_ := Aside0.mk (Kept.below (S := (fun k_ => P0_ k_)) (by repeat (first | (with_reducible first | exact HK.out | apply Kept.alloc | apply Kept.drewN | apply Kept.drew) | exact HK.out)) hb); have n3_ := Aside0.mk (below_step hB_ hb); clear HO_0; clear HK; clear HB; have HO_0 := n0_; have HO370 := n1_; have HK := n2_; have HB := n3_; clear n0_ n1_ n2_ n3_; clear hb ho33; have q34 : (x5_1 : Int) ≤ ((l0.length : Int) : Int) := oD_; obtain ⟨i034, hi034, _, hsz34, _⟩ := info_parts info2; have hroom34 : l0.length ≤ co31 := (Kd.R_reads' HO_0.out).2.1; have hC34 : Kd.C (Kd.int .i64) _ Ao31 l0.length l0 := (Kd.R_reads' HO_0.out).2.2; have hcut34 := cut_to (P := Try.prog) 22 2 .i64 Try.underlying22 hi034 Ao31 l0.length co31 x5_1 (oD_) q34 hroom34; have hr34 := Kd.C_take (m := (x5_1 : Int).toNat) hC34 (by omega); have hy34 : y371.length = (x5_1 : Int).toNat := (by rw [Ny371.out, List.length_take]; omega); rw [← Ny371.out] at hr34; rw [← hy34] at hcut34; have HR374 := Aside0.mk hr34; have HC374 := Aside0.mk (show y371.length ≤ co31 from by omega); clear hr34 hC34 hroom34 hi034 hsz34; have KY34 := Aside0.mk hy34; clear hy34; have KL34 := Aside0.mk (show (x5_1 : Int).toNat ≤ l0.length from by omega); replace q34 := eq_true q34) | ((with_reducible refine gate_builtin (b := .append) (xs := #[.tmp 34, .tmp 37]) rfl ?_); at_builtin; refine Kd.R_append_rows (Kd.int .i64) (w0 := w0) w0.heap.size rfl (.tmp 34) (.tmp 37) 22 2 (.int .i64 0) 8 rfl Try.underlying22 info2 rfl (by decide) (by omega) v369 y368 y371 _ _ _ (fun k_ => (P0_ k_ ∨ w.heap.size ≤ k_) ∧ some k_ ≠ (.slice Ao31 l0.length co31 : Value).ownBlock) (fun _ => False) rfl rfl ?aO ?aR (fun _ _ h => h) (fun _ h => h.elim) ?aF ?aB ?aS ?aL ?_; (case aR => repeat (first | exact (by repeat (first | (with_reducible exact HR374.out) | (with_reducible refine Kd.C_alloc ?_ _) | (with_reducible refine Kd.C_drewN ?_ _) | (with_reducible refine Kd.C_drew ?_) | exact HR374.out)) | (with_reducible refine Kd.C_alloc ?_ _) | (with_reducible refine Kd.C_drewN ?_ _) | (with_reducible refine Kd.C_drew ?_))); (case aB => exact hB_); (case aF => exact (fun k_ hk => ⟨(.inr (Nat.le_trans (by first | exact HK.out.1 | exact (show Kept w _ (fun k_ => P0_ k_) from by repeat (first | (with_reducible first | exact HK.out | apply Kept.alloc | apply Kept.drewN | apply Kept.drew) | exact HK.out)).1) hk)), Kd.fresh' (Kd.R_lt rHO_0_) k_ hk⟩)); (case aO => exact (by (with_reducible repeat (first | apply Kd.R_alloc | apply Kd.R_drewN | apply Kd.R_drew)); exact Kd.R_mono HO370.out (fun _ hk => ⟨hk.1.1, hk.2⟩))); (case aS => exact (below_size hB_)); (case aL => have := LMc26.out; omega); intro v376 w35 ho hb hg hat; rw [← Ny375.out] at ho; have n0_ := Aside0.mk (Kd.R_after (ok := (fun k_ => (P0_ k_ ∨ w.heap.size ≤ k_))) rHO_0_ hg hat); have n1_ := Aside0.mk (hb); have n2_ := Aside0.mk (Kept.of_grown (S := (fun k_ => P0_ k_)) hg (by repeat (first | (with_reducible first | exact HK.out | apply Kept.alloc | apply Kept.drewN | apply Kept.drew) | exact HK.out)) (fun k_ e_ => (HO370.out.1 k_ e_).1.1)); have n3_ := Aside0.mk ((show Kd.C (Kd.int .i64) w35 Ao31 y371.length y371 from by rw [Ny371.out]; exact Kd.C_take (m := (x5_1 : Int).toNat) ((Kd.R_reads' (Kd.R_after (ok := (fun k_ => (P0_ k_ ∨ w.heap.size ≤ k_))) rHO_0_ hg hat)).2.2) KL34.out)); have n4_ := Aside0.mk (ho); clear HO_0; clear HB; clear HK; clear HR374; clear HO370; have HO_0 := n0_; have HB := n1_; have HK := n2_; have HR374 := n3_; have HO377 := n4_; clear n0_ n1_ n2_ n3_ n4_; clear ho hb hg hat) | ((with_reducible refine gate_builtin (b := .append) (xs := #[.tmp 39, .tmp 41]) rfl ?_); at_builtin; refine Kd.R_append (Kd.int .i64) (w0 := w0) w0.heap.size rfl (.tmp 39) (.tmp 41) 22 2 (.int .i64 0) 8 rfl Try.underlying22 info2 rfl (by decide) (by omega) v376 y375 a1 [.int .i64 a1] (fun k_ => (P0_ k_ ∨ w.heap.size ≤ k_) ∧ some k_ ≠ (.slice Ao31 l0.length co31 : Value).ownBlock) (fun _ => False) rfl rfl ?aP (fun _ hk => hk.elim) ?aF ?aO ?aB ?aS ?aL ?_; (case aP => exact rfl); (case aB => exact hB_); (case aF => exact (fun k_ hk => ⟨(.inr (Nat.le_trans (by first | exact HK.out.1 | exact (show Kept w _ (fun k_ => P0_ k_) from by repeat (first | (with_reducible first | exact HK.out | apply Kept.alloc | apply Kept.drewN | apply Kept.drew) | exact HK.out)).1) hk)), Kd.fresh' (Kd.R_lt rHO_0_) k_ hk⟩)); (case aO => exact rHO377_); (case aS => exact (below_size hB_)); (case aL => have := LMc27.out; omega); intro v379 w36 ho hb hg hat; rw [← Ny378.out] at ho; have n0_ := Aside0.mk (Kd.R_after (ok := (fun k_ => (P0_ k_ ∨ w.heap.size ≤ k_))) rHO_0_ hg hat); have n1_ := Aside0.mk (hb); have n2_ := Aside0.mk (Kept.of_grown (S := (fun k_ => P0_ k_)) hg (by repeat (first | (with_reducible first | exact HK.out | apply Kept.alloc | apply Kept.drewN | apply Kept.drew) | exact HK.out)) (fun k_ e_ => (HO377.out.1 k_ e_).1)); have n3_ := Aside0.mk ((show Kd.C (Kd.int .i64) w36 Ao31 y371.length y371 from by rw [Ny371.out]; exact Kd.C_take (m := (x5_1 : Int).toNat) ((Kd.R_reads' (Kd.R_after (ok := (fun k_ => (P0_ k_ ∨ w.heap.size ≤ k_))) rHO_0_ hg hat)).2.2) KL34.out)); have n4_ := Aside0.mk (ho); clear HO_0; clear HB; clear HK; clear HR374; clear HO377; have HO_0 := n0_; have HB := n1_; have HK := n2_; have HR374 := n3_; have HO380 := n4_; clear n0_ n1_ n2_ n3_ n4_; clear ho hb hg hat; have q37 : (x5_1 : Int) ≤ ((l0.length : Int) : Int) := oD_; obtain ⟨i037, hi037, _, hsz37, _⟩ := info_parts info2; have hroom37 : l0.length ≤ co31 := (Kd.R_reads' HO_0.out).2.1; have hC37 : Kd.C (Kd.int .i64) _ Ao31 l0.length l0 := (Kd.R_reads' HO_0.out).2.2; have q037 : (0 : Int) ≤ (x5_1 : Int) := oD_; have hcut37 := cut_from (P := Try.prog) 22 2 .i64 Try.underlying22 hi037 1 hsz37 Ao31 l0.length co31 x5_1 q037 q37; have hr37 := Kd.C_drop (m := (x5_1 : Int).toNat) (c := co31) hC37 (by omega) hroom37; obtain ⟨A37, hA37⟩ : ∃ A1, A1 = (if co31 = (x5_1 : Int).toNat then Ao31 else (Ao31 : Option Addr).map (·.add ((x5_1 : Int).toNat * 1))) := ⟨_, rfl⟩; obtain ⟨c37, hc37⟩ : ∃ c1, c1 = co31 - (x5_1 : Int).toNat := ⟨_, rfl⟩; have hy37 : y381.length = l0.length - (x5_1 : Int).toNat := (by rw [Ny381.out, List.length_drop] <;> omega); rw [show (l0).drop (x5_1 : Int).toNat = y381 from Ny381.out.symm] at hr37; replace hr37 : Kd.C (Kd.int .i64) _ A37 y381.length y381 := (by rw [hA37]; exact hr37); rw [← hy37, ← hA37, ← hc37] at hcut37; have HR384 := Aside0.mk hr37; have HC384 := Aside0.mk (show y381.length ≤ c37 from by rw [hy37, hc37]; exact Nat.sub_le_sub_right hroom37 _); clear hr37 hC37 hroom37 hi037 hsz37 hc37; have KY37 := Aside0.mk hy37; have KA37 := Aside0.mk hA37; clear hy37 hA37; have KL37 := Aside0.mk (show (x5_1 : Int).toNat ≤ l0.length from by omega); replace q37 := eq_true q37) | ((with_reducible refine gate_builtin (b := .append) (xs := #[.tmp 43, .tmp 46]) rfl ?_); at_builtin; refine Kd.R_append_rows (Kd.int .i64) (w0 := w0) w0.heap.size rfl (.tmp 43) (.tmp 46) 22 2 (.int .i64 0) 8 rfl Try.underlying22 info2 rfl (by decide) (by omega) v379 y378 y381 _ _ _ (fun k_ => (P0_ k_ ∨ w.heap.size ≤ k_) ∧ some k_ ≠ (.slice Ao31 l0.length co31 : Value).ownBlock) (fun _ => False) rfl rfl ?aO ?aR (fun _ _ h => h) (fun _ h => h.elim) ?aF ?aB ?aS ?aL ?_; (case aR => repeat (first | exact (by repeat (first | (with_reducible exact HR384.out) | (with_reducible refine Kd.C_alloc ?_ _) | (with_reducible refine Kd.C_drewN ?_ _) | (with_reducible refine Kd.C_drew ?_) | exact HR384.out)) | (with_reducible refine Kd.C_alloc ?_ _) | (with_reducible refine Kd.C_drewN ?_ _) | (with_reducible refine Kd.C_drew ?_))); (case aB => exact hB_); (case aF => exact (fun k_ hk => ⟨(.inr (Nat.le_trans (by first | exact HK.out.1 | exact (show Kept w _ (fun k_ => P0_ k_) from by repeat (first | (with_reducible first | exact HK.out | apply Kept.alloc | apply Kept.drewN | apply Kept.drew) | exact HK.out)).1) hk)), Kd.fresh' (Kd.R_lt rHO_0_) k_ hk⟩)); (case aO => exact rHO380_); (case aS => exact (below_size hB_)); (case aL => have := LMc30.out; omega); intro v386 w38 ho hb hg hat; rw [← Ny385.out] at ho; have n0_ := Aside0.mk (Kd.R_after (ok := (fun k_ => (P0_ k_ ∨ w.heap.size ≤ k_))) rHO_0_ hg hat); have n1_ := Aside0.mk (hb); have n2_ := Aside0.mk (Kept.of_grown (S := (fun k_ => P0_ k_)) hg (by repeat (first | (with_reducible first | exact HK.out | apply Kept.alloc | apply Kept.drewN | apply Kept.drew) | exact HK.out)) (fun k_ e_ => (HO380.out.1 k_ e_).1)); have n3_ := Aside0.mk ((show Kd.C (Kd.int .i64) w38 Ao31 y371.length y371 from by rw [Ny371.out]; exact Kd.C_take (m := (x5_1 : Int).toNat) ((Kd.R_reads' (Kd.R_after (ok := (fun k_ => (P0_ k_ ∨ w.heap.size ≤ k_))) rHO_0_ hg hat)).2.2) KL34.out)); have n4_ := Aside0.mk ((show Kd.C (Kd.int .i64) w38 A37 y381.length y381 from by rw [Ny381.out, KA37.out]; exact Kd.C_drop (m := (x5_1 : Int).toNat) (c := co31) ((Kd.R_reads' (Kd.R_after (ok := (fun k_ => (P0_ k_ ∨ w.heap.size ≤ k_))) rHO_0_ hg hat)).2.2) KL37.out ((Kd.R_reads' (Kd.R_after (ok := (fun k_ => (P0_ k_ ∨ w.heap.size ≤ k_))) rHO_0_ hg hat)).2.1))); have n5_ := Aside0.mk (ho); clear HO_0; clear HB; clear HK; clear HR374; clear HR384; clear HO380; have HO_0 := n0_; have HB := n1_; have HK := n2_; have HR374 := n3_; have HR384 := n4_; have HO387 := n5_; clear n0_ n1_ n2_ n3_ n4_ n5_; clear ho hb hg hat))
         go_ret
         exact ⟨_, rG_, by (with_reducible repeat (first | apply Kd.R_alloc | apply Kd.R_drewN | apply Kd.R_drew)); exact Kd.R_mono HO387.out (fun _ hk => hk.1), hB_, by repeat (first | (with_reducible first | exact HK.out | apply Kept.alloc | apply Kept.drewN | apply Kept.drew) | exact HK.out)⟩
        ·rw [if_neg c30] at H
         exact absurd H (by simp)
       ·rw [if_neg c27] at H
        exact absurd H (by simp)
      ·rw [if_neg c26] at H
       exact absurd H (by simp)
     ·rw [if_neg c25] at H
      exact absurd H (by simp)
    ·rw [if_neg c24] at H
     exact absurd H (by simp)

end Go.Proofs.Ytobfgnjdcoidoaa.X
namespace Go.Proofs.Ytobfgnjdcoidoaa.X
open Go.RowKit Go.Proofs.YtobfgnjdcoidoaaW.PrintWords Go.Proofs.YtobfgnjdcoidoaaW.PrintLast Go.Proofs.YtobfgnjdcoidoaaW.PrintMore
attribute [local go_sem] max2_int min2_int max_two min_two max_three min_three max_four min_four   -- for this text's walks alone
set_option linter.unusedVariables false
set_option linter.unusedSimpArgs false

/-! ### spec_l1Copy: function 64 -/
def spec_l1Copy.f (l0 : List Int) : Option (List Int) := (some (([] : List Int) : List Int)).bind fun y500 => (if y500.length + l0.length < 17592186044416 then (some (y500 ++ l0)) else (none))
set_option maxHeartbeats 8000000 in
set_option maxRecDepth 100000 in
theorem spec_l1Copy.calls (A0 : Option Addr) (c0 : Nat) (l0 : List Int) (r : List Int) (w : World) (hr0 : Kd.C (Kd.int .i64) w A0 l0.length l0) (hc0 : l0.length ≤ c0) (h : spec_l1Copy.f l0 = some r) :
  Calls Try.prog 64 #[.slice A0 l0.length c0] w fun e w' => ∃ v0_ : Value, e = .returned (v0_) ∧ Kd.R (Kd.int .i64) 2 w' w.heap.size (fun _ => True) v0_ r ∧ Below w.heap.size w w' := by
 have HR0 := Aside0.mk hr0
 have HC0 := Aside0.mk hc0
 clear hr0 hc0
 have HB := Aside0.mk (Below.refl w.heap.size w)
 have H : ((some (([] : List Int) : List Int)).bind fun y500 => (if y500.length + l0.length < 17592186044416 then (some (y500 ++ l0)) else (none))) = some r := h
 clear h
 obtain ⟨y500, hy500⟩ : ∃ y_ : List Int, y_ = (([] : List Int)) := ⟨_, rfl⟩
 replace H : (if y500.length + l0.length < 17592186044416 then (some (y500 ++ l0)) else (none)) = some r := by first | (rw [hy500]; with_reducible exact H) | (have H2_ := (Option.bind_some _ _).symm.trans H; rw [hy500]; with_reducible exact H2_) | (have H2_ := (Option.bind_some _ _).symm.trans H; with_reducible exact H2_) | with_reducible exact H | (rw [hy500]; exact H) | exact H
 have Ny500 := Aside0.mk hy500
 clear hy500
 by_cases c2 : y500.length + l0.length < 17592186044416
 ·rw [if_pos c2] at H
  have LMc2 := Aside0.mk c2
  clear c2
  obtain ⟨y503, hy503⟩ : ∃ y_ : List Int, y_ = (y500 ++ l0) := ⟨_, rfl⟩
  replace H : (some y503) = some r := by first | (rw [hy503]; with_reducible exact H) | (have H2_ := (Option.bind_some _ _).symm.trans H; rw [hy503]; with_reducible exact H2_) | (have H2_ := (Option.bind_some _ _).symm.trans H; with_reducible exact H2_) | with_reducible exact H | (rw [hy503]; exact H) | exact H
  have Ny503 := Aside0.mk hy503
  clear hy503
  obtain rfl := Option.some.inj H
  go_enter Try.func64, Try.ntmps64
  go_wp2_with (first | ((with_reducible refine gate_dst (N := 3) rfl ?_); refine Kd.R_lit (Kd.int .i64) _ 2 ?hg (N := 3) ?hd (xs := ([] : List Int)) (inner := []) (ok := fun _ => True) (okp := fun _ => True) ?hr ?hp (fun _ hk => hk) trivial (Below.refl _ _) (Nat.le_refl _) (by simp) ?_; (case hd => rfl); (case hg => rfl); (case hr => first | (go_simp; done) | (go_simp; rfl)); (case hp => exact (Reps.none _ _)); intro v501 w3 ho4 hb hg_ hnew_; clear hg_ hnew_; (first | rw [← Ny500.out] at ho4 | (simp only [Int.reduceToNat] at ho4; rw [← Ny500.out] at ho4)); have n0_ := Aside0.mk (Kd.R_lower ho4 (below_size hB_)); have n1_ := Aside0.mk (below_step hB_ hb); clear HB; have HO502 := n0_; have HB := n1_; clear n0_ n1_; clear hb ho4) | ((with_reducible refine gate_builtin (b := .append) (xs := #[.tmp 3, .tmp 4]) rfl ?_); at_builtin; refine Kd.R_append_rows (Kd.int .i64) (w0 := w) w.heap.size rfl (.tmp 3) (.tmp 4) 22 2 (.int .i64 0) 8 rfl Try.underlying22 info2 rfl (by decide) (by omega) v501 y500 l0 _ _ _ (fun _ => True) (fun _ => False) rfl rfl ?aO ?aR (fun _ _ h => h) (fun _ h => h.elim) ?aF ?aB ?aS ?aL ?_; (case aR => repeat (first | exact (Kd.C_below HR0.out HB.out) | (with_reducible refine Kd.C_alloc ?_ _) | (with_reducible refine Kd.C_drewN ?_ _) | (with_reducible refine Kd.C_drew ?_))); (case aB => exact hB_); (case aF => exact (fun _ _ => trivial)); (case aO => exact rHO502_); (case aS => exact (below_size hB_)); (case aL => have := LMc2.out; omega); intro v504 w5 ho hb hg hat; rw [← Ny503.out] at ho; have n0_ := Aside0.mk (hb); have n1_ := Aside0.mk (ho); clear HB; clear HO502; have HB := n0_; have HO505 := n1_; clear n0_ n1_; clear ho hb hg hat))
  go_ret
  exact ⟨_, rG_, rHO505_, hB_⟩
 ·rw [if_neg c2] at H
  exact absurd H (by simp)

end Go.Proofs.Ytobfgnjdcoidoaa.X
namespace Go.Proofs.Ytobfgnjdcoidoaa.X
open Go.RowKit Go.Proofs.YtobfgnjdcoidoaaW.PrintWords Go.Proofs.YtobfgnjdcoidoaaW.PrintLast Go.Proofs.YtobfgnjdcoidoaaW.PrintMore
attribute [local go_sem] max2_int min2_int max_two min_two max_three min_three max_four min_four   -- for this text's walks alone
set_option linter.unusedVariables false
set_option linter.unusedSimpArgs false

/-! ### spec_l3Reach: function 39 -/
mutual
def spec_l3Reach.l0 : Nat → Int → List Int → List Int → List Int → Int → List (S80) → Option (List Int)
 | 0, _, _, _, _, _, _ => none
 | k + 1, x1, x5, x6, x507000, x507001, x507002 => if (x6.length : Int) > 0 then (if 0 < (x6.length : Int) then (if 1 ≤ (x6.length : Int) then ((spec_l1Copy.f (x6.drop 1)).bind fun t518 => (if (rd x6 0) = x1 then (spec_l3Reach.j1 k x1 x5 t518 (rd x6 0) true x507000 x507001 x507002) else ((spec_l1Has.f k x5 (rd x6 0)).bind fun t521 => (spec_l3Reach.j1 k x1 x5 t518 (rd x6 0) t521 x507000 x507001 x507002)))) else (none)) else (none)) else (some x5)
def spec_l3Reach.j1 : Nat → Int → List Int → List Int → Int → Bool → List Int → Int → List (S80) → Option (List Int)
 | 0, _, _, _, _, _, _, _, _ => none
 | k + 1, x1, x5, x6, x7, x29, x507000, x507001, x507002 => if x29 = true then (spec_l3Reach.l0 k x1 x5 x6 x507000 x507001 x507002) else ((spec_l1Put.f k x5 x7).bind fun t522 => ((spec_l3Succs.f x507000 x507001 x507002 x7).bind fun t525 => (if x6.length + t525.length < 17592186044416 then (spec_l3Reach.l0 k x1 t522 (x6 ++ t525) x507000 x507001 x507002) else (none))))
end
def spec_l3Reach.f (k : Nat) (l0_0 : List Int) (a0_1 : Int) (l0_2 : List (S80)) (a1 : Int) : Option (List Int) := (some (([] : List Int) : List Int)).bind fun y507 => (if a1 = 0 then (some y507) else (spec_l3Reach.l0 k a1 y507 (([0] : List Int)) l0_0 a0_1 l0_2))
theorem spec_l3Reach.mono_l : ∀ k, (∀ y0 y1 y2 y3 y4 y5, LeO (spec_l3Reach.l0 k y0 y1 y2 y3 y4 y5) (spec_l3Reach.l0 (k + 1) y0 y1 y2 y3 y4 y5)) ∧ (∀ y0 y1 y2 y3 y4 y5 y6 y7, LeO (spec_l3Reach.j1 k y0 y1 y2 y3 y4 y5 y6 y7) (spec_l3Reach.j1 (k + 1) y0 y1 y2 y3 y4 y5 y6 y7))
 | 0 => ⟨fun _ _ _ _ _ _ r h => by simp [spec_l3Reach.l0] at h, fun _ _ _ _ _ _ _ _ r h => by simp [spec_l3Reach.j1] at h⟩
 | k + 1 => by
  obtain ⟨ih0, ih1⟩ := spec_l3Reach.mono_l k
  refine ⟨?_, ?_⟩
  ·intro y0 y1 y2 y3 y4 y5
   unfold spec_l3Reach.l0
   repeat' first
   | (with_reducible exact ih0 _ _ _ _ _ _)
   | (with_reducible exact ih1 _ _ _ _ _ _ _ _)
   | (with_reducible exact spec_l1Has.mono _ _ _)
   | (with_reducible exact spec_l1Put.mono _ _ _)
   | (with_reducible exact LeO.refl _)
   | (with_reducible exact LeO.none _)
   | (with_reducible refine LeO.ite ?_ ?_)
   | (with_reducible refine LeO.bind ?_ (fun _ => ?_))
   | exact ih0 _ _ _ _ _ _
   | exact ih1 _ _ _ _ _ _ _ _
   | exact spec_l1Has.mono _ _ _
   | exact spec_l1Put.mono _ _ _
   | exact LeO.none _
   | refine LeO.ite ?_ ?_
   | refine LeO.bind ?_ (fun _ => ?_)
  ·intro y0 y1 y2 y3 y4 y5 y6 y7
   unfold spec_l3Reach.j1
   repeat' first
   | (with_reducible exact ih0 _ _ _ _ _ _)
   | (with_reducible exact ih1 _ _ _ _ _ _ _ _)
   | (with_reducible exact spec_l1Has.mono _ _ _)
   | (with_reducible exact spec_l1Put.mono _ _ _)
   | (with_reducible exact LeO.refl _)
   | (with_reducible exact LeO.none _)
   | (with_reducible refine LeO.ite ?_ ?_)
   | (with_reducible refine LeO.bind ?_ (fun _ => ?_))
   | exact ih0 _ _ _ _ _ _
   | exact ih1 _ _ _ _ _ _ _ _
   | exact spec_l1Has.mono _ _ _
   | exact spec_l1Put.mono _ _ _
   | exact LeO.none _
   | refine LeO.ite ?_ ?_
   | refine LeO.bind ?_ (fun _ => ?_)
theorem spec_l3Reach.mono : ∀ a0 a1 a2 a3 k, LeO (spec_l3Reach.f k a0 a1 a2 a3) (spec_l3Reach.f (k + 1) a0 a1 a2 a3) := by
 intro a0 a1 a2 a3 k
 obtain ⟨ih0, ih1⟩ := spec_l3Reach.mono_l k
 unfold spec_l3Reach.f
 repeat' first
   | (with_reducible exact ih0 _ _ _ _ _ _)
   | (with_reducible exact ih1 _ _ _ _ _ _ _ _)
   | (with_reducible exact spec_l1Has.mono _ _ _)
   | (with_reducible exact spec_l1Put.mono _ _ _)
   | (with_reducible exact LeO.refl _)
   | (with_reducible exact LeO.none _)
   | (with_reducible refine LeO.ite ?_ ?_)
   | (with_reducible refine LeO.bind ?_ (fun _ => ?_))
   | exact ih0 _ _ _ _ _ _
   | exact ih1 _ _ _ _ _ _ _ _
   | exact spec_l1Has.mono _ _ _
   | exact spec_l1Put.mono _ _ _
   | exact LeO.none _
   | refine LeO.ite ?_ ?_
   | refine LeO.bind ?_ (fun _ => ?_)
set_option maxHeartbeats 8000000 in
set_option maxRecDepth 100000 in
theorem spec_l3Reach.calls (k : Nat) (A0_0 : Option Addr) (c0_0 : Nat) (l0_0 : List Int) (a0_1 : Int) (A0_2 : Option Addr) (c0_2 : Nat) (l0_2 : List (S80)) (a1 : Int) (r : List Int) (w : World) (hr0_0 : Kd.C (Kd.int .i64) w A0_0 l0_0.length l0_0) (hc0_0 : l0_0.length ≤ c0_0) (hr0_2 : Kd.C k80 w A0_2 l0_2.length l0_2) (hc0_2 : l0_2.length ≤ c0_2) (h : spec_l3Reach.f k l0_0 a0_1 l0_2 a1 = some r) :
  Calls Try.prog 39 #[.agg #[.slice A0_0 l0_0.length c0_0, .int .i64 a0_1, .slice A0_2 l0_2.length c0_2], .int .i64 a1] w fun e w' => ∃ v0_ : Value, e = .returned (v0_) ∧ Kd.R (Kd.int .i64) 2 w' w.heap.size (fun _ => True) v0_ r ∧ Below w.heap.size w w' := by
 have hu30 := Try.underlying30
 have HR0_0 := Aside0.mk hr0_0
 have HC0_0 := Aside0.mk hc0_0
 clear hr0_0 hc0_0
 have HR0_2 := Aside0.mk hr0_2
 have HC0_2 := Aside0.mk hc0_2
 clear hr0_2 hc0_2
 have HB := Aside0.mk (Below.refl w.heap.size w)
 have H : ((some (([] : List Int) : List Int)).bind fun y507 => (if a1 = 0 then (some y507) else (spec_l3Reach.l0 k a1 y507 (([0] : List Int)) l0_0 a0_1 l0_2))) = some r := h
 clear h
 obtain ⟨y507, hy507⟩ : ∃ y_ : List Int, y_ = (([] : List Int)) := ⟨_, rfl⟩
 replace H : (if a1 = 0 then (some y507) else (spec_l3Reach.l0 k a1 y507 (([0] : List Int)) l0_0 a0_1 l0_2)) = some r := by first | (rw [hy507]; with_reducible exact H) | (have H2_ := (Option.bind_some _ _).symm.trans H; rw [hy507]; with_reducible exact H2_) | (have H2_ := (Option.bind_some _ _).symm.trans H; with_reducible exact H2_) | with_reducible exact H | (rw [hy507]; exact H) | exact H
 have Ny507 := Aside0.mk hy507
 clear hy507
 by_cases c3 : a1 = 0
 ·rw [if_pos c3] at H
  have c3b0 : (a1 == 0) = true := beq_iff_eq.mpr c3
  have c3b1 : (a1 != 0) = false := bne_eq_false_iff_eq.mpr c3
  clear c3
  obtain rfl := Option.some.inj H
  go_enter Try.func39, Try.ntmps39
  go_wp2_with (first | ((with_reducible refine gate_dst (N := 2) rfl ?_); refine box_event ?hg (N := 2) ?hd (cs := #[.slice A0_0 l0_0.length c0_0, .int .i64 a0_1, .slice A0_2 l0_2.length c0_2]) (t := 30) ?hr ?_; (case hd => rfl); (case hg => rfl); (case hr => first | (go_simp; done) | (go_simp; rfl)); intro gb506 hg w4 hbox hb; have n0_ := Aside0.mk (below_step hB_ hb); have n1_ := Aside0.mk (hbox); have n2_ := Aside0.mk ((by rw [hg]; exact (below_size hB_) : w.heap.size ≤ gb506)); have n3_ := Aside0.mk ((by rw [hg]; exact (below_size hB_) : w.heap.size ≤ gb506)); clear HB; have HB := n0_; have BK506 := n1_; have GW506 := n2_; have GE506 := n3_; clear n0_ n1_ n2_ n3_; clear hb hbox hg) | ((with_reducible refine gate_dst (N := 8) rfl ?_); refine Kd.R_lit (Kd.int .i64) _ 2 ?hg (N := 8) ?hd (xs := ([] : List Int)) (inner := []) (ok := fun _ => True) (okp := fun _ => True) ?hr ?hp (fun _ hk => hk) trivial (Below.refl _ _) (Nat.le_refl _) (by simp) ?_; (case hd => rfl); (case hg => rfl); (case hr => first | (go_simp; done) | (go_simp; rfl)); (case hp => exact (Reps.none _ _)); intro v508 w5 ho6 hb hg_ hnew_; clear hg_ hnew_; (first | rw [← Ny507.out] at ho6 | (simp only [Int.reduceToNat] at ho6; rw [← Ny507.out] at ho6)); have n0_ := Aside0.mk (Kd.R_lower ho6 (below_size hS_)); have n1_ := Aside0.mk (blk_below (g := gb506) (o := .cells #[.slice A0_0 l0_0.length c0_0, .int .i64 a0_1, .slice A0_2 l0_2.length c0_2] 30 (0, 0)) bK506_ hb); have n2_ := Aside0.mk (below_step hS_ hb); clear BK506; clear HB; have HO509 := n0_; have BK506 := n1_; have HB := n2_; clear n0_ n1_ n2_; clear hb ho6))
  go_ret
  exact ⟨_, rG_, rHO509_, hS_⟩
 ·rw [if_neg c3] at H
  have c3b0 : (a1 == 0) = false := beq_eq_false_iff_ne.mpr c3
  have c3b1 : (a1 != 0) = true := bne_iff_ne.mpr c3
  obtain ⟨y510, hy510⟩ : ∃ y_ : List Int, y_ = (([0] : List Int)) := ⟨_, rfl⟩
  replace H : (spec_l3Reach.l0 k a1 y507 y510 l0_0 a0_1 l0_2) = some r := by first | (rw [hy510]; with_reducible exact H) | (have H2_ := (Option.bind_some _ _).symm.trans H; rw [hy510]; with_reducible exact H2_) | (have H2_ := (Option.bind_some _ _).symm.trans H; with_reducible exact H2_) | with_reducible exact H | (rw [hy510]; exact H) | exact H
  have Ny510 := Aside0.mk hy510
  clear hy510
  have H' := Aside0.mk H
  clear H
  go_enter Try.func39, Try.ntmps39
  go_wp2_with (first | ((with_reducible refine gate_dst (N := 2) rfl ?_); refine box_event ?hg (N := 2) ?hd (cs := #[.slice A0_0 l0_0.length c0_0, .int .i64 a0_1, .slice A0_2 l0_2.length c0_2]) (t := 30) ?hr ?_; (case hd => rfl); (case hg => rfl); (case hr => first | (go_simp; done) | (go_simp; rfl)); intro gb506 hg w7 hbox hb; have n0_ := Aside0.mk (below_step hB_ hb); have n1_ := Aside0.mk (hbox); have n2_ := Aside0.mk ((by rw [hg]; exact (below_size hB_) : w.heap.size ≤ gb506)); have n3_ := Aside0.mk ((by rw [hg]; exact (below_size hB_) : w.heap.size ≤ gb506)); clear HB; have HB := n0_; have BK506 := n1_; have GW506 := n2_; have GE506 := n3_; clear n0_ n1_ n2_ n3_; clear hb hbox hg) | ((with_reducible refine gate_dst (N := 8) rfl ?_); refine Kd.R_lit (Kd.int .i64) _ 2 ?hg (N := 8) ?hd (xs := ([] : List Int)) (inner := []) (ok := fun _ => True) (okp := fun _ => True) ?hr ?hp (fun _ hk => hk) trivial (Below.refl _ _) (Nat.le_refl _) (by simp) ?_; (case hd => rfl); (case hg => rfl); (case hr => first | (go_simp; done) | (go_simp; rfl)); (case hp => exact (Reps.none _ _)); intro v508 w8 ho9 hb hg_ hnew_; clear hg_ hnew_; (first | rw [← Ny507.out] at ho9 | (simp only [Int.reduceToNat] at ho9; rw [← Ny507.out] at ho9)); have n0_ := Aside0.mk (Kd.R_lower ho9 (below_size hS_)); have n1_ := Aside0.mk (blk_below (g := gb506) (o := .cells #[.slice A0_0 l0_0.length c0_0, .int .i64 a0_1, .slice A0_2 l0_2.length c0_2] 30 (0, 0)) bK506_ hb); have n2_ := Aside0.mk (below_step hS_ hb); clear BK506; clear HB; have HO509 := n0_; have BK506 := n1_; have HB := n2_; clear n0_ n1_ n2_; clear hb ho9) | ((with_reducible refine gate_dst (N := 12) rfl ?_); refine Kd.R_lit (Kd.int .i64) _ 2 ?hg (N := 12) ?hd (xs := ([0] : List Int)) (inner := [.int .i64 0]) (ok := fun _ => True) (okp := fun _ => True) ?hr ?hp (fun _ hk => hk) trivial (Below.refl _ _) (Nat.le_refl _) (by simp) ?_; (case hd => rfl); (case hg => rfl); (case hr => first | (go_simp; done) | (go_simp; rfl)); (case hp => exact (Reps.one (show Kd.M (Kd.int .i64) _ _ _ 0 [.int .i64 0] from rfl) (Reps.none _ _))); intro v511 w10 ho11 hb hg_ hnew_; clear hg_ hnew_; (first | rw [← Ny510.out] at ho11 | (simp only [Int.reduceToNat] at ho11; rw [← Ny510.out] at ho11)); have n0_ := Aside0.mk (Kd.R_elder' rHO509_ (Kd.R_base ho11) hb); have n1_ := Aside0.mk (Kd.R_lower (Kd.R_new' ho11 (Kd.R_lt rHO509_)) (below_size hS_)); have n2_ := Aside0.mk (blk_below (g := gb506) (o := .cells #[.slice A0_0 l0_0.length c0_0, .int .i64 a0_1, .slice A0_2 l0_2.length c0_2] 30 (0, 0)) bK506_ hb); have n3_ := Aside0.mk (below_step hS_ hb); clear HO509; clear BK506; clear HB; have HO509 := n0_; have HO512 := n1_; have BK506 := n2_; have HB := n3_; clear n0_ n1_ n2_ n3_; clear hb ho11))
  go_loopg [5, 6] k (fun kq v5 v6 w' => ∃ (x5_1 : List Int) (x6_1 : List Int), Aside0 (spec_l3Reach.l0 kq a1 x5_1 x6_1 l0_0 a0_1 l0_2 = some r) ∧ Aside0 (kq ≤ k) ∧ Aside0 (Kd.R (Kd.int .i64) 2 w' w.heap.size (fun k_ => some k_ ≠ (v6 : Value).ownBlock) v5 x5_1) ∧ Aside0 (Kd.R (Kd.int .i64) 2 w' w.heap.size (fun k_ => some k_ ≠ (v5 : Value).ownBlock) v6 x6_1) ∧ Aside0 (w'.heap[gb506]? = some (.cells #[(.slice A0_0 l0_0.length c0_0), .int .i64 a0_1, (.slice A0_2 l0_2.length c0_2)] 30 (0, 0))) ∧ Aside0 (Below w.heap.size w w'))
  case atStart => exact ⟨(y507), (y510), H', ⟨Nat.le_refl _⟩, ⟨by (with_reducible repeat (first | apply Kd.R_alloc | apply Kd.R_drewN | apply Kd.R_drew)); exact Kd.R_mono HO509.out (fun _ hk => hk.2)⟩, ⟨by (with_reducible repeat (first | apply Kd.R_alloc | apply Kd.R_drewN | apply Kd.R_drew)); exact Kd.R_mono HO512.out (fun _ hk => hk.2)⟩, ⟨bK506_⟩, ⟨hS_⟩⟩
  case round =>
   clear H'
   try clear p2
   try clear c3
   try clear c3b0
   try clear c3b1
   obtain ⟨x5_1, x6_1, HA, HK1, HO_5, HO_6, BK506, HB⟩ := hrel
   cases gk with
   | zero => exact absurd HA.out (by simp [spec_l3Reach.l0])
   | succ k1 =>
    have H := HA.out
    clear HA
    simp only [spec_l3Reach.l0] at H
    by_cases c12 : (x6_1.length : Int) > 0
    ·rw [if_pos c12] at H
     have c12b0 : decide (0 < (x6_1.length : Int)) = true := decide_eq_true c12
     have c12b1 : decide (0 < x6_1.length) = true := decide_eq_true (by omega)
     clear c12
     by_cases c13 : 0 < (x6_1.length : Int)
     ·rw [if_pos c13] at H
      have c13b0 : decide (0 < (x6_1.length : Int)) = true := decide_eq_true c13
      have c13b1 : decide (0 < x6_1.length) = true := decide_eq_true (by omega)
      clear c13
      by_cases c14 : 1 ≤ (x6_1.length : Int)
      ·rw [if_pos c14] at H
       have c14b0 := eq_true c14
       have c14b1 : decide (1 ≤ (x6_1.length : Int)) = true := decide_eq_true c14
       clear c14
       obtain ⟨y514, hy514⟩ : ∃ y_ : List Int, y_ = (x6_1.drop 1) := ⟨_, rfl⟩
       replace H : ((spec_l1Copy.f y514).bind fun t518 => (if (rd x6_1 0) = a1 then (spec_l3Reach.j1 k1 a1 x5_1 t518 (rd x6_1 0) true l0_0 a0_1 l0_2) else ((spec_l1Has.f k1 x5_1 (rd x6_1 0)).bind fun t521 => (spec_l3Reach.j1 k1 a1 x5_1 t518 (rd x6_1 0) t521 l0_0 a0_1 l0_2)))) = some r := by first | (rw [hy514]; with_reducible exact H) | (have H2_ := (Option.bind_some _ _).symm.trans H; rw [hy514]; with_reducible exact H2_) | (have H2_ := (Option.bind_some _ _).symm.trans H; with_reducible exact H2_) | with_reducible exact H | (rw [hy514]; exact H) | exact H
       have Ny514 := Aside0.mk hy514
       clear hy514
       replace H := Option.bind_eq_some_iff.mp H
       obtain ⟨t518, A150, H⟩ := H
       replace H : (if (rd x6_1 0) = a1 then (spec_l3Reach.j1 k1 a1 x5_1 t518 (rd x6_1 0) true l0_0 a0_1 l0_2) else ((spec_l1Has.f k1 x5_1 (rd x6_1 0)).bind fun t521 => (spec_l3Reach.j1 k1 a1 x5_1 t518 (rd x6_1 0) t521 l0_0 a0_1 l0_2))) = some r := H
       have A15 := Aside0.mk A150
       clear A150
       have HC16 := Aside0.mk H
       clear H
       obtain ⟨Ao17, co17, eo17⟩ := Kd.R_slice HO_6.out
       subst eo17
       have p513 : 0 ≤ (0 : Int) := (by omega)
       have q513 : 0 < (x6_1.length : Int) := oD_
       obtain ⟨ad513, e513, hx513_0⟩ := Kd.at_int (Kd.R_reads' HO_6.out).2.2 0 p513 q513
       cases e513
       have qi513 : (0 < x6_1.length) = True := eq_true (by omega)
       (try rw [show ((0 : Int)).toNat = 0 from rfl] at hx513_0)
       (try rw [Addr.add_zero'] at hx513_0)
       replace p513 := eq_true p513
       replace q513 := eq_true q513
       have q18 : (1 : Int) ≤ ((x6_1.length : Int) : Int) := oD_
       obtain ⟨i018, hi018, _, hsz18, _⟩ := info_parts info2
       have hroom18 : x6_1.length ≤ co17 := (Kd.R_reads' HO_6.out).2.1
       have hC18 : Kd.C (Kd.int .i64) _ (some ad513) x6_1.length x6_1 := (Kd.R_reads' HO_6.out).2.2
       have hcut18 := cut_from (P := Try.prog) 22 2 .i64 Try.underlying22 hi018 1 hsz18 (some ad513) x6_1.length co17 1 (by omega) q18
       have hr18 := Kd.C_drop (m := (1 : Int).toNat) (c := co17) hC18 (by omega) hroom18
       obtain ⟨A18, hA18⟩ : ∃ A1, A1 = (if co17 = (1 : Int).toNat then (some ad513) else ((some ad513) : Option Addr).map (·.add ((1 : Int).toNat * 1))) := ⟨_, rfl⟩
       obtain ⟨c18, hc18⟩ : ∃ c1, c1 = co17 - (1 : Int).toNat := ⟨_, rfl⟩
       have hy18 : y514.length = x6_1.length - (1 : Int).toNat := (by rw [Ny514.out, List.length_drop] <;> omega)
       rw [show (x6_1).drop (1 : Int).toNat = y514 from Ny514.out.symm] at hr18
       replace hr18 : Kd.C (Kd.int .i64) _ A18 y514.length y514 := (by rw [hA18]; exact hr18)
       rw [← hy18, ← hA18, ← hc18] at hcut18
       have HR517 := Aside0.mk hr18
       have HC517 := Aside0.mk (show y514.length ≤ c18 from by rw [hy18, hc18]; exact Nat.sub_le_sub_right hroom18 _)
       clear hr18 hC18 hroom18 hi018 hsz18 hc18
       have KY18 := Aside0.mk hy18
       have KA18 := Aside0.mk hA18
       clear hy18 hA18
       have KL18 := Aside0.mk (show 1 ≤ x6_1.length from by omega)
       replace q18 := eq_true q18
       go_upto_region 8 with (first | ((with_reducible refine gate_callee (f := 64) rfl ?_); refine gL_ (some 21) Try.func64 #[.slice A18 y514.length c18] ?_; (with_reducible refine (spec_l1Copy.calls _ _ y514 t518 _ ?side1 ?side2 A15.out).mono ?_); (case side1 => repeat (first | exact (by repeat (first | (with_reducible exact HR517.out) | (with_reducible refine Kd.C_alloc ?_ _) | (with_reducible refine Kd.C_drewN ?_ _) | (with_reducible refine Kd.C_drew ?_) | exact HR517.out)) | (with_reducible refine Kd.C_alloc ?_ _) | (with_reducible refine Kd.C_drewN ?_ _) | (with_reducible refine Kd.C_drew ?_))); (case side2 => exact HC517.out); rintro e w19 ⟨v519, rfl, ho0, hb⟩; refine ⟨_, rfl, ?_⟩; have n0_ := Aside0.mk (Kd.R_elder' rHO_5_ (Kd.R_base ho0) hb); have n1_ := Aside0.mk (Kd.R_elder' rHO_6_ (Kd.R_base ho0) hb); have n2_ := Aside0.mk (Kd.R_lower (Kd.R_new' (Kd.R_new' ho0 (Kd.R_lt rHO_5_)) (Kd.R_lt rHO_6_)) (below_size hS_)); have n3_ := Aside0.mk (blk_below (g := gb506) (o := .cells #[.slice A0_0 l0_0.length c0_0, .int .i64 a0_1, .slice A0_2 l0_2.length c0_2] 30 (0, 0)) bK506_ hb); have n4_ := Aside0.mk (Kd.C_below (by repeat (first | (with_reducible exact HR517.out) | (with_reducible refine Kd.C_alloc ?_ _) | (with_reducible refine Kd.C_drewN ?_ _) | (with_reducible refine Kd.C_drew ?_) | exact HR517.out)) hb); have n5_ := Aside0.mk (below_step hS_ hb); clear HO_5; clear HO_6; clear BK506; clear HR517; clear HB; have HO_5 := n0_; have HO_6 := n1_; have HO520 := n2_; have BK506 := n3_; have HR517 := n4_; have HB := n5_; clear n0_ n1_ n2_ n3_ n4_ n5_; (try clear hb); (try clear hb2); (try clear hk); (try clear hi); (try clear ho0)))
       (try simp only [Act.put, List.setIfInBounds_toArray, List.set_cons_zero, List.set_cons_succ])
       go_cut [29] (fun v29 wc => ∃ (kq : Nat) (x29_15 : Bool), v29 = .bool x29_15 ∧ Aside0 (spec_l3Reach.j1 kq a1 x5_1 t518 (rd x6_1 0) x29_15 l0_0 a0_1 l0_2 = some r) ∧ Aside0 (kq ≤ k1) ∧ Aside0 (Kd.R (Kd.int .i64) 2 wc w.heap.size (fun k_ => some k_ ≠ (v519 : Value).ownBlock) u5 x5_1) ∧ Aside0 (Kd.R (Kd.int .i64) 2 wc w.heap.size (fun k_ => some k_ ≠ (u5 : Value).ownBlock) v519 t518) ∧ Aside0 (wc.heap[gb506]? = some (.cells #[(.slice A0_0 l0_0.length c0_0), .int .i64 a0_1, (.slice A0_2 l0_2.length c0_2)] 30 (0, 0))) ∧ Aside0 (Kd.C (Kd.int .i64) wc A18 y514.length y514) ∧ Aside0 (Below w.heap.size w wc))
       case first =>
        have H := HC16.out
        clear HC16
        by_cases c20 : (rd x6_1 0) = a1
        ·rw [if_pos c20] at H
         have c20b0 : ((rd x6_1 0) == a1) = true := beq_iff_eq.mpr c20
         have c20b1 : ((rd x6_1 0) != a1) = false := bne_eq_false_iff_eq.mpr c20
         clear c20
         (first | rw [c20b0] | (simp only [i64_w, i32_w]; rw [c20b0]) | skip)
         have H' := Aside0.mk H
         clear H
         go_wp2
         go_meet
         case rel => exact ⟨_, (true), rF_, H', ⟨by have := HK1.out; first | omega | exact Nat.le_refl _⟩, ⟨by (with_reducible repeat (first | apply Kd.R_alloc | apply Kd.R_drewN | apply Kd.R_drew)); exact Kd.R_mono HO_5.out (fun _ hk => hk.2)⟩, ⟨by (with_reducible repeat (first | apply Kd.R_alloc | apply Kd.R_drewN | apply Kd.R_drew)); exact Kd.R_mono HO520.out (fun _ hk => hk.1.2)⟩, ⟨bK506_⟩, ⟨by repeat (first | (with_reducible exact HR517.out) | (with_reducible refine Kd.C_alloc ?_ _) | (with_reducible refine Kd.C_drewN ?_ _) | (with_reducible refine Kd.C_drew ?_) | exact HR517.out)⟩, ⟨hS_⟩⟩
        ·rw [if_neg c20] at H
         have c20b0 : ((rd x6_1 0) == a1) = false := beq_eq_false_iff_ne.mpr c20
         have c20b1 : ((rd x6_1 0) != a1) = true := bne_iff_ne.mpr c20
         (first | rw [c20b0] | (simp only [i64_w, i32_w]; rw [c20b0]) | skip)
         replace H := Option.bind_eq_some_iff.mp H
         obtain ⟨t521, A210, H⟩ := H
         replace H : (spec_l3Reach.j1 k1 a1 x5_1 t518 (rd x6_1 0) t521 l0_0 a0_1 l0_2) = some r := H
         have A21 := Aside0.mk A210
         clear A210
         have H' := Aside0.mk H
         clear H
         obtain ⟨Ao22, co22, eo22⟩ := Kd.R_slice HO_5.out
         subst eo22
         go_wp2_with (first | (go_at_call 52; (with_reducible refine (spec_l1Has.calls k1 _ _ x5_1 (rd x6_1 0) t521 _ ?side1 ?side2 A21.out).mono ?_); (case side1 => repeat (first | exact (Kd.R_reads' HO_5.out).2.2 | (with_reducible refine Kd.C_alloc ?_ _) | (with_reducible refine Kd.C_drewN ?_ _) | (with_reducible refine Kd.C_drew ?_))); (case side2 => exact (Kd.R_reads' HO_5.out).2.1); rintro e w' ⟨rfl, ⟨nd, rfl⟩⟩))
         go_meet
         case rel => exact ⟨_, (t521), rF_, H', ⟨by have := HK1.out; first | omega | exact Nat.le_refl _⟩, ⟨by (with_reducible repeat (first | apply Kd.R_alloc | apply Kd.R_drewN | apply Kd.R_drew)); exact Kd.R_mono HO_5.out (fun _ hk => hk.2)⟩, ⟨by (with_reducible repeat (first | apply Kd.R_alloc | apply Kd.R_drewN | apply Kd.R_drew)); exact Kd.R_mono HO520.out (fun _ hk => hk.1.2)⟩, ⟨bK506_⟩, ⟨by repeat (first | (with_reducible exact HR517.out) | (with_reducible refine Kd.C_alloc ?_ _) | (with_reducible refine Kd.C_drewN ?_ _) | (with_reducible refine Kd.C_drew ?_) | exact HR517.out)⟩, ⟨hS_⟩⟩
       case rest =>
        clear HC16
        try clear c1
        try clear q1
        try clear c2
        try clear p2
        try clear c3
        try clear c3b0
        try clear c3b1
        try clear p5
        try clear q5
        try clear hx5
        try clear qi5
        try clear c6
        try clear c12
        try clear c12b0
        try clear c12b1
        try clear c13
        try clear c13b0
        try clear c13b1
        try clear c14
        try clear c14b0
        try clear c14b1
        try clear c18
        try clear q18
        try clear c20
        try clear c20b0
        try clear c20b1
        try clear hx513_0
        try clear p2
        try clear p513
        try clear q18
        try clear q513
        obtain ⟨kq, x29_15, rfl, HA, HJ15, HO_5, HO_6, BK506, HR517, HB⟩ := hcut
        cases kq with
        | zero => exact absurd HA.out (by simp [spec_l3Reach.j1])
        | succ kj15 =>
         have H := HA.out
         clear HA
         simp only [spec_l3Reach.j1] at H
         by_cases c23 : x29_15 = true
         ·subst c23
          have H1 := (if_pos rfl).symm.trans H
          clear H
          have H := H1
          clear H1
          have H' := Aside0.mk H
          clear H
          go_wp2
          go_roundg kj15
          case measure => have := HK1.out; have := HJ15.out; omega
          case rel => exact ⟨(x5_1), (t518), H', ⟨by have := HK1.out; have := HJ15.out; omega⟩, ⟨rHO_5_⟩, ⟨rHO_6_⟩, ⟨bK506_⟩, ⟨hS_⟩⟩
         ·replace c23 := Bool.eq_false_iff.mpr c23
          subst c23
          have H1 := (if_neg (show ¬ (false = true) by decide)).symm.trans H
          clear H
          have H := H1
          clear H1
          replace H := Option.bind_eq_some_iff.mp H
          obtain ⟨t522, A240, H⟩ := H
          replace H : ((spec_l3Succs.f l0_0 a0_1 l0_2 (rd x6_1 0)).bind fun t525 => (if t518.length + t525.length < 17592186044416 then (spec_l3Reach.l0 kj15 a1 t522 (t518 ++ t525) l0_0 a0_1 l0_2) else (none))) = some r := H
          have A24 := Aside0.mk A240
          clear A240
          replace H := Option.bind_eq_some_iff.mp H
          obtain ⟨t525, A250, H⟩ := H
          replace H : (if t518.length + t525.length < 17592186044416 then (spec_l3Reach.l0 kj15 a1 t522 (t518 ++ t525) l0_0 a0_1 l0_2) else (none)) = some r := H
          have A25 := Aside0.mk A250
          clear A250
          by_cases c26 : t518.length + t525.length < 17592186044416
          ·rw [if_pos c26] at H
           have LMc26 := Aside0.mk c26
           clear c26
           obtain ⟨y528, hy528⟩ : ∃ y_ : List Int, y_ = (t518 ++ t525) := ⟨_, rfl⟩
           replace H : (spec_l3Reach.l0 kj15 a1 t522 y528 l0_0 a0_1 l0_2) = some r := by first | (rw [hy528]; with_reducible exact H) | (have H2_ := (Option.bind_some _ _).symm.trans H; rw [hy528]; with_reducible exact H2_) | (have H2_ := (Option.bind_some _ _).symm.trans H; with_reducible exact H2_) | with_reducible exact H | (rw [hy528]; exact H) | exact H
           have Ny528 := Aside0.mk hy528
           clear hy528
           have H' := Aside0.mk H
           clear H
           obtain ⟨Ao27, co27, eo27⟩ := Kd.R_slice HO_5.out
           subst eo27
           go_wp2_with (first | ((with_reducible refine gate_callee (f := 59) rfl ?_); refine gL_ (some 32) Try.func59 #[.slice Ao27 x5_1.length co27, .int .i64 (rd x6_1 0)] ?_; (with_reducible refine (spec_l1Put.calls kj15 (fun k_ => some k_ = (.slice Ao27 x5_1.length co27 : Value).ownBlock) (.slice Ao27 x5_1.length co27) x5_1 (rd x6_1 0) t522 w _ ?side1 ?side2 A24.out).mono ?_); (case side1 => repeat (first | (with_reducible first | exact HB.out | apply below_alloc | apply pw_below_drewN | apply below_drew1 | refine below_set ?_ GE506.out) | exact HB.out)); (case side2 => exact Kd.R_tight rfl HO_5.out); rintro e w28 ⟨v523, rfl, ho0, hb, hkp⟩; refine ⟨_, rfl, ?_⟩; have n0_ := Aside0.mk (Kd.R_mono (ok' := fun k_ => some k_ ≠ (v523 : Value).ownBlock) (Kd.R_keptB (HO_6.out) hkp (fun k_ hk_ hs_ => (hk_) hs_)) (fun k_ hk_ => fun e_ => Or.elim (ho0.1 k_ e_.symm) (fun hs_ => hk_.2.1 hs_) (fun hn_ => Nat.not_le.2 hk_.2.2 hn_))); have n1_ := Aside0.mk (blk_kept bK506_ hkp (fun hs_ => (fun e_ => (Kd.R_ne HO_5.out BK506.out (by decide)) e_) hs_)); have n2_ := Aside0.mk (Kd.R_mono (ok' := fun k_ => some k_ ≠ (v519 : Value).ownBlock) ho0 (fun k_ hk_ => Or.elim hk_ (fun hs_ => fun e_ => (((HO_6.out).1 k_ e_.symm)) hs_) (fun hn_ => (Kd.fresh' (Kd.R_lt rHO_6_) k_ hn_)))); have n3_ := Aside0.mk (hb); clear HO_6; clear BK506; clear HB; clear HO_5; have HO_6 := n0_; have BK506 := n1_; have HO524 := n2_; have HB := n3_; clear n0_ n1_ n2_ n3_; (try clear hb); (try clear hkp); (try clear ho0); obtain ⟨hcz29_0, hcz29_1, hcz29_2, hfz29_0, hfz29_1, hfz29_2⟩ := blkc3_ BK506.out) | ((with_reducible refine gate_callee (f := 51) rfl ?_); refine gL_ (some 36) Try.func51 #[.agg #[.slice A0_0 l0_0.length c0_0, .int .i64 a0_1, .slice A0_2 l0_2.length c0_2], .int .i64 (rd x6_1 0)] ?_; (with_reducible refine (spec_l3Succs.calls _ _ l0_0 a0_1 _ _ l0_2 (rd x6_1 0) t525 _ ?side1 ?side2 ?side3 ?side4 A25.out).mono ?_); (case side1 => repeat (first | exact (Kd.C_below HR0_0.out HB.out) | (with_reducible refine Kd.C_alloc ?_ _) | (with_reducible refine Kd.C_drewN ?_ _) | (with_reducible refine Kd.C_drew ?_))); (case side2 => exact HC0_0.out); (case side3 => repeat (first | exact (Kd.C_below HR0_2.out HB.out) | (with_reducible refine Kd.C_alloc ?_ _) | (with_reducible refine Kd.C_drewN ?_ _) | (with_reducible refine Kd.C_drew ?_))); (case side4 => exact HC0_2.out); rintro e w30 ⟨v526, rfl, ho0, hb⟩; refine ⟨_, rfl, ?_⟩; have n0_ := Aside0.mk (Kd.R_elder' rHO_6_ (Kd.R_base ho0) hb); have n1_ := Aside0.mk (Kd.R_elder' rHO524_ (Kd.R_base ho0) hb); have n2_ := Aside0.mk (Kd.R_lower (Kd.R_new' (Kd.R_new' ho0 (Kd.R_lt rHO_6_)) (Kd.R_lt rHO524_)) (below_size hS_)); have n3_ := Aside0.mk (blk_below (g := gb506) (o := .cells #[.slice A0_0 l0_0.length c0_0, .int .i64 a0_1, .slice A0_2 l0_2.length c0_2] 30 (0, 0)) bK506_ hb); have n4_ := Aside0.mk (below_step hS_ hb); clear HO_6; clear HO524; clear BK506; clear HB; have HO_6 := n0_; have HO524 := n1_; have HO527 := n2_; have BK506 := n3_; have HB := n4_; clear n0_ n1_ n2_ n3_ n4_; (try clear hb); (try clear hb2); (try clear hk); (try clear hi); (try clear ho0); obtain ⟨Ao32, co32, eo32⟩ := Kd.R_slice HO527.out; subst eo32) | ((with_reducible refine gate_builtin (b := .append) (xs := #[.tmp 33, .tmp 36]) rfl ?_); at_builtin; refine Kd.R_append_rows (Kd.int .i64) (w0 := w) w.heap.size rfl (.tmp 33) (.tmp 36) 22 2 (.int .i64 0) 8 rfl Try.underlying22 info2 rfl (by decide) (by omega) v519 t518 t525 _ _ _ (fun k_ => some k_ ≠ (v523 : Value).ownBlock ∧ some k_ ≠ (.slice Ao32 t525.length co32 : Value).ownBlock) (fun _ => False) rfl rfl ?aO ?aR (fun _ _ h => h) (fun _ h => h.elim) ?aF ?aB ?aS ?aL ?_; (case aR => repeat (first | exact (Kd.R_reads' HO527.out).2.2 | (with_reducible refine Kd.C_alloc ?_ _) | (with_reducible refine Kd.C_drewN ?_ _) | (with_reducible refine Kd.C_drew ?_))); (case aB => exact hS_); (case aF => exact (fun k_ hk => ⟨Kd.fresh' (Kd.R_lt rHO524_) k_ hk, Kd.fresh' (Kd.R_lt rHO527_) k_ hk⟩)); (case aO => exact rHO_6_); (case aS => exact (below_size hS_)); (case aL => have := LMc26.out; omega); intro v529 w31 ho hb hg hat; rw [← Ny528.out] at ho; have n0_ := Aside0.mk (blk_grown (g := gb506) (o := .cells #[.slice A0_0 l0_0.length c0_0, .int .i64 a0_1, .slice A0_2 l0_2.length c0_2] 30 (0, 0)) bK506_ hg (Kd.R_ne HO_6.out BK506.out (by decide))); have n1_ := Aside0.mk (Kd.R_after (ok := (fun k_ => some k_ ≠ (.slice Ao32 t525.length co32 : Value).ownBlock)) (by (with_reducible repeat (first | apply Kd.R_alloc | apply Kd.R_drewN | apply Kd.R_drew)); exact Kd.R_mono HO524.out (fun _ hk => ⟨hk.2, hk.1⟩)) hg hat); have n2_ := Aside0.mk (Kd.R_after (ok := (fun k_ => some k_ ≠ (v523 : Value).ownBlock)) (by (with_reducible repeat (first | apply Kd.R_alloc | apply Kd.R_drewN | apply Kd.R_drew)); exact Kd.R_mono HO527.out (fun _ hk => ⟨hk.2, hk.1.2⟩)) hg hat); have n3_ := Aside0.mk (hb); have n4_ := Aside0.mk (ho); clear BK506; clear HO524; clear HO527; clear HB; clear HO_6; have BK506 := n0_; have HO524 := n1_; have HO527 := n2_; have HB := n3_; have HO530 := n4_; clear n0_ n1_ n2_ n3_ n4_; clear ho hb hg hat))
           go_roundg kj15
           case measure => have := HK1.out; have := HJ15.out; omega
           case rel => exact ⟨(t522), (y528), H', ⟨by have := HK1.out; have := HJ15.out; omega⟩, ⟨by (with_reducible repeat (first | apply Kd.R_alloc | apply Kd.R_drewN | apply Kd.R_drew)); exact Kd.R_mono HO524.out (fun _ hk => hk.2)⟩, ⟨by (with_reducible repeat (first | apply Kd.R_alloc | apply Kd.R_drewN | apply Kd.R_drew)); exact Kd.R_mono HO530.out (fun _ hk => hk.1)⟩, ⟨bK506_⟩, ⟨hS_⟩⟩
          ·rw [if_neg c26] at H
           exact absurd H (by simp)
      ·rw [if_neg c14] at H
       exact absurd H (by simp)
     ·rw [if_neg c13] at H
      exact absurd H (by simp)
    ·rw [if_neg c12] at H
     have c12b0 : decide (0 < (x6_1.length : Int)) = false := decide_eq_false c12
     have c12b1 : decide (0 < x6_1.length) = false := decide_eq_false (by omega)
     clear c12
     obtain rfl := Option.some.inj H
     obtain ⟨Ao33, co33, eo33⟩ := Kd.R_slice HO_6.out
     subst eo33
     go_wp2
     go_ret
     exact ⟨_, rG_, by (with_reducible repeat (first | apply Kd.R_alloc | apply Kd.R_drewN | apply Kd.R_drew)); exact Kd.R_mono HO_5.out (fun _ hk => trivial), hS_⟩

end Go.Proofs.Ytobfgnjdcoidoaa.X
namespace Go.Proofs.Ytobfgnjdcoidoaa.X
open Go.RowKit Go.Proofs.YtobfgnjdcoidoaaW.PrintWords Go.Proofs.YtobfgnjdcoidoaaW.PrintLast Go.Proofs.YtobfgnjdcoidoaaW.PrintMore
attribute [local go_sem] max2_int min2_int max_two min_two max_three min_three max_four min_four   -- for this text's walks alone
set_option linter.unusedVariables false
set_option linter.unusedSimpArgs false

/-! ### spec_Reached: function 18 -/
def spec_Reached.f (k : Nat) (l0_0 : List Int) (a0_1 : Int) (l0_2 : List (S80)) : Option (List Int) := (spec_l3There.f k l0_0 a0_1 l0_2 0).bind fun t532 => (if t532 = true then ((spec_l3Reach.f k l0_0 a0_1 l0_2 (-1)).bind fun t533 => (some t533)) else (some (([] : List Int))))
theorem spec_Reached.mono : ∀ a0 a1 a2 k, LeO (spec_Reached.f k a0 a1 a2) (spec_Reached.f (k + 1) a0 a1 a2) := by
 intro a0 a1 a2 k
 unfold spec_Reached.f
 repeat' first
   | (with_reducible exact spec_l3Reach.mono _ _ _ _ _)
   | (with_reducible exact spec_l3There.mono _ _ _ _ _)
   | (with_reducible exact LeO.refl _)
   | (with_reducible exact LeO.none _)
   | (with_reducible refine LeO.ite ?_ ?_)
   | (with_reducible refine LeO.bind ?_ (fun _ => ?_))
   | exact spec_l3Reach.mono _ _ _ _ _
   | exact spec_l3There.mono _ _ _ _ _
   | exact LeO.none _
   | refine LeO.ite ?_ ?_
   | refine LeO.bind ?_ (fun _ => ?_)
set_option maxHeartbeats 8000000 in
set_option maxRecDepth 100000 in
theorem spec_Reached.calls (k : Nat) (A0_0 : Option Addr) (c0_0 : Nat) (l0_0 : List Int) (a0_1 : Int) (A0_2 : Option Addr) (c0_2 : Nat) (l0_2 : List (S80)) (r : List Int) (w : World) (hr0_0 : Kd.C (Kd.int .i64) w A0_0 l0_0.length l0_0) (hc0_0 : l0_0.length ≤ c0_0) (hr0_2 : Kd.C k80 w A0_2 l0_2.length l0_2) (hc0_2 : l0_2.length ≤ c0_2) (h : spec_Reached.f k l0_0 a0_1 l0_2 = some r) :
  Calls Try.prog 18 #[.agg #[.slice A0_0 l0_0.length c0_0, .int .i64 a0_1, .slice A0_2 l0_2.length c0_2]] w fun e w' => ∃ v0_ : Value, e = .returned (v0_) ∧ Kd.R (Kd.int .i64) 2 w' w.heap.size (fun _ => True) v0_ r ∧ Below w.heap.size w w' := by
 have hu30 := Try.underlying30
 have HR0_0 := Aside0.mk hr0_0
 have HC0_0 := Aside0.mk hc0_0
 clear hr0_0 hc0_0
 have HR0_2 := Aside0.mk hr0_2
 have HC0_2 := Aside0.mk hc0_2
 clear hr0_2 hc0_2
 have HB := Aside0.mk (Below.refl w.heap.size w)
 have H : ((spec_l3There.f k l0_0 a0_1 l0_2 0).bind fun t532 => (if t532 = true then ((spec_l3Reach.f k l0_0 a0_1 l0_2 (-1)).bind fun t533 => (some t533)) else (some (([] : List Int))))) = some r := h
 clear h
 replace H := Option.bind_eq_some_iff.mp H
 obtain ⟨t532, A20, H⟩ := H
 replace H : (if t532 = true then ((spec_l3Reach.f k l0_0 a0_1 l0_2 (-1)).bind fun t533 => (some t533)) else (some (([] : List Int)))) = some r := H
 have A2 := Aside0.mk A20
 clear A20
 by_cases c3 : t532 = true
 ·subst c3
  have H1 := (if_pos rfl).symm.trans H
  clear H
  have H := H1
  clear H1
  replace H := Option.bind_eq_some_iff.mp H
  obtain ⟨t533, A40, H⟩ := H
  replace H : (some t533) = some r := H
  have A4 := Aside0.mk A40
  clear A40
  obtain rfl := Option.some.inj H
  go_enter Try.func18, Try.ntmps18
  go_wp2_with (first | ((with_reducible refine gate_dst (N := 1) rfl ?_); refine box_event ?hg (N := 1) ?hd (cs := #[.slice A0_0 l0_0.length c0_0, .int .i64 a0_1, .slice A0_2 l0_2.length c0_2]) (t := 30) ?hr ?_; (case hd => rfl); (case hg => rfl); (case hr => first | (go_simp; done) | (go_simp; rfl)); intro gb531 hg w5 hbox hb; have n0_ := Aside0.mk (below_step hB_ hb); have n1_ := Aside0.mk (hbox); have n2_ := Aside0.mk ((by rw [hg]; exact (below_size hB_) : w.heap.size ≤ gb531)); have n3_ := Aside0.mk ((by rw [hg]; exact (below_size hB_) : w.heap.size ≤ gb531)); clear HB; have HB := n0_; have BK531 := n1_; have GW531 := n2_; have GE531 := n3_; clear n0_ n1_ n2_ n3_; clear hb hbox hg; obtain ⟨hcz6_0, hcz6_1, hcz6_2, hfz6_0, hfz6_1, hfz6_2⟩ := blkc3_ BK531.out) | ((with_reducible refine gate_callee (f := 27) rfl ?_); refine gL_ (some 4) Try.func27 #[.agg #[.slice A0_0 l0_0.length c0_0, .int .i64 a0_1, .slice A0_2 l0_2.length c0_2], .int .i64 0] ?_; (with_reducible refine (spec_l3There.calls k _ _ l0_0 a0_1 _ _ l0_2 0 true _ ?side1 ?side2 ?side3 ?side4 A2.out).mono ?_); (case side1 => repeat (first | exact (Kd.C_below HR0_0.out HB.out) | (with_reducible refine Kd.C_alloc ?_ _) | (with_reducible refine Kd.C_drewN ?_ _) | (with_reducible refine Kd.C_drew ?_))); (case side2 => exact HC0_0.out); (case side3 => repeat (first | exact (Kd.C_below HR0_2.out HB.out) | (with_reducible refine Kd.C_alloc ?_ _) | (with_reducible refine Kd.C_drewN ?_ _) | (with_reducible refine Kd.C_drew ?_))); (case side4 => exact HC0_2.out); rintro e w7 ⟨rfl, hb⟩; refine ⟨_, rfl, ?_⟩; have n0_ := Aside0.mk (blk_below (g := gb531) (o := .cells #[.slice A0_0 l0_0.length c0_0, .int .i64 a0_1, .slice A0_2 l0_2.length c0_2] 30 (0, 0)) bK531_ hb); have n1_ := Aside0.mk (below_step hS_ hb); clear BK531; clear HB; have BK531 := n0_; have HB := n1_; clear n0_ n1_; (try clear hb); (try clear hb2); (try clear hk); (try clear hi); obtain ⟨hcz8_0, hcz8_1, hcz8_2, hfz8_0, hfz8_1, hfz8_2⟩ := blkc3_ BK531.out) | ((with_reducible refine gate_callee (f := 39) rfl ?_); refine gL_ (some 8) Try.func39 #[.agg #[.slice A0_0 l0_0.length c0_0, .int .i64 a0_1, .slice A0_2 l0_2.length c0_2], .int .i64 (-1)] ?_; (with_reducible refine (spec_l3Reach.calls k _ _ l0_0 a0_1 _ _ l0_2 (-1) t533 _ ?side1 ?side2 ?side3 ?side4 A4.out).mono ?_); (case side1 => repeat (first | exact (Kd.C_below HR0_0.out HB.out) | (with_reducible refine Kd.C_alloc ?_ _) | (with_reducible refine Kd.C_drewN ?_ _) | (with_reducible refine Kd.C_drew ?_))); (case side2 => exact HC0_0.out); (case side3 => repeat (first | exact (Kd.C_below HR0_2.out HB.out) | (with_reducible refine Kd.C_alloc ?_ _) | (with_reducible refine Kd.C_drewN ?_ _) | (with_reducible refine Kd.C_drew ?_))); (case side4 => exact HC0_2.out); rintro e w9 ⟨v534, rfl, ho0, hb⟩; refine ⟨_, rfl, ?_⟩; have n0_ := Aside0.mk (Kd.R_lower ho0 (below_size hS_)); have n1_ := Aside0.mk (blk_below (g := gb531) (o := .cells #[.slice A0_0 l0_0.length c0_0, .int .i64 a0_1, .slice A0_2 l0_2.length c0_2] 30 (0, 0)) bK531_ hb); have n2_ := Aside0.mk (below_step hS_ hb); clear BK531; clear HB; have HO535 := n0_; have BK531 := n1_; have HB := n2_; clear n0_ n1_ n2_; (try clear hb); (try clear hb2); (try clear hk); (try clear hi); (try clear ho0)))
  go_ret
  exact ⟨_, rG_, rHO535_, hS_⟩
 ·replace c3 := Bool.eq_false_iff.mpr c3
  subst c3
  have H1 := (if_neg (show ¬ (false = true) by decide)).symm.trans H
  clear H
  have H := H1
  clear H1
  obtain ⟨y536, hy536⟩ : ∃ y_ : List Int, y_ = (([] : List Int)) := ⟨_, rfl⟩
  replace H : (some y536) = some r := by first | (rw [hy536]; with_reducible exact H) | (have H2_ := (Option.bind_some _ _).symm.trans H; rw [hy536]; with_reducible exact H2_) | (have H2_ := (Option.bind_some _ _).symm.trans H; with_reducible exact H2_) | with_reducible exact H | (rw [hy536]; exact H) | exact H
  have Ny536 := Aside0.mk hy536
  clear hy536
  obtain rfl := Option.some.inj H
  go_enter Try.func18, Try.ntmps18
  go_wp2_with (first | ((with_reducible refine gate_dst (N := 1) rfl ?_); refine box_event ?hg (N := 1) ?hd (cs := #[.slice A0_0 l0_0.length c0_0, .int .i64 a0_1, .slice A0_2 l0_2.length c0_2]) (t := 30) ?hr ?_; (case hd => rfl); (case hg => rfl); (case hr => first | (go_simp; done) | (go_simp; rfl)); intro gb531 hg w10 hbox hb; have n0_ := Aside0.mk (below_step hB_ hb); have n1_ := Aside0.mk (hbox); have n2_ := Aside0.mk ((by rw [hg]; exact (below_size hB_) : w.heap.size ≤ gb531)); have n3_ := Aside0.mk ((by rw [hg]; exact (below_size hB_) : w.heap.size ≤ gb531)); clear HB; have HB := n0_; have BK531 := n1_; have GW531 := n2_; have GE531 := n3_; clear n0_ n1_ n2_ n3_; clear hb hbox hg; obtain ⟨hcz11_0, hcz11_1, hcz11_2, hfz11_0, hfz11_1, hfz11_2⟩ := blkc3_ BK531.out) | ((with_reducible refine gate_callee (f := 27) rfl ?_); refine gL_ (some 4) Try.func27 #[.agg #[.slice A0_0 l0_0.length c0_0, .int .i64 a0_1, .slice A0_2 l0_2.length c0_2], .int .i64 0] ?_; (with_reducible refine (spec_l3There.calls k _ _ l0_0 a0_1 _ _ l0_2 0 false _ ?side1 ?side2 ?side3 ?side4 A2.out).mono ?_); (case side1 => repeat (first | exact (Kd.C_below HR0_0.out HB.out) | (with_reducible refine Kd.C_alloc ?_ _) | (with_reducible refine Kd.C_drewN ?_ _) | (with_reducible refine Kd.C_drew ?_))); (case side2 => exact HC0_0.out); (case side3 => repeat (first | exact (Kd.C_below HR0_2.out HB.out) | (with_reducible refine Kd.C_alloc ?_ _) | (with_reducible refine Kd.C_drewN ?_ _) | (with_reducible refine Kd.C_drew ?_))); (case side4 => exact HC0_2.out); rintro e w12 ⟨rfl, hb⟩; refine ⟨_, rfl, ?_⟩; have n0_ := Aside0.mk (blk_below (g := gb531) (o := .cells #[.slice A0_0 l0_0.length c0_0, .int .i64 a0_1, .slice A0_2 l0_2.length c0_2] 30 (0, 0)) bK531_ hb); have n1_ := Aside0.mk (below_step hS_ hb); clear BK531; clear HB; have BK531 := n0_; have HB := n1_; clear n0_ n1_; (try clear hb); (try clear hb2); (try clear hk); (try clear hi)) | ((with_reducible refine gate_dst (N := 6) rfl ?_); refine Kd.R_lit (Kd.int .i64) _ 2 ?hg (N := 6) ?hd (xs := ([] : List Int)) (inner := []) (ok := fun _ => True) (okp := fun _ => True) ?hr ?hp (fun _ hk => hk) trivial (Below.refl _ _) (Nat.le_refl _) (by simp) ?_; (case hd => rfl); (case hg => rfl); (case hr => first | (go_simp; done) | (go_simp; rfl)); (case hp => exact (Reps.none _ _)); intro v537 w13 ho14 hb hg_ hnew_; clear hg_ hnew_; (first | rw [← Ny536.out] at ho14 | (simp only [Int.reduceToNat] at ho14; rw [← Ny536.out] at ho14)); have n0_ := Aside0.mk (Kd.R_lower ho14 (below_size hS_)); have n1_ := Aside0.mk (blk_below (g := gb531) (o := .cells #[.slice A0_0 l0_0.length c0_0, .int .i64 a0_1, .slice A0_2 l0_2.length c0_2] 30 (0, 0)) bK531_ hb); have n2_ := Aside0.mk (below_step hS_ hb); clear BK531; clear HB; have HO538 := n0_; have BK531 := n1_; have HB := n2_; clear n0_ n1_ n2_; clear hb ho14))
  go_ret
  exact ⟨_, rG_, rHO538_, hS_⟩

end Go.Proofs.Ytobfgnjdcoidoaa.X
namespace Go.Proofs.Ytobfgnjdcoidoaa.X
open Go.RowKit Go.Proofs.YtobfgnjdcoidoaaW.PrintWords Go.Proofs.YtobfgnjdcoidoaaW.PrintLast Go.Proofs.YtobfgnjdcoidoaaW.PrintMore
attribute [local go_sem] max2_int min2_int max_two min_two max_three min_three max_four min_four   -- for this text's walks alone
set_option linter.unusedVariables false
set_option linter.unusedSimpArgs false

/-! ### impl_within: function 45 -/
def impl_within.f (a0 : Int) (a1 : Int) (a2 : Int) : Option (Bool) := if a0 ≥ a1 then (some (decide (a0 ≤ a2))) else (some false)
set_option maxHeartbeats 8000000 in
set_option maxRecDepth 100000 in
theorem impl_within.calls (a0 : Int) (a1 : Int) (a2 : Int) (r : Bool) (w : World) (h : impl_within.f a0 a1 a2 = some r) :
  Calls Try.prog 45 #[.int .i64 a0, .int .i64 a1, .int .i64 a2] w fun e w' => e = .returned (.bool r) ∧ Drawn0 w w' := by
 have H : (if a0 ≥ a1 then (some (decide (a0 ≤ a2))) else (some false)) = some r := h
 clear h
 by_cases c4 : a0 ≥ a1
 ·rw [if_pos c4] at H
  have c4b0 : decide (a1 ≤ a0) = true := decide_eq_true c4
  clear c4
  obtain rfl := Option.some.inj H
  go_enter Try.func45, Try.ntmps45
  go_wp2
  go_ret
  exact ⟨rF_, by repeat (first | exact Drawn0.refl _ | apply Drawn0.step)⟩
 ·rw [if_neg c4] at H
  have c4b0 : decide (a1 ≤ a0) = false := decide_eq_false c4
  clear c4
  obtain rfl := Option.some.inj H
  go_enter Try.func45, Try.ntmps45
  go_wp2
  go_ret
  exact ⟨rF_, by repeat (first | exact Drawn0.refl _ | apply Drawn0.step)⟩

end Go.Proofs.Ytobfgnjdcoidoaa.X
namespace Go.Proofs.Ytobfgnjdcoidoaa.X
open Go.RowKit Go.Proofs.YtobfgnjdcoidoaaW.PrintWords Go.Proofs.YtobfgnjdcoidoaaW.PrintLast Go.Proofs.YtobfgnjdcoidoaaW.PrintMore
attribute [local go_sem] max2_int min2_int max_two min_two max_three min_three max_four min_four   -- for this text's walks alone
set_option linter.unusedVariables false
set_option linter.unusedSimpArgs false

/-! ### slices_IndexFunc_impl_Block_impl_Block: function 89 -/
set_option maxHeartbeats 4000000 in
set_option maxRecDepth 100000 in
theorem slices_IndexFunc_impl_Block_impl_Block.by_ (p : S80 → Bool) (g : Nat) (lb : Array Value) (eg : ∀ args w, (callFunc g args).run Try.prog w = .ok (.enter g args) w) (A : Option Addr) (c : Nat) (l : List S80) (w : World)
  (hr : Kd.C k80 w A l.length l)
  (hp : ∀ (W : World) (x : S80) (cs : List Value), Below w.heap.size w W → x ∈ l → Kd.K k80 W x cs → Calls Try.prog g (#[(.agg cs.toArray)] ++ lb) W fun e w' => e = .returned (.bool (p x)) ∧ Below W.heap.size W w') :
  Calls Try.prog 89 #[.slice A l.length c, .func (.func g) #[] lb] w fun e w' => ∃ r : Int, e = .returned (.int .i64 r) ∧ decide (0 ≤ r) = l.any p ∧ Below w.heap.size w w' := by
 have hu := Try.underlying80
 have HR := Aside0.mk hr
 have HP := Aside0.mk hp
 have hlen := Aside0.mk hr.2.1
 clear hr hp
 go_enter Try.func89, Try.ntmps89
 go_wp2
 go_loopg [5, 8] l.length (fun gg _ s8 wr => ∃ x8 : Int, s8 = .int .i64 x8 ∧ Aside0 (0 ≤ x8 ∧ x8 ≤ l.length ∧ l.length - x8 ≤ gg) ∧ Aside0 (Below w.heap.size w wr) ∧ Aside0 (∀ j (h : j < l.length), (j : Int) < x8 → p l[j] = false))
 case atStart => exact ⟨0, rfl, ⟨by omega⟩, ⟨Below.refl _ w⟩, ⟨fun j _ hj => by omega⟩⟩
 case round =>
  obtain ⟨x8, rfl, X, BW, AA⟩ := hrel
  by_cases hlt : x8 < (l.length : Int)
  ·have hj : x8.toNat < l.length := by have := X.out; omega
   have hrd : rd_T80 l x8 = l[x8.toNat] := by simp [rd_T80, List.getD, List.getElem?_eq_getElem hj]
   obtain ⟨ad, A0, c0, A1, c1, e0, g0, g1, g2, g3, g4, g5, l0, i0, l1, i1⟩ := at_T80 HR.out x8 X.out.1 hlt
   subst e0
   replace g0 := (BW.out.cell (World.block_lt_of_cell? w _ g0)).trans g0
   replace g1 := (BW.out.cell (World.block_lt_of_cell? w _ g1)).trans g1
   replace g2 := (BW.out.cell (World.block_lt_of_cell? w _ g2)).trans g2
   replace g3 := (BW.out.cell (World.block_lt_of_cell? w _ g3)).trans g3
   replace g4 := (BW.out.cell (World.block_lt_of_cell? w _ g4)).trans g4
   replace g5 := (BW.out.cell (World.block_lt_of_cell? w _ g5)).trans g5
   have hcall := HP.out wr (rd_T80 l x8) _ BW.out (by rw [hrd]; exact List.getElem_mem hj) (k80_mk _ _ l0 (Kd.C_below i0 BW.out) l1 (Kd.C_below i1 BW.out))
   generalize hy : rd_T80 l x8 = y at *
   clear l0 i0 l1 i1
   generalize hq : p y = q at hcall
   have hne := Aside0.mk (p := 0 ≤ x8 ∧ x8 < (l.length : Int)) ⟨X.out.1, hlt⟩
   have c1 : decide (x8 < (l.length : Int)) = true := decide_eq_true hlt
   have hi0 := eq_true X.out.1
   have hi1 := eq_true hlt
   have HQ := Aside0.mk (show ∃ h : x8.toNat < l.length, p l[x8.toNat] = q from ⟨hj, by rw [← hrd]; exact hq⟩)
   clear hy hq hrd hj hlt
   cases q with
   | true =>
    go_wp2_with (go_at_fn g; refine hcall.mono ?_; rintro e w' ⟨rfl, hb'⟩)
    go_ret
    obtain ⟨hj, hq⟩ := HQ.out
    exact ⟨_, rfl, by rw [decide_eq_true hne.out.1]; exact (List.any_eq_true.2 ⟨_, List.getElem_mem hj, hq⟩).symm, below_step BW.out hb'⟩
   | false =>
    go_wp2_with (go_at_fn g; refine hcall.mono ?_; rintro e w' ⟨rfl, hb'⟩)
    have hw : wrap64 (x8 + 1) = x8 + 1 := by have := hne.out; have := hlen.out; unfold wrap64; omega
    go_roundg (gk - 1)
    case measure => have := X.out; have := hne.out; omega
    case rel =>
     refine ⟨x8 + 1, by first | rfl | rw [hw], ⟨by have := X.out; have := hne.out; clear hw; omega⟩, ⟨below_step BW.out hb'⟩, ⟨fun j hj hlt => ?_⟩⟩
     obtain ⟨hj', hq⟩ := HQ.out
     by_cases e : (j : Int) < x8
     ·exact AA.out j hj e
     ·have e' : j = x8.toNat := by have := hne.out; clear hw; omega
      subst e'; exact hq
  ·have c1 : decide (x8 < (l.length : Int)) = false := decide_eq_false hlt
   have hx : x8 = l.length := by have := X.out; omega
   have ha := Aside0.mk (show decide (0 ≤ (-1 : Int)) = l.any p from by
    symm; simp only [show decide (0 ≤ (-1 : Int)) = false from rfl, List.any_eq_false]
    intro x hx'
    obtain ⟨j, hj, rfl⟩ := List.getElem_of_mem hx'
    simp [AA.out j hj (by omega)])
   clear hx hlt
   go_wp2
   go_ret
   exact ⟨_, rfl, ha.out, BW.out⟩

end Go.Proofs.Ytobfgnjdcoidoaa.X
namespace Go.Proofs.Ytobfgnjdcoidoaa.X
open Go.RowKit Go.Proofs.YtobfgnjdcoidoaaW.PrintWords Go.Proofs.YtobfgnjdcoidoaaW.PrintLast Go.Proofs.YtobfgnjdcoidoaaW.PrintMore
attribute [local go_sem] max2_int min2_int max_two min_two max_three min_three max_four min_four   -- for this text's walks alone
set_option linter.unusedVariables false
set_option linter.unusedSimpArgs false

/-! ### slices_ContainsFunc_impl_Block_impl_Block: function 60 -/
set_option maxHeartbeats 4000000 in
theorem slices_ContainsFunc_impl_Block_impl_Block.by_ (p : S80 → Bool) (g : Nat) (lb : Array Value) (eg : ∀ args w, (callFunc g args).run Try.prog w = .ok (.enter g args) w) (A : Option Addr) (c : Nat) (l : List S80) (w : World)
  (hr : Kd.C k80 w A l.length l)
  (hp : ∀ (W : World) (x : S80) (cs : List Value), Below w.heap.size w W → x ∈ l → Kd.K k80 W x cs → Calls Try.prog g (#[(.agg cs.toArray)] ++ lb) W fun e w' => e = .returned (.bool (p x)) ∧ Below W.heap.size W w') :
  Calls Try.prog 60 #[.slice A l.length c, .func (.func g) #[] lb] w fun e w' => e = .returned (.bool (l.any p)) ∧ Below w.heap.size w w' := by
 go_enter Try.func60, Try.ntmps60
 go_wp2_with (go_at_call 89; refine (slices_IndexFunc_impl_Block_impl_Block.by_ p g lb eg A c l _ hr hp).mono ?_; rintro e w' ⟨r, rfl, hd, hb'⟩)
 go_ret
 exact ⟨by rw [← hd] <;> rfl, hb'⟩

end Go.Proofs.Ytobfgnjdcoidoaa.X
namespace Go.Proofs.Ytobfgnjdcoidoaa.X
open Go.RowKit Go.Proofs.YtobfgnjdcoidoaaW.PrintWords Go.Proofs.YtobfgnjdcoidoaaW.PrintLast Go.Proofs.YtobfgnjdcoidoaaW.PrintMore
attribute [local go_sem] max2_int min2_int max_two min_two max_three min_three max_four min_four   -- for this text's walks alone
set_option linter.unusedVariables false
set_option linter.unusedSimpArgs false

/-! ### impl_leadsTo: function 55 -/
def impl_leadsTo.f (a0_0 : Int) (a0_1 : Int) (a0_2 : Int) (a0_3 : Int) : Option (List Int) := if a0_0 = 2 then (some (([a0_2] : List Int))) else (if a0_0 = 3 then (some (([a0_2, a0_3] : List Int))) else (some ([] : List Int)))
set_option maxHeartbeats 8000000 in
set_option maxRecDepth 100000 in
theorem impl_leadsTo.calls (a0_0 : Int) (a0_1 : Int) (a0_2 : Int) (a0_3 : Int) (r : List Int) (w : World) (h : impl_leadsTo.f a0_0 a0_1 a0_2 a0_3 = some r) :
  Calls Try.prog 55 #[.agg #[.int .i64 a0_0, .int .i64 a0_1, .int .i64 a0_2, .int .i64 a0_3]] w fun e w' => ∃ v0_ : Value, e = .returned (v0_) ∧ Kd.R (Kd.int .i64) 2 w' w.heap.size (fun _ => True) v0_ r ∧ Below w.heap.size w w' := by
 have hu78 := Try.underlying78
 have HB := Aside0.mk (Below.refl w.heap.size w)
 have H : (if a0_0 = 2 then (some (([a0_2] : List Int))) else (if a0_0 = 3 then (some (([a0_2, a0_3] : List Int))) else (some ([] : List Int)))) = some r := h
 clear h
 by_cases c2 : a0_0 = 2
 ·rw [if_pos c2] at H
  have c2b0 : (a0_0 == 2) = true := beq_iff_eq.mpr c2
  have c2b1 : (a0_0 != 2) = false := bne_eq_false_iff_eq.mpr c2
  clear c2
  obtain ⟨y237, hy237⟩ : ∃ y_ : List Int, y_ = (([a0_2] : List Int)) := ⟨_, rfl⟩
  replace H : (some y237) = some r := by first | (rw [hy237]; with_reducible exact H) | (have H2_ := (Option.bind_some _ _).symm.trans H; rw [hy237]; with_reducible exact H2_) | (have H2_ := (Option.bind_some _ _).symm.trans H; with_reducible exact H2_) | with_reducible exact H | (rw [hy237]; exact H) | exact H
  have Ny237 := Aside0.mk hy237
  clear hy237
  obtain rfl := Option.some.inj H
  go_enter Try.func55, Try.ntmps55
  go_wp2_with (first | ((with_reducible refine gate_dst (N := 1) rfl ?_); refine box_event ?hg (N := 1) ?hd (cs := #[.int .i64 a0_0, .int .i64 a0_1, .int .i64 a0_2, .int .i64 a0_3]) (t := 78) ?hr ?_; (case hd => rfl); (case hg => rfl); (case hr => first | (go_simp; done) | (go_simp; rfl)); intro gb236 hg w3 hbox hb; have n0_ := Aside0.mk (below_step hB_ hb); have n1_ := Aside0.mk (hbox); have n2_ := Aside0.mk ((by rw [hg]; exact (below_size hB_) : w.heap.size ≤ gb236)); have n3_ := Aside0.mk ((by rw [hg]; exact (below_size hB_) : w.heap.size ≤ gb236)); clear HB; have HB := n0_; have BK236 := n1_; have GW236 := n2_; have GE236 := n3_; clear n0_ n1_ n2_ n3_; clear hb hbox hg; obtain ⟨hcz4_0, hcz4_1, hcz4_2, hcz4_3, hfz4_0, hfz4_1, hfz4_2, hfz4_3⟩ := blkc4_ BK236.out) | ((with_reducible refine gate_dst (N := 9) rfl ?_); refine Kd.R_lit (Kd.int .i64) _ 2 ?hg (N := 9) ?hd (xs := ([a0_2] : List Int)) (inner := [.int .i64 a0_2]) (ok := fun _ => True) (okp := fun _ => True) ?hr ?hp (fun _ hk => hk) trivial (Below.refl _ _) (Nat.le_refl _) (by simp) ?_; (case hd => rfl); (case hg => rfl); (case hr => first | (go_simp; done) | (go_simp; rfl)); (case hp => exact (Reps.one (show Kd.M (Kd.int .i64) _ _ _ a0_2 [.int .i64 a0_2] from rfl) (Reps.none _ _))); intro v238 w5 ho6 hb hg_ hnew_; clear hg_ hnew_; (first | rw [← Ny237.out] at ho6 | (simp only [Int.reduceToNat] at ho6; rw [← Ny237.out] at ho6)); have n0_ := Aside0.mk (Kd.R_lower ho6 (below_size hS_)); have n1_ := Aside0.mk (blk_below (g := gb236) (o := .cells #[.int .i64 a0_0, .int .i64 a0_1, .int .i64 a0_2, .int .i64 a0_3] 78 (0, 0)) bK236_ hb); have n2_ := Aside0.mk (below_step hS_ hb); clear BK236; clear HB; have HO239 := n0_; have BK236 := n1_; have HB := n2_; clear n0_ n1_ n2_; clear hb ho6))
  go_ret
  exact ⟨_, rG_, rHO239_, hS_⟩
 ·rw [if_neg c2] at H
  have c2b0 : (a0_0 == 2) = false := beq_eq_false_iff_ne.mpr c2
  have c2b1 : (a0_0 != 2) = true := bne_iff_ne.mpr c2
  by_cases c7 : a0_0 = 3
  ·rw [if_pos c7] at H
   have c7b0 : (a0_0 == 3) = true := beq_iff_eq.mpr c7
   have c7b1 : (a0_0 != 3) = false := bne_eq_false_iff_eq.mpr c7
   clear c7
   obtain ⟨y240, hy240⟩ : ∃ y_ : List Int, y_ = (([a0_2, a0_3] : List Int)) := ⟨_, rfl⟩
   replace H : (some y240) = some r := by first | (rw [hy240]; with_reducible exact H) | (have H2_ := (Option.bind_some _ _).symm.trans H; rw [hy240]; with_reducible exact H2_) | (have H2_ := (Option.bind_some _ _).symm.trans H; with_reducible exact H2_) | with_reducible exact H | (rw [hy240]; exact H) | exact H
   have Ny240 := Aside0.mk hy240
   clear hy240
   obtain rfl := Option.some.inj H
   go_enter Try.func55, Try.ntmps55
   go_wp2_with (first | ((with_reducible refine gate_dst (N := 1) rfl ?_); refine box_event ?hg (N := 1) ?hd (cs := #[.int .i64 a0_0, .int .i64 a0_1, .int .i64 a0_2, .int .i64 a0_3]) (t := 78) ?hr ?_; (case hd => rfl); (case hg => rfl); (case hr => first | (go_simp; done) | (go_simp; rfl)); intro gb236 hg w8 hbox hb; have n0_ := Aside0.mk (below_step hB_ hb); have n1_ := Aside0.mk (hbox); have n2_ := Aside0.mk ((by rw [hg]; exact (below_size hB_) : w.heap.size ≤ gb236)); have n3_ := Aside0.mk ((by rw [hg]; exact (below_size hB_) : w.heap.size ≤ gb236)); clear HB; have HB := n0_; have BK236 := n1_; have GW236 := n2_; have GE236 := n3_; clear n0_ n1_ n2_ n3_; clear hb hbox hg; obtain ⟨hcz9_0, hcz9_1, hcz9_2, hcz9_3, hfz9_0, hfz9_1, hfz9_2, hfz9_3⟩ := blkc4_ BK236.out) | ((with_reducible refine gate_dst (N := 16) rfl ?_); refine Kd.R_lit (Kd.int .i64) _ 2 ?hg (N := 16) ?hd (xs := ([a0_2, a0_3] : List Int)) (inner := [.int .i64 a0_2, .int .i64 a0_3]) (ok := fun _ => True) (okp := fun _ => True) ?hr ?hp (fun _ hk => hk) trivial (Below.refl _ _) (Nat.le_refl _) (by simp) ?_; (case hd => rfl); (case hg => rfl); (case hr => first | (go_simp; done) | (go_simp; rfl)); (case hp => exact (Reps.one (show Kd.M (Kd.int .i64) _ _ _ a0_2 [.int .i64 a0_2] from rfl) (Reps.one (show Kd.M (Kd.int .i64) _ _ _ a0_3 [.int .i64 a0_3] from rfl) (Reps.none _ _)))); intro v241 w10 ho11 hb hg_ hnew_; clear hg_ hnew_; (first | rw [← Ny240.out] at ho11 | (simp only [Int.reduceToNat] at ho11; rw [← Ny240.out] at ho11)); have n0_ := Aside0.mk (Kd.R_lower ho11 (below_size hS_)); have n1_ := Aside0.mk (blk_below (g := gb236) (o := .cells #[.int .i64 a0_0, .int .i64 a0_1, .int .i64 a0_2, .int .i64 a0_3] 78 (0, 0)) bK236_ hb); have n2_ := Aside0.mk (below_step hS_ hb); clear BK236; clear HB; have HO242 := n0_; have BK236 := n1_; have HB := n2_; clear n0_ n1_ n2_; clear hb ho11))
   go_ret
   exact ⟨_, rG_, rHO242_, hS_⟩
  ·rw [if_neg c7] at H
   have c7b0 : (a0_0 == 3) = false := beq_eq_false_iff_ne.mpr c7
   have c7b1 : (a0_0 != 3) = true := bne_iff_ne.mpr c7
   obtain rfl := Option.some.inj H
   go_enter Try.func55, Try.ntmps55
   go_wp2_with (first | ((with_reducible refine gate_dst (N := 1) rfl ?_); refine box_event ?hg (N := 1) ?hd (cs := #[.int .i64 a0_0, .int .i64 a0_1, .int .i64 a0_2, .int .i64 a0_3]) (t := 78) ?hr ?_; (case hd => rfl); (case hg => rfl); (case hr => first | (go_simp; done) | (go_simp; rfl)); intro gb236 hg w12 hbox hb; have n0_ := Aside0.mk (below_step hB_ hb); have n1_ := Aside0.mk (hbox); have n2_ := Aside0.mk ((by rw [hg]; exact (below_size hB_) : w.heap.size ≤ gb236)); have n3_ := Aside0.mk ((by rw [hg]; exact (below_size hB_) : w.heap.size ≤ gb236)); clear HB; have HB := n0_; have BK236 := n1_; have GW236 := n2_; have GE236 := n3_; clear n0_ n1_ n2_ n3_; clear hb hbox hg; obtain ⟨hcz13_0, hcz13_1, hcz13_2, hcz13_3, hfz13_0, hfz13_1, hfz13_2, hfz13_3⟩ := blkc4_ BK236.out))
   go_ret
   exact ⟨_, rG_, by first | exact Kd.R_nil _ _ _ _ _ | exact Kd.N_nil _ _ _ _ _ | exact Kd.V_nil _ _ _ _ _ | exact Kd.Q_nil _ _ _ _ _ | exact Kd.S_nil _ _ _ _ _, hS_⟩

end Go.Proofs.Ytobfgnjdcoidoaa.X
namespace Go.Proofs.Ytobfgnjdcoidoaa.X
open Go.RowKit Go.Proofs.YtobfgnjdcoidoaaW.PrintWords Go.Proofs.YtobfgnjdcoidoaaW.PrintLast Go.Proofs.YtobfgnjdcoidoaaW.PrintMore
attribute [local go_sem] max2_int min2_int max_two min_two max_three min_three max_four min_four   -- for this text's walks alone
set_option linter.unusedVariables false
set_option linter.unusedSimpArgs false

/-! ### slices_IndexFunc_int64_int64: function 90 -/
set_option maxHeartbeats 4000000 in
set_option maxRecDepth 100000 in
theorem slices_IndexFunc_int64_int64.by_ (p : Int → Bool) (g : Nat) (lb : Array Value) (eg : ∀ args w, (callFunc g args).run Try.prog w = .ok (.enter g args) w) (A : Option Addr) (c : Nat) (l : List Int) (w : World)
  (hr : Kd.C (Kd.int .i64) w A l.length l)
  (hp : ∀ (W : World) (x : Int) (cs : List Value), Below w.heap.size w W → x ∈ l → Kd.K (Kd.int .i64) W x cs → Calls Try.prog g (#[(cs.getD 0 .nilFunc)] ++ lb) W fun e w' => e = .returned (.bool (p x)) ∧ Below W.heap.size W w') :
  Calls Try.prog 90 #[.slice A l.length c, .func (.func g) #[] lb] w fun e w' => ∃ r : Int, e = .returned (.int .i64 r) ∧ decide (0 ≤ r) = l.any p ∧ Below w.heap.size w w' := by
 have HR := Aside0.mk hr
 have HP := Aside0.mk hp
 have hlen := Aside0.mk hr.2.1
 clear hr hp
 go_enter Try.func90, Try.ntmps90
 go_wp2
 go_loopg [5, 8] l.length (fun gg _ s8 wr => ∃ x8 : Int, s8 = .int .i64 x8 ∧ Aside0 (0 ≤ x8 ∧ x8 ≤ l.length ∧ l.length - x8 ≤ gg) ∧ Aside0 (Below w.heap.size w wr) ∧ Aside0 (∀ j (h : j < l.length), (j : Int) < x8 → p l[j] = false))
 case atStart => exact ⟨0, rfl, ⟨by omega⟩, ⟨Below.refl _ w⟩, ⟨fun j _ hj => by omega⟩⟩
 case round =>
  obtain ⟨x8, rfl, X, BW, AA⟩ := hrel
  by_cases hlt : x8 < (l.length : Int)
  ·have hj : x8.toNat < l.length := by have := X.out; omega
   obtain ⟨ad, cs, e0, hcl, hK, hcell⟩ := Kd.C_get HR.out 0 x8 X.out.1 hlt
   have hrd : l.getD x8.toNat 0 = l[x8.toNat] := by simp [List.getD, List.getElem?_eq_getElem hj]
   subst e0
   have hK' := hK
   simp only [Kd.int, Kd.bool, Kd.string, Kd.scalar] at hK'
   subst hK'
   have g0 := hcell 0 _ rfl
   clear hcell hcl
   simp only [show Kd.sz (Kd.int .i64) = 1 from rfl, Nat.mul_one, Nat.add_zero] at g0
   replace g0 := (BW.out.cell (World.block_lt_of_cell? w _ g0)).trans g0
   have hcall := HP.out wr _ _ BW.out (by rw [hrd]; exact List.getElem_mem hj) (Kd.K_below _ BW.out hK)
   clear hK
   simp only [List.getD_cons_zero] at hcall
   generalize hy : l.getD x8.toNat 0 = y at *
   generalize hq : p y = q at hcall
   have hne := Aside0.mk (p := 0 ≤ x8 ∧ x8 < (l.length : Int)) ⟨X.out.1, hlt⟩
   have c1 : decide (x8 < (l.length : Int)) = true := decide_eq_true hlt
   have hi0 := eq_true X.out.1
   have hi1 := eq_true hlt
   have HQ := Aside0.mk (show ∃ h : x8.toNat < l.length, p l[x8.toNat] = q from ⟨hj, by rw [← hrd]; exact hq⟩)
   clear hy hq hrd hj hlt
   cases q with
   | true =>
    go_wp2_with (go_at_fn g; refine hcall.mono ?_; rintro e w' ⟨rfl, hb'⟩)
    go_ret
    obtain ⟨hj, hq⟩ := HQ.out
    exact ⟨_, rfl, by rw [decide_eq_true hne.out.1]; exact (List.any_eq_true.2 ⟨_, List.getElem_mem hj, hq⟩).symm, below_step BW.out hb'⟩
   | false =>
    go_wp2_with (go_at_fn g; refine hcall.mono ?_; rintro e w' ⟨rfl, hb'⟩)
    have hw : wrap64 (x8 + 1) = x8 + 1 := by have := hne.out; have := hlen.out; unfold wrap64; omega
    go_roundg (gk - 1)
    case measure => have := X.out; have := hne.out; omega
    case rel =>
     refine ⟨x8 + 1, by first | rfl | rw [hw], ⟨by have := X.out; have := hne.out; clear hw; omega⟩, ⟨below_step BW.out hb'⟩, ⟨fun j hj hlt => ?_⟩⟩
     obtain ⟨hj', hq⟩ := HQ.out
     by_cases e : (j : Int) < x8
     ·exact AA.out j hj e
     ·have e' : j = x8.toNat := by have := hne.out; clear hw; omega
      subst e'; exact hq
  ·have c1 : decide (x8 < (l.length : Int)) = false := decide_eq_false hlt
   have hx : x8 = l.length := by have := X.out; omega
   have ha := Aside0.mk (show decide (0 ≤ (-1 : Int)) = l.any p from by
    symm; simp only [show decide (0 ≤ (-1 : Int)) = false from rfl, List.any_eq_false]
    intro x hx'
    obtain ⟨j, hj, rfl⟩ := List.getElem_of_mem hx'
    simp [AA.out j hj (by omega)])
   clear hx hlt
   go_wp2
   go_ret
   exact ⟨_, rfl, ha.out, BW.out⟩

end Go.Proofs.Ytobfgnjdcoidoaa.X
namespace Go.Proofs.Ytobfgnjdcoidoaa.X
open Go.RowKit Go.Proofs.YtobfgnjdcoidoaaW.PrintWords Go.Proofs.YtobfgnjdcoidoaaW.PrintLast Go.Proofs.YtobfgnjdcoidoaaW.PrintMore
attribute [local go_sem] max2_int min2_int max_two min_two max_three min_three max_four min_four   -- for this text's walks alone
set_option linter.unusedVariables false
set_option linter.unusedSimpArgs false

/-! ### slices_ContainsFunc_int64_int64: function 62 -/
set_option maxHeartbeats 4000000 in
theorem slices_ContainsFunc_int64_int64.by_ (p : Int → Bool) (g : Nat) (lb : Array Value) (eg : ∀ args w, (callFunc g args).run Try.prog w = .ok (.enter g args) w) (A : Option Addr) (c : Nat) (l : List Int) (w : World)
  (hr : Kd.C (Kd.int .i64) w A l.length l)
  (hp : ∀ (W : World) (x : Int) (cs : List Value), Below w.heap.size w W → x ∈ l → Kd.K (Kd.int .i64) W x cs → Calls Try.prog g (#[(cs.getD 0 .nilFunc)] ++ lb) W fun e w' => e = .returned (.bool (p x)) ∧ Below W.heap.size W w') :
  Calls Try.prog 62 #[.slice A l.length c, .func (.func g) #[] lb] w fun e w' => e = .returned (.bool (l.any p)) ∧ Below w.heap.size w w' := by
 go_enter Try.func62, Try.ntmps62
 go_wp2_with (go_at_call 90; refine (slices_IndexFunc_int64_int64.by_ p g lb eg A c l _ hr hp).mono ?_; rintro e w' ⟨r, rfl, hd, hb'⟩)
 go_ret
 exact ⟨by rw [← hd] <;> rfl, hb'⟩

end Go.Proofs.Ytobfgnjdcoidoaa.X
namespace Go.Proofs.Ytobfgnjdcoidoaa.X
open Go.RowKit Go.Proofs.YtobfgnjdcoidoaaW.PrintWords Go.Proofs.YtobfgnjdcoidoaaW.PrintLast Go.Proofs.YtobfgnjdcoidoaaW.PrintMore
attribute [local go_sem] max2_int min2_int max_two min_two max_three min_three max_four min_four   -- for this text's walks alone
set_option linter.unusedVariables false
set_option linter.unusedSimpArgs false

/-! ### impl_isGraph: function 36 -/
def impl_isGraph.far (n z : Int) : Bool := !decide (0 ≤ z ∧ z ≤ wrap64 (n - 1))
def impl_isGraph.ends (b : S80) : List Int := if b.f2.f0 = 2 then [b.f2.f2] else if b.f2.f0 = 3 then [b.f2.f2, b.f2.f3] else []
def impl_isGraph.f (l0 : List Int) (a1 : Int) (l2 : List S80) : Option Bool := some (decide (1 ≤ (l2.length : Int) ∧ (l2.length : Int) ≤ 10) && !(l2.any fun b => (impl_isGraph.ends b).any (impl_isGraph.far (l2.length : Int))))
theorem impl_isGraph.within (a b c : Int) : impl_within.f a b c = some (decide (b ≤ a ∧ a ≤ c)) := by
 unfold impl_within.f
 by_cases h : a ≥ b
 ·rw [if_pos h]; have h' : b ≤ a := h; simp [h']
 ·rw [if_neg h]; have h' : ¬ b ≤ a := h; simp [h']
theorem impl_isGraph.leads (b : S80) : impl_leadsTo.f b.f2.f0 b.f2.f1 b.f2.f2 b.f2.f3 = some (impl_isGraph.ends b) := by
 unfold impl_leadsTo.f impl_isGraph.ends
 split
 ·rfl
 ·split <;> rfl
set_option maxHeartbeats 4000000 in
set_option maxRecDepth 100000 in
theorem impl_isGraph.in2 (n z : Int) (g : Nat) (w : World) (hc : w.cell? ⟨g, 0, none⟩ = some (.int .i64 n)) :
  Calls Try.prog 63 #[.int .i64 z, .pointer (some ⟨g, 0, none⟩)] w fun e w' => e = .returned (.bool (impl_isGraph.far n z)) ∧ Below w.heap.size w w' := by
 have hmf : ∀ (fn : Fn) (first cap : Array Value) (w : World), (Instr.makeFunc fn first cap).run Try.prog w = .ok (.func fn first cap) w := fun _ _ _ _ => rfl
 go_enter Try.func63, Try.ntmps63
 go_wp2_with (go_at_call 45; refine (impl_within.calls z 0 (wrap64 (n - 1)) _ _ (impl_isGraph.within _ _ _)).mono ?_; rintro e w' ⟨rfl, hd⟩; have HB := hd.below)
 go_ret
 exact ⟨by simp [impl_isGraph.far], HB⟩
set_option maxHeartbeats 8000000 in
set_option maxRecDepth 100000 in
theorem impl_isGraph.in1 (n : Int) (b : S80) (cs : List Value) (g : Nat) (w : World) (hK : Kd.K k80 w b cs) (hc : w.cell? ⟨g, 0, none⟩ = some (.int .i64 n)) :
  Calls Try.prog 61 #[.agg cs.toArray, .pointer (some ⟨g, 0, none⟩)] w fun e w' => e = .returned (.bool ((impl_isGraph.ends b).any (impl_isGraph.far n))) ∧ Below w.heap.size w w' := by
 have hu88 := Try.underlying80
 have hu86 := Try.underlying78
 obtain ⟨A0, c0, A1, c1, rfl, -, -, -, -⟩ := k80_open hK
 have HB := Aside0.mk (Below.refl w.heap.size w)
 have HC := Aside0.mk hc
 clear hc hK
 have eg : ∀ args w, (callFunc 63 args).run Try.prog w = .ok (.enter 63 args) w := fun args w => enters_ Try.func63 (by kernel_rfl) rfl args w
 have hmf : ∀ (fn : Fn) (first cap : Array Value) (w : World), (Instr.makeFunc fn first cap).run Try.prog w = .ok (.func fn first cap) w := fun _ _ _ _ => rfl
 go_enter Try.func61, Try.ntmps61
 go_wp2_with (first
  | ((with_reducible refine gate_dst (N := 2) rfl ?_); refine box_event ?hg (N := 2) ?hd (cs := #[.slice A0 b.f0.length c0, .slice A1 b.f1.length c1, .int .i64 b.f2.f0, .int .i64 b.f2.f1, .int .i64 b.f2.f2, .int .i64 b.f2.f3]) (t := 80) ?hr ?_; (case hd => rfl); (case hg => rfl); (case hr => first | (go_simp; done) | (go_simp; rfl)); intro gb hg w2 hbox hb; have n0_ := Aside0.mk (below_step HB.out hb); have n1_ := Aside0.mk ((hb.cell (World.block_lt_of_cell? w _ HC.out)).trans HC.out); clear HB HC; have HB := n0_; have HC := n1_; clear n0_ n1_ hg; have hz2 : w2.cell? ⟨gb, 2, none⟩ = some (.int .i64 b.f2.f0) := (blk_cell hbox 2).trans rfl; have hz3 : w2.cell? ⟨gb, 3, none⟩ = some (.int .i64 b.f2.f1) := (blk_cell hbox 3).trans rfl; have hz4 : w2.cell? ⟨gb, 4, none⟩ = some (.int .i64 b.f2.f2) := (blk_cell hbox 4).trans rfl; have hz5 : w2.cell? ⟨gb, 5, none⟩ = some (.int .i64 b.f2.f3) := (blk_cell hbox 5).trans rfl; clear hbox hb)
  | (go_at_call 55; refine (impl_leadsTo.calls _ _ _ _ _ _ (impl_isGraph.leads b)).mono ?_; rintro e w3 ⟨v0, rfl, hr, hb⟩; obtain ⟨A2, c2, rfl, hl2, hC2⟩ := Kd.R_reads hr; have n0_ := Aside0.mk (below_step HB.out hb); have n1_ := Aside0.mk ((hb.cell (World.block_lt_of_cell? _ _ HC.out)).trans HC.out); clear HB HC; have HB := n0_; have HC := n1_; have HR := Aside0.mk hC2; clear n0_ n1_ hC2 hl2 hr hb hz2 hz3 hz4 hz5)
  | (go_at_call 62; refine (slices_ContainsFunc_int64_int64.by_ (impl_isGraph.far n) 63 #[.pointer (some ⟨g, 0, none⟩)] eg _ _ _ _ HR.out ?hp).mono ?_; (case hp => intro W x cs hW _ hx; obtain rfl : cs = [.int .i64 x] := hx; exact impl_isGraph.in2 n x g W ((hW.cell (World.block_lt_of_cell? _ _ HC.out)).trans HC.out)); rintro e w4 ⟨rfl, hb⟩; have n0_ := Aside0.mk (below_step HB.out hb); clear HB; have HB := n0_; clear n0_ hb))
 go_ret
 exact ⟨rfl, HB.out⟩
set_option maxHeartbeats 8000000 in
set_option maxRecDepth 100000 in
theorem impl_isGraph.calls (A0_0 : Option Addr) (c0_0 : Nat) (l0_0 : List Int) (a0_1 : Int) (A0_2 : Option Addr) (c0_2 : Nat) (l0_2 : List S80) (r : Bool) (w : World) (hr0_0 : Kd.C (Kd.int .i64) w A0_0 l0_0.length l0_0) (hc0_0 : l0_0.length ≤ c0_0) (hr0_2 : Kd.C k80 w A0_2 l0_2.length l0_2) (hc0_2 : l0_2.length ≤ c0_2) (h : impl_isGraph.f l0_0 a0_1 l0_2 = some r) :
  Calls Try.prog 36 #[.agg #[.slice A0_0 l0_0.length c0_0, .int .i64 a0_1, .slice A0_2 l0_2.length c0_2]] w fun e w' => e = .returned (.bool r) ∧ Below w.heap.size w w' := by
 have hu41 := Try.underlying30
 have eg : ∀ args w, (callFunc 61 args).run Try.prog w = .ok (.enter 61 args) w := fun args w => enters_ Try.func61 (by kernel_rfl) rfl args w
 have hmf : ∀ (fn : Fn) (first cap : Array Value) (w : World), (Instr.makeFunc fn first cap).run Try.prog w = .ok (.func fn first cap) w := fun _ _ _ _ => rfl
 obtain rfl := Option.some.inj h
 have HB := Aside0.mk (Below.refl w.heap.size w)
 have HR := Aside0.mk hr0_2
 clear hr0_0 hr0_2 hc0_0 hc0_2 h
 by_cases hn : 1 ≤ (l0_2.length : Int) ∧ (l0_2.length : Int) ≤ 10
 ·have hw : impl_within.f (l0_2.length : Int) 1 10 = some true := by rw [impl_isGraph.within, decide_eq_true hn]
  have hd : decide (1 ≤ (l0_2.length : Int) ∧ (l0_2.length : Int) ≤ 10) = true := decide_eq_true hn
  have HW := Aside0.mk hw
  have HD := Aside0.mk hd
  clear hn hw hd
  go_enter Try.func36, Try.ntmps36
  go_wp2_with (first
   | ((with_reducible refine gate_dst (N := 1) rfl ?_); refine box_event ?hg (N := 1) ?hd (cs := #[.slice A0_0 l0_0.length c0_0, .int .i64 a0_1, .slice A0_2 l0_2.length c0_2]) (t := 30) ?hr ?_; (case hd => rfl); (case hg => rfl); (case hr => first | (go_simp; done) | (go_simp; rfl)); intro gb hg w2 hbox hb; have n0_ := Aside0.mk (below_step HB.out hb); have BK := Aside0.mk hbox; clear HB; have HB := n0_; clear n0_ hg hb; have hz2 : w2.cell? ⟨gb, 2, none⟩ = some (.slice A0_2 l0_2.length c0_2) := (blk_cell BK.out 2).trans rfl; clear hbox)
   | ((with_reducible refine gate_dst (N := 3) rfl ?_); refine box_event ?hg (N := 3) ?hd (cs := #[.int .i64 0]) (t := 2) ?hr ?_; (case hd => rfl); (case hg => rfl); (case hr => first | (go_simp; done) | (go_simp; rfl)); intro gn hg w3 hbox hb; have NE := Aside0.mk (show gb ≠ gn by rw [hg]; exact Nat.ne_of_lt (blk_lt BK.out)); have n0_ := Aside0.mk (below_step HB.out hb); have n1_ := Aside0.mk (blk_below BK.out hb); have GE := Aside0.mk (show w.heap.size ≤ gn by rw [hg]; exact below_size HB.out); clear HB BK hz2; have HB := n0_; have BK := n1_; have BN := Aside0.mk hbox; clear n0_ n1_ hg hb; have hfn := blk_frozen hbox 0; have hzn : w3.cell? ⟨gn, 0, none⟩ = some (.int .i64 0) := (blk_cell hbox 0).trans rfl; clear hbox)
   | (go_at_call 45; refine (impl_within.calls _ _ _ _ _ HW.out).mono ?_; rintro e w5 ⟨rfl, hd⟩; have n0_ := Aside0.mk (below_step (below_set HB.out GE.out) hd.below); have n1_ := Aside0.mk (blk_below (blk_far BK.out NE.out _) hd.below); have n3_ := (World.cell?_setCell_same _ _ (.int .i64 (l0_2.length : Int)) hzn); have n2_ := Aside0.mk ((hd.below.cell (World.block_lt_of_cell? _ _ n3_)).trans n3_); clear HB BK hzn hfn n3_; have HB := n0_; have BK := n1_; have HC := n2_; clear n0_ n1_ n2_ hd; have hz2 : w5.cell? ⟨gb, 2, none⟩ = some (.slice A0_2 l0_2.length c0_2) := (blk_cell BK.out 2).trans rfl)
   | (go_at_call 60; refine (slices_ContainsFunc_impl_Block_impl_Block.by_ (fun b => (impl_isGraph.ends b).any (impl_isGraph.far (l0_2.length : Int))) 61 #[.pointer (some ⟨gn, 0, none⟩)] eg _ _ _ _ (Kd.C_below HR.out HB.out) ?hp).mono ?_; (case hp => intro W x cs hW _ hx; exact impl_isGraph.in1 _ x cs gn W hx ((hW.cell (World.block_lt_of_cell? _ _ HC.out)).trans HC.out)); rintro e w6 ⟨rfl, hb⟩; have n0_ := Aside0.mk (below_step HB.out hb); clear HB; have HB := n0_; clear n0_ hb))
  go_ret
  exact ⟨by rw [HD.out]; rfl, HB.out⟩
 ·have hw : impl_within.f (l0_2.length : Int) 1 10 = some false := by rw [impl_isGraph.within, decide_eq_false hn]
  have hd : decide (1 ≤ (l0_2.length : Int) ∧ (l0_2.length : Int) ≤ 10) = false := decide_eq_false hn
  have HW := Aside0.mk hw
  have HD := Aside0.mk hd
  clear hn hw hd
  go_enter Try.func36, Try.ntmps36
  go_wp2_with (first
   | ((with_reducible refine gate_dst (N := 1) rfl ?_); refine box_event ?hg (N := 1) ?hd (cs := #[.slice A0_0 l0_0.length c0_0, .int .i64 a0_1, .slice A0_2 l0_2.length c0_2]) (t := 30) ?hr ?_; (case hd => rfl); (case hg => rfl); (case hr => first | (go_simp; done) | (go_simp; rfl)); intro gb hg w2 hbox hb; have n0_ := Aside0.mk (below_step HB.out hb); have BK := Aside0.mk hbox; clear HB; have HB := n0_; clear n0_ hg hb; have hz2 : w2.cell? ⟨gb, 2, none⟩ = some (.slice A0_2 l0_2.length c0_2) := (blk_cell BK.out 2).trans rfl; clear hbox)
   | ((with_reducible refine gate_dst (N := 3) rfl ?_); refine box_event ?hg (N := 3) ?hd (cs := #[.int .i64 0]) (t := 2) ?hr ?_; (case hd => rfl); (case hg => rfl); (case hr => first | (go_simp; done) | (go_simp; rfl)); intro gn hg w3 hbox hb; have n0_ := Aside0.mk (below_step HB.out hb); have GE := Aside0.mk (show w.heap.size ≤ gn by rw [hg]; exact below_size HB.out); clear HB BK hz2; have HB := n0_; clear n0_ hg hb; have hfn := blk_frozen hbox 0; have hzn : w3.cell? ⟨gn, 0, none⟩ = some (.int .i64 0) := (blk_cell hbox 0).trans rfl; clear hbox)
   | (go_at_call 45; refine (impl_within.calls _ _ _ _ _ HW.out).mono ?_; rintro e w5 ⟨rfl, hd⟩; have n0_ := Aside0.mk (below_step (below_set HB.out GE.out) hd.below); clear HB hzn hfn; have HB := n0_; clear n0_ hd))
  go_ret
  exact ⟨by rw [HD.out]; rfl, HB.out⟩

end Go.Proofs.Ytobfgnjdcoidoaa.X
namespace Go.Proofs.Ytobfgnjdcoidoaa.X
open Go.RowKit Go.Proofs.YtobfgnjdcoidoaaW.PrintWords Go.Proofs.YtobfgnjdcoidoaaW.PrintLast Go.Proofs.YtobfgnjdcoidoaaW.PrintMore
attribute [local go_sem] max2_int min2_int max_two min_two max_three min_three max_four min_four   -- for this text's walks alone
set_option linter.unusedVariables false
set_option linter.unusedSimpArgs false

/-! ### impl_reach: function 40 -/
def impl_reach.l0 : Nat → Int → List Bool → List Int → List Int → Int → List (S80) → Option (List Bool)
 | 0, _, _, _, _, _, _ => none
 | k + 1, x1, x5, x6, x540000, x540001, x540002 => if (x6.length : Int) > 0 then (if 0 < (x6.length : Int) then (if 1 ≤ (x6.length : Int) then ((some (x6.drop (1 : Int).toNat : List Int)).bind fun y547 => (if (rd x6 0) = x1 then (impl_reach.l0 k x1 x5 y547 x540000 x540001 x540002) else (if 0 ≤ (rd x6 0) then (if (rd x6 0) < (x5.length : Int) then (if rdOf false x5 (rd x6 0) = true then (impl_reach.l0 k x1 x5 y547 x540000 x540001 x540002) else (if (rd x6 0) < (x540002.length : Int) then ((impl_leadsTo.f ((rd_T80 x540002 (rd x6 0)).f2.f0) ((rd_T80 x540002 (rd x6 0)).f2.f1) ((rd_T80 x540002 (rd x6 0)).f2.f2) ((rd_T80 x540002 (rd x6 0)).f2.f3)).bind fun t553 => (if y547.length + t553.length < 17592186044416 then (impl_reach.l0 k x1 (x5.set ((rd x6 0) : Int).toNat true) (y547 ++ t553) x540000 x540001 x540002) else (none))) else (none))) else (none)) else (none)))) else (none)) else (none)) else (some x5)
def impl_reach.f (k : Nat) (l0_0 : List Int) (a0_1 : Int) (l0_2 : List (S80)) (a1 : Int) : Option (List Bool) := if 0 ≤ (l0_2.length : Int) then (if ((l0_2.length : Int) : Int).toNat ≤ 281474976710656 then (impl_reach.l0 k a1 (List.replicate ((l0_2.length : Int) : Int).toNat false) (([0] : List Int)) l0_0 a0_1 l0_2) else (none)) else (none)
theorem impl_reach.mono_l : ∀ k, (∀ y0 y1 y2 y3 y4 y5, LeO (impl_reach.l0 k y0 y1 y2 y3 y4 y5) (impl_reach.l0 (k + 1) y0 y1 y2 y3 y4 y5))
 | 0 => fun _ _ _ _ _ _ r h => by simp [impl_reach.l0] at h
 | k + 1 => by
  have ih0 := impl_reach.mono_l k
  ·intro y0 y1 y2 y3 y4 y5
   unfold impl_reach.l0
   repeat' first
   | (with_reducible exact ih0 _ _ _ _ _ _)
   | (with_reducible exact LeO.refl _)
   | (with_reducible exact LeO.none _)
   | (with_reducible refine LeO.ite ?_ ?_)
   | (with_reducible refine LeO.bind ?_ (fun _ => ?_))
   | exact ih0 _ _ _ _ _ _
   | exact LeO.none _
   | refine LeO.ite ?_ ?_
   | refine LeO.bind ?_ (fun _ => ?_)
theorem impl_reach.mono : ∀ a0 a1 a2 a3 k, LeO (impl_reach.f k a0 a1 a2 a3) (impl_reach.f (k + 1) a0 a1 a2 a3) := by
 intro a0 a1 a2 a3 k
 have ih0 := impl_reach.mono_l k
 unfold impl_reach.f
 repeat' first
   | (with_reducible exact ih0 _ _ _ _ _ _)
   | (with_reducible exact LeO.refl _)
   | (with_reducible exact LeO.none _)
   | (with_reducible refine LeO.ite ?_ ?_)
   | (with_reducible refine LeO.bind ?_ (fun _ => ?_))
   | exact ih0 _ _ _ _ _ _
   | exact LeO.none _
   | refine LeO.ite ?_ ?_
   | refine LeO.bind ?_ (fun _ => ?_)
set_option maxHeartbeats 8000000 in
set_option maxRecDepth 100000 in
theorem impl_reach.calls (k : Nat) (A0_0 : Option Addr) (c0_0 : Nat) (l0_0 : List Int) (a0_1 : Int) (A0_2 : Option Addr) (c0_2 : Nat) (l0_2 : List (S80)) (a1 : Int) (r : List Bool) (w : World) (hr0_0 : Kd.C (Kd.int .i64) w A0_0 l0_0.length l0_0) (hc0_0 : l0_0.length ≤ c0_0) (hr0_2 : Kd.C k80 w A0_2 l0_2.length l0_2) (hc0_2 : l0_2.length ≤ c0_2) (h : impl_reach.f k l0_0 a0_1 l0_2 a1 = some r) :
  Calls Try.prog 40 #[.agg #[.slice A0_0 l0_0.length c0_0, .int .i64 a0_1, .slice A0_2 l0_2.length c0_2], .int .i64 a1] w fun e w' => ∃ v0_ : Value, e = .returned (v0_) ∧ Kd.R Kd.bool 4 w' w.heap.size (fun _ => True) v0_ r ∧ Below w.heap.size w w' := by
 have hu30 := Try.underlying30
 have hu78 := Try.underlying78
 have HR0_0 := Aside0.mk hr0_0
 have HC0_0 := Aside0.mk hc0_0
 clear hr0_0 hc0_0
 have HR0_2 := Aside0.mk hr0_2
 have HC0_2 := Aside0.mk hc0_2
 clear hr0_2 hc0_2
 have HB := Aside0.mk (Below.refl w.heap.size w)
 have H : (if 0 ≤ (l0_2.length : Int) then (if ((l0_2.length : Int) : Int).toNat ≤ 281474976710656 then (impl_reach.l0 k a1 (List.replicate ((l0_2.length : Int) : Int).toNat false) (([0] : List Int)) l0_0 a0_1 l0_2) else (none)) else (none)) = some r := h
 clear h
 by_cases c3 : 0 ≤ (l0_2.length : Int)
 ·rw [if_pos c3] at H
  have c3b0 := eq_true c3
  have c3b1 : decide (0 ≤ (l0_2.length : Int)) = true := decide_eq_true c3
  clear c3
  by_cases c4 : ((l0_2.length : Int) : Int).toNat ≤ 281474976710656
  ·rw [if_pos c4] at H
   have c4b0 := eq_true c4
   have c4b1 : decide (((l0_2.length : Int) : Int).toNat ≤ 281474976710656) = true := decide_eq_true c4
   clear c4
   obtain ⟨y540, hy540⟩ : ∃ y_ : List Bool, y_ = (List.replicate ((l0_2.length : Int) : Int).toNat false) := ⟨_, rfl⟩
   replace H : (impl_reach.l0 k a1 y540 (([0] : List Int)) l0_0 a0_1 l0_2) = some r := by first | (rw [hy540]; with_reducible exact H) | (have H2_ := (Option.bind_some _ _).symm.trans H; rw [hy540]; with_reducible exact H2_) | (have H2_ := (Option.bind_some _ _).symm.trans H; with_reducible exact H2_) | with_reducible exact H | (rw [hy540]; exact H) | exact H
   have Ny540 := Aside0.mk hy540
   clear hy540
   obtain ⟨y543, hy543⟩ : ∃ y_ : List Int, y_ = (([0] : List Int)) := ⟨_, rfl⟩
   replace H : (impl_reach.l0 k a1 y540 y543 l0_0 a0_1 l0_2) = some r := by first | (rw [hy543]; with_reducible exact H) | (have H2_ := (Option.bind_some _ _).symm.trans H; rw [hy543]; with_reducible exact H2_) | (have H2_ := (Option.bind_some _ _).symm.trans H; with_reducible exact H2_) | with_reducible exact H | (rw [hy543]; exact H) | exact H
   have Ny543 := Aside0.mk hy543
   clear hy543
   have H' := Aside0.mk H
   clear H
   go_enter Try.func40, Try.ntmps40
   go_wp2_with (first | ((with_reducible refine gate_dst (N := 2) rfl ?_); refine box_event ?hg (N := 2) ?hd (cs := #[.slice A0_0 l0_0.length c0_0, .int .i64 a0_1, .slice A0_2 l0_2.length c0_2]) (t := 30) ?hr ?_; (case hd => rfl); (case hg => rfl); (case hr => first | (go_simp; done) | (go_simp; rfl)); intro gb539 hg w5 hbox hb; have n0_ := Aside0.mk (below_step hB_ hb); have n1_ := Aside0.mk (hbox); have n2_ := Aside0.mk ((by rw [hg]; exact (below_size hB_) : w.heap.size ≤ gb539)); have n3_ := Aside0.mk ((by rw [hg]; exact (below_size hB_) : w.heap.size ≤ gb539)); clear HB; have HB := n0_; have BK539 := n1_; have GW539 := n2_; have GE539 := n3_; clear n0_ n1_ n2_ n3_; clear hb hbox hg; obtain ⟨hcz6_0, hcz6_1, hcz6_2, hfz6_0, hfz6_1, hfz6_2⟩ := blkc3_ BK539.out) | ((with_reducible refine gate_dst (N := 11) rfl ?_); refine Kd.R_make Kd.bool _ 4 rfl (N := 11) rfl 60 _ _ rfl (l0_2.length : Int) rfl rfl Try.underlying60 (.bool false) 1 info4 rfl (by decide) (by omega) false (ok := fun _ => True) (okp := fun _ => True) rfl (fun _ hk => hk) trivial (oD_) (Nat.le_trans (Nat.mul_le_mul_right _ (oD_ : (l0_2.length : Int).toNat ≤ 281474976710656)) (by omega)) (Below.refl _ _) (Nat.le_refl _) ?_; intro v541 w7 ho8 hb hg_ hnew_; clear hg_ hnew_; (first | rw [← Ny540.out] at ho8 | (simp only [Int.reduceToNat] at ho8; rw [← Ny540.out] at ho8)); have n0_ := Aside0.mk (Kd.R_lower ho8 (below_size hS_)); have n1_ := Aside0.mk (blk_below (g := gb539) (o := .cells #[.slice A0_0 l0_0.length c0_0, .int .i64 a0_1, .slice A0_2 l0_2.length c0_2] 30 (0, 0)) bK539_ hb); have n2_ := Aside0.mk (below_step hS_ hb); clear BK539; clear HB; have HO542 := n0_; have BK539 := n1_; have HB := n2_; clear n0_ n1_ n2_; clear hb ho8) | ((with_reducible refine gate_dst (N := 12) rfl ?_); refine Kd.R_lit (Kd.int .i64) _ 2 ?hg (N := 12) ?hd (xs := ([0] : List Int)) (inner := [.int .i64 0]) (ok := fun _ => True) (okp := fun _ => True) ?hr ?hp (fun _ hk => hk) trivial (Below.refl _ _) (Nat.le_refl _) (by simp) ?_; (case hd => rfl); (case hg => rfl); (case hr => first | (go_simp; done) | (go_simp; rfl)); (case hp => exact (Reps.one (show Kd.M (Kd.int .i64) _ _ _ 0 [.int .i64 0] from rfl) (Reps.none _ _))); intro v544 w9 ho10 hb hg_ hnew_; clear hg_ hnew_; (first | rw [← Ny543.out] at ho10 | (simp only [Int.reduceToNat] at ho10; rw [← Ny543.out] at ho10)); have n0_ := Aside0.mk (Kd.R_below rHO542_ hb); have n1_ := Aside0.mk (Kd.R_lower ho10 (below_size hS_)); have n2_ := Aside0.mk (blk_below (g := gb539) (o := .cells #[.slice A0_0 l0_0.length c0_0, .int .i64 a0_1, .slice A0_2 l0_2.length c0_2] 30 (0, 0)) bK539_ hb); have n3_ := Aside0.mk (below_step hS_ hb); clear HO542; clear BK539; clear HB; have HO542 := n0_; have HO545 := n1_; have BK539 := n2_; have HB := n3_; clear n0_ n1_ n2_ n3_; clear hb ho10))
   go_loopg [6] k (fun kq v6 w' => ∃ (x5_1 : List Bool) (x6_1 : List Int), Aside0 (impl_reach.l0 kq a1 x5_1 x6_1 l0_0 a0_1 l0_2 = some r) ∧ Aside0 (kq ≤ k) ∧ Aside0 (Kd.R Kd.bool 4 w' w.heap.size (fun _ => True) v541 x5_1) ∧ Aside0 (Kd.Q (Kd.int .i64) 2 w' w.heap.size (fun _ => True) v6 x6_1) ∧ Aside0 (w'.heap[gb539]? = some (.cells #[(.slice A0_0 l0_0.length c0_0), .int .i64 a0_1, (.slice A0_2 l0_2.length c0_2)] 30 (0, 0))) ∧ Aside0 (Below w.heap.size w w'))
   case atStart => exact ⟨(y540), (y543), H', ⟨Nat.le_refl _⟩, ⟨rHO542_⟩, ⟨Kd.Q_of_R rHO545_⟩, ⟨bK539_⟩, ⟨hS_⟩⟩
   case round =>
    clear H'
    try clear p2
    try clear c3
    try clear c3b0
    try clear c3b1
    try clear c4
    try clear c4b0
    try clear c4b1
    try clear hcz6_0 hcz6_1 hcz6_2 hfz6_0 hfz6_1 hfz6_2
    obtain ⟨x5_1, x6_1, HA, HK1, HO_5, HO_6, BK539, HB⟩ := hrel
    cases gk with
    | zero => exact absurd HA.out (by simp [impl_reach.l0])
    | succ k1 =>
     have H := HA.out
     clear HA
     simp only [impl_reach.l0] at H
     by_cases c11 : (x6_1.length : Int) > 0
     ·rw [if_pos c11] at H
      have c11b0 : decide (0 < (x6_1.length : Int)) = true := decide_eq_true c11
      have c11b1 : decide (0 < x6_1.length) = true := decide_eq_true (by omega)
      clear c11
      by_cases c12 : 0 < (x6_1.length : Int)
      ·rw [if_pos c12] at H
       have c12b0 : decide (0 < (x6_1.length : Int)) = true := decide_eq_true c12
       have c12b1 : decide (0 < x6_1.length) = true := decide_eq_true (by omega)
       clear c12
       by_cases c13 : 1 ≤ (x6_1.length : Int)
       ·rw [if_pos c13] at H
        have c13b0 := eq_true c13
        have c13b1 : decide (1 ≤ (x6_1.length : Int)) = true := decide_eq_true c13
        clear c13
        obtain ⟨y547, hy547⟩ : ∃ y_ : List Int, y_ = (x6_1.drop (1 : Int).toNat) := ⟨_, rfl⟩
        replace H : (if (rd x6_1 0) = a1 then (impl_reach.l0 k1 a1 x5_1 y547 l0_0 a0_1 l0_2) else (if 0 ≤ (rd x6_1 0) then (if (rd x6_1 0) < (x5_1.length : Int) then (if rdOf false x5_1 (rd x6_1 0) = true then (impl_reach.l0 k1 a1 x5_1 y547 l0_0 a0_1 l0_2) else (if (rd x6_1 0) < (l0_2.length : Int) then ((impl_leadsTo.f ((rd_T80 l0_2 (rd x6_1 0)).f2.f0) ((rd_T80 l0_2 (rd x6_1 0)).f2.f1) ((rd_T80 l0_2 (rd x6_1 0)).f2.f2) ((rd_T80 l0_2 (rd x6_1 0)).f2.f3)).bind fun t553 => (if y547.length + t553.length < 17592186044416 then (impl_reach.l0 k1 a1 (x5_1.set ((rd x6_1 0) : Int).toNat true) (y547 ++ t553) l0_0 a0_1 l0_2) else (none))) else (none))) else (none)) else (none))) = some r := by first | (rw [hy547]; with_reducible exact H) | (have H2_ := (Option.bind_some _ _).symm.trans H; rw [hy547]; with_reducible exact H2_) | (have H2_ := (Option.bind_some _ _).symm.trans H; with_reducible exact H2_) | with_reducible exact H | (rw [hy547]; exact H) | exact H
        have Ny547 := Aside0.mk hy547
        clear hy547
        by_cases c14 : (rd x6_1 0) = a1
        ·rw [if_pos c14] at H
         have c14b0 : ((rd x6_1 0) == a1) = true := beq_iff_eq.mpr c14
         have c14b1 : ((rd x6_1 0) != a1) = false := bne_eq_false_iff_eq.mpr c14
         clear c14
         have H' := Aside0.mk H
         clear H
         obtain ⟨Ao15, co15, eo15, _⟩ := Kd.Q_slice HO_6.out
         subst eo15
         have p546 : 0 ≤ (0 : Int) := (by omega)
         have q546 : 0 < (x6_1.length : Int) := oD_
         obtain ⟨ad546, e546, hx546_0⟩ := Kd.at_int (Kd.Q_reads' HO_6.out).2.2 0 p546 q546
         cases e546
         have qi546 : (0 < x6_1.length) = True := eq_true (by omega)
         (try rw [show ((0 : Int)).toNat = 0 from rfl] at hx546_0)
         (try rw [Addr.add_zero'] at hx546_0)
         replace p546 := eq_true p546
         replace q546 := eq_true q546
         have q16 : (1 : Int) ≤ ((x6_1.length : Int) : Int) := oD_
         obtain ⟨i016, hi016, _, hsz16, _⟩ := info_parts info2
         have hcut16 := cut_from (P := Try.prog) 22 2 .i64 Try.underlying22 hi016 1 hsz16 (some ad546) x6_1.length co15 1 (by omega) q16
         have hr16 := Kd.Q_drop (k := (1 : Int).toNat) HO_6.out (by omega)
         obtain ⟨A16, hA16⟩ : ∃ A1, A1 = (if co15 = (1 : Int).toNat then (some ad546) else ((some ad546) : Option Addr).map (·.add ((1 : Int).toNat * 1))) := ⟨_, rfl⟩
         obtain ⟨c16, hc16⟩ : ∃ c1, c1 = co15 - (1 : Int).toNat := ⟨_, rfl⟩
         have hy16 : y547.length = x6_1.length - (1 : Int).toNat := (by rw [Ny547.out, List.length_drop])
         rw [← Ny547.out] at hr16
         rw [← hy16, ← hA16, ← hc16] at hcut16
         replace hr16 : Kd.Q (Kd.int .i64) 2 wr w.heap.size (fun _ => True) (.slice A16 y547.length c16) y547 := (by rw [hA16, hc16, hy16]; exact hr16)
         have HE16 : Aside0 ((Value.slice A16 y547.length c16).ownBlock = (.slice (some ad546) x6_1.length co15 : Value).ownBlock) := ⟨by rw [hA16]; split <;> (cases ((some ad546) : Option Addr) <;> rfl)⟩
         clear hy16 hi016 hsz16 HO_6 hA16 hc16
         have HO549 := Aside0.mk hr16
         clear hr16
         replace q16 := eq_true q16
         go_wp2
         go_roundg k1
         case measure => have := HK1.out; omega
         case rel => exact ⟨(x5_1), (y547), H', ⟨by have := HK1.out; omega⟩, ⟨rHO_5_⟩, ⟨by (with_reducible repeat (first | apply Kd.Q_alloc | apply Kd.Q_drewN | apply Kd.Q_drew)); exact HO549.out⟩, ⟨bK539_⟩, ⟨hS_⟩⟩
        ·rw [if_neg c14] at H
         have c14b0 : ((rd x6_1 0) == a1) = false := beq_eq_false_iff_ne.mpr c14
         have c14b1 : ((rd x6_1 0) != a1) = true := bne_iff_ne.mpr c14
         by_cases c17 : 0 ≤ (rd x6_1 0)
         ·rw [if_pos c17] at H
          have c17b0 : decide (0 ≤ (rd x6_1 0)) = true := decide_eq_true c17
          clear c17
          by_cases c18 : (rd x6_1 0) < (x5_1.length : Int)
          ·rw [if_pos c18] at H
           have c18b0 : decide ((rd x6_1 0) < (x5_1.length : Int)) = true := decide_eq_true c18
           clear c18
           obtain ⟨bq19, hbq19⟩ : ∃ b_ : Bool, b_ = (rdOf false x5_1 (rd x6_1 0)) := ⟨_, rfl⟩
           replace H : (if bq19 = true then (impl_reach.l0 k1 a1 x5_1 y547 l0_0 a0_1 l0_2) else (if (rd x6_1 0) < (l0_2.length : Int) then ((impl_leadsTo.f ((rd_T80 l0_2 (rd x6_1 0)).f2.f0) ((rd_T80 l0_2 (rd x6_1 0)).f2.f1) ((rd_T80 l0_2 (rd x6_1 0)).f2.f2) ((rd_T80 l0_2 (rd x6_1 0)).f2.f3)).bind fun t553 => (if y547.length + t553.length < 17592186044416 then (impl_reach.l0 k1 a1 (x5_1.set ((rd x6_1 0) : Int).toNat true) (y547 ++ t553) l0_0 a0_1 l0_2) else (none))) else (none))) = some r := by rw [← hbq19] at H; exact H
           have Nbq19 := Aside0.mk hbq19
           clear hbq19
           by_cases c20 : bq19 = true
           ·subst c20
            have H1 := (if_pos rfl).symm.trans H
            clear H
            have H := H1
            clear H1
            have H' := Aside0.mk H
            clear H
            obtain ⟨Ao21, co21, eo21, _⟩ := Kd.Q_slice HO_6.out
            subst eo21
            have p546 : 0 ≤ (0 : Int) := (by omega)
            have q546 : 0 < (x6_1.length : Int) := oD_
            obtain ⟨ad546, e546, hx546_0⟩ := Kd.at_int (Kd.Q_reads' HO_6.out).2.2 0 p546 q546
            cases e546
            have qi546 : (0 < x6_1.length) = True := eq_true (by omega)
            (try rw [show ((0 : Int)).toNat = 0 from rfl] at hx546_0)
            (try rw [Addr.add_zero'] at hx546_0)
            replace p546 := eq_true p546
            replace q546 := eq_true q546
            have q22 : (1 : Int) ≤ ((x6_1.length : Int) : Int) := oD_
            obtain ⟨i022, hi022, _, hsz22, _⟩ := info_parts info2
            have hcut22 := cut_from (P := Try.prog) 22 2 .i64 Try.underlying22 hi022 1 hsz22 (some ad546) x6_1.length co21 1 (by omega) q22
            have hr22 := Kd.Q_drop (k := (1 : Int).toNat) HO_6.out (by omega)
            obtain ⟨A22, hA22⟩ : ∃ A1, A1 = (if co21 = (1 : Int).toNat then (some ad546) else ((some ad546) : Option Addr).map (·.add ((1 : Int).toNat * 1))) := ⟨_, rfl⟩
            obtain ⟨c22, hc22⟩ : ∃ c1, c1 = co21 - (1 : Int).toNat := ⟨_, rfl⟩
            have hy22 : y547.length = x6_1.length - (1 : Int).toNat := (by rw [Ny547.out, List.length_drop])
            rw [← Ny547.out] at hr22
            rw [← hy22, ← hA22, ← hc22] at hcut22
            replace hr22 : Kd.Q (Kd.int .i64) 2 wr w.heap.size (fun _ => True) (.slice A22 y547.length c22) y547 := (by rw [hA22, hc22, hy22]; exact hr22)
            have HE22 : Aside0 ((Value.slice A22 y547.length c22).ownBlock = (.slice (some ad546) x6_1.length co21 : Value).ownBlock) := ⟨by rw [hA22]; split <;> (cases ((some ad546) : Option Addr) <;> rfl)⟩
            clear hy22 hi022 hsz22 HO_6 hA22 hc22
            have HO549 := Aside0.mk hr22
            clear hr22
            replace q22 := eq_true q22
            obtain ⟨Ao23, co23, eo23⟩ := Kd.R_slice HO_5.out
            subst eo23
            have p550 : 0 ≤ ((rd x6_1 0) : Int) := oD_
            have q550 : (rd x6_1 0) < (x5_1.length : Int) := oD_
            obtain ⟨ad550, e550, hx550_0⟩ := Kd.at_bool (Kd.R_reads' HO_5.out).2.2 (rd x6_1 0) p550 q550
            (try rw [← Nbq19.out] at hx550_0)
            cases e550
            replace p550 := eq_true p550
            replace q550 := eq_true q550
            go_wp2
            go_roundg k1
            case measure => have := HK1.out; omega
            case rel => exact ⟨(x5_1), (y547), H', ⟨by have := HK1.out; omega⟩, ⟨rHO_5_⟩, ⟨by (with_reducible repeat (first | apply Kd.Q_alloc | apply Kd.Q_drewN | apply Kd.Q_drew)); exact HO549.out⟩, ⟨bK539_⟩, ⟨hS_⟩⟩
           ·replace c20 := Bool.eq_false_iff.mpr c20
            subst c20
            have H1 := (if_neg (show ¬ (false = true) by decide)).symm.trans H
            clear H
            have H := H1
            clear H1
            obtain ⟨y551, hy551⟩ : ∃ y_ : List Bool, y_ = (x5_1.set ((rd x6_1 0) : Int).toNat true) := ⟨_, rfl⟩
            replace H : (if (rd x6_1 0) < (l0_2.length : Int) then ((impl_leadsTo.f ((rd_T80 l0_2 (rd x6_1 0)).f2.f0) ((rd_T80 l0_2 (rd x6_1 0)).f2.f1) ((rd_T80 l0_2 (rd x6_1 0)).f2.f2) ((rd_T80 l0_2 (rd x6_1 0)).f2.f3)).bind fun t553 => (if y547.length + t553.length < 17592186044416 then (impl_reach.l0 k1 a1 y551 (y547 ++ t553) l0_0 a0_1 l0_2) else (none))) else (none)) = some r := by first | (rw [hy551]; with_reducible exact H) | (have H2_ := (Option.bind_some _ _).symm.trans H; rw [hy551]; with_reducible exact H2_) | (have H2_ := (Option.bind_some _ _).symm.trans H; with_reducible exact H2_) | with_reducible exact H | (rw [hy551]; exact H) | exact H
            have Ny551 := Aside0.mk hy551
            clear hy551
            by_cases c25 : (rd x6_1 0) < (l0_2.length : Int)
            ·rw [if_pos c25] at H
             have c25b0 : decide ((rd x6_1 0) < (l0_2.length : Int)) = true := decide_eq_true c25
             clear c25
             replace H := Option.bind_eq_some_iff.mp H
             obtain ⟨t553, A260, H⟩ := H
             replace H : (if y547.length + t553.length < 17592186044416 then (impl_reach.l0 k1 a1 y551 (y547 ++ t553) l0_0 a0_1 l0_2) else (none)) = some r := H
             have A26 := Aside0.mk A260
             clear A260
             by_cases c27 : y547.length + t553.length < 17592186044416
             ·rw [if_pos c27] at H
              have LMc27 := Aside0.mk c27
              clear c27
              obtain ⟨y556, hy556⟩ : ∃ y_ : List Int, y_ = (y547 ++ t553) := ⟨_, rfl⟩
              replace H : (impl_reach.l0 k1 a1 y551 y556 l0_0 a0_1 l0_2) = some r := by first | (rw [hy556]; with_reducible exact H) | (have H2_ := (Option.bind_some _ _).symm.trans H; rw [hy556]; with_reducible exact H2_) | (have H2_ := (Option.bind_some _ _).symm.trans H; with_reducible exact H2_) | with_reducible exact H | (rw [hy556]; exact H) | exact H
              have Ny556 := Aside0.mk hy556
              clear hy556
              have H' := Aside0.mk H
              clear H
              obtain ⟨Ao28, co28, eo28, _⟩ := Kd.Q_slice HO_6.out
              subst eo28
              have p546 : 0 ≤ (0 : Int) := (by omega)
              have q546 : 0 < (x6_1.length : Int) := oD_
              obtain ⟨ad546, e546, hx546_0⟩ := Kd.at_int (Kd.Q_reads' HO_6.out).2.2 0 p546 q546
              cases e546
              have qi546 : (0 < x6_1.length) = True := eq_true (by omega)
              (try rw [show ((0 : Int)).toNat = 0 from rfl] at hx546_0)
              (try rw [Addr.add_zero'] at hx546_0)
              replace p546 := eq_true p546
              replace q546 := eq_true q546
              have q29 : (1 : Int) ≤ ((x6_1.length : Int) : Int) := oD_
              obtain ⟨i029, hi029, _, hsz29, _⟩ := info_parts info2
              have hcut29 := cut_from (P := Try.prog) 22 2 .i64 Try.underlying22 hi029 1 hsz29 (some ad546) x6_1.length co28 1 (by omega) q29
              have hr29 := Kd.Q_drop (k := (1 : Int).toNat) HO_6.out (by omega)
              obtain ⟨A29, hA29⟩ : ∃ A1, A1 = (if co28 = (1 : Int).toNat then (some ad546) else ((some ad546) : Option Addr).map (·.add ((1 : Int).toNat * 1))) := ⟨_, rfl⟩
              obtain ⟨c29, hc29⟩ : ∃ c1, c1 = co28 - (1 : Int).toNat := ⟨_, rfl⟩
              have hy29 : y547.length = x6_1.length - (1 : Int).toNat := (by rw [Ny547.out, List.length_drop])
              rw [← Ny547.out] at hr29
              rw [← hy29, ← hA29, ← hc29] at hcut29
              replace hr29 : Kd.Q (Kd.int .i64) 2 wr w.heap.size (fun _ => True) (.slice A29 y547.length c29) y547 := (by rw [hA29, hc29, hy29]; exact hr29)
              have HE29 : Aside0 ((Value.slice A29 y547.length c29).ownBlock = (.slice (some ad546) x6_1.length co28 : Value).ownBlock) := ⟨by rw [hA29]; split <;> (cases ((some ad546) : Option Addr) <;> rfl)⟩
              clear hy29 hi029 hsz29 HO_6 hA29 hc29
              have HO549 := Aside0.mk hr29
              clear hr29
              replace q29 := eq_true q29
              obtain ⟨Ao30, co30, eo30⟩ := Kd.R_slice HO_5.out
              subst eo30
              have p550 : 0 ≤ ((rd x6_1 0) : Int) := oD_
              have q550 : (rd x6_1 0) < (x5_1.length : Int) := oD_
              obtain ⟨ad550, e550, hx550_0⟩ := Kd.at_bool (Kd.R_reads' HO_5.out).2.2 (rd x6_1 0) p550 q550
              (try rw [← Nbq19.out] at hx550_0)
              cases e550
              replace p550 := eq_true p550
              replace q550 := eq_true q550
              have p24 : 0 ≤ ((rd x6_1 0) : Int) := oD_
              have q24 : ((rd x6_1 0) : Int) < ((x5_1.length : Int) : Int) := oD_
              obtain ⟨go24, co24, eo24, gb24, gl24, cl24, HG24⟩ := Kd.R_form HO_5.out (by omega)
              (first | cases eo24 | (injection eo24 with ea_ en_ ec_; (first | subst ea_ | (injection ea_ with ea_; subst ea_)); subst ec_; clear en_))
              have GB24 := Aside0.mk gb24
              have GG24 := Aside0.mk HG24
              clear gb24 gl24 HG24
              (first | simp only [add_plain] at hx550_0 | skip)
              obtain ⟨hx24_0, hf24_0⟩ := Kd.R_celln false HO_5.out ((rd x6_1 0) : Int) p24 q24
              replace p24 := eq_true p24
              replace q24 := eq_true q24
              have HP31 := Kd.R_putg HO_5.out ((rd x6_1 0) : Int) true
              go_wp2_with (first | ((with_reducible refine gate_store (t := 4) (p := 32) rfl ?_); refine store_event (t := 4) (p := 32) (v := ?vo_w32) (w1 := (wr.setCell ⟨go24, ((rd x6_1 0) : Int).toNat, none⟩ (.bool true))) ?hg ?ho ?hn ?hr ?_; (case ho => rfl); (case hg => rfl); (case hn => rfl); (case hr => first | (go_simp; done) | (go_simp; rfl)); intro w32 hw; have hg : wr.grownBy w32 (some go24) := (by rw [hw]; exact HP31.2); have hp_ : Kd.R Kd.bool 4 w32 w.heap.size (fun _ => True) (.slice (some ⟨go24, 0, none⟩) x5_1.length co30) y551 := (by rw [hw, Ny551.out]; exact HP31.1); clear HP31; have n0_ := Aside0.mk (hp_); have n1_ := Aside0.mk (Kd.Q_over' (v := (.slice (some ⟨go24, 0, none⟩) x5_1.length co30)) (by (with_reducible repeat (first | apply Kd.Q_alloc | apply Kd.Q_drewN | apply Kd.Q_drew)); exact HO549.out) (Kd.R_typed HO_5.out) (by decide) hg); have n2_ := Aside0.mk (blk_grown (g := gb539) (o := .cells #[.slice A0_0 l0_0.length c0_0, .int .i64 a0_1, .slice A0_2 l0_2.length c0_2] 30 (0, 0)) bK539_ hg (Kd.R_ne HO_5.out BK539.out (by decide))); have n3_ := Aside0.mk ((by rw [hw]; exact below_set (HB.out) GB24.out : Below w.heap.size w w32)); clear HO_5; clear HO549; clear BK539; clear HB; have HO_5 := n0_; have HO549 := n1_; have BK539 := n2_; have HB := n3_; clear n0_ n1_ n2_ n3_; clear hg hw hp_; obtain ⟨hcz33_0, hcz33_1, hcz33_2, hfz33_0, hfz33_1, hfz33_2⟩ := blkc3_ BK539.out; have p552 : 0 ≤ ((rd x6_1 0) : Int) := oD_; have q552 : (rd x6_1 0) < (l0_2.length : Int) := oD_; obtain ⟨ad552, A552_0, c552_0, A552_1, c552_1, e552, hx552_0, hx552_1, hx552_2, hx552_3, hx552_4, hx552_5, hl552_0, hi552_0, hl552_1, hi552_1⟩ := at_T80 HR0_2.out (rd x6_1 0) p552 q552; cases e552; replace hx552_0 := (HB.out.cell (World.block_lt_of_cell? w _ hx552_0)).trans hx552_0; replace hx552_1 := (HB.out.cell (World.block_lt_of_cell? w _ hx552_1)).trans hx552_1; replace hx552_2 := (HB.out.cell (World.block_lt_of_cell? w _ hx552_2)).trans hx552_2; replace hx552_3 := (HB.out.cell (World.block_lt_of_cell? w _ hx552_3)).trans hx552_3; replace hx552_4 := (HB.out.cell (World.block_lt_of_cell? w _ hx552_4)).trans hx552_4; replace hx552_5 := (HB.out.cell (World.block_lt_of_cell? w _ hx552_5)).trans hx552_5; have HR552_0 := Aside0.mk hi552_0; have HC552_0 := Aside0.mk hl552_0; clear hi552_0 hl552_0; have HR552_1 := Aside0.mk hi552_1; have HC552_1 := Aside0.mk hl552_1; clear hi552_1 hl552_1; replace p552 := eq_true p552; replace q552 := eq_true q552) | ((with_reducible refine gate_callee (f := 55) rfl ?_); refine gL_ (some 40) Try.func55 #[.agg #[.int .i64 ((rd_T80 l0_2 (rd x6_1 0)).f2.f0), .int .i64 ((rd_T80 l0_2 (rd x6_1 0)).f2.f1), .int .i64 ((rd_T80 l0_2 (rd x6_1 0)).f2.f2), .int .i64 ((rd_T80 l0_2 (rd x6_1 0)).f2.f3)]] ?_; (with_reducible refine (impl_leadsTo.calls ((rd_T80 l0_2 (rd x6_1 0)).f2.f0) ((rd_T80 l0_2 (rd x6_1 0)).f2.f1) ((rd_T80 l0_2 (rd x6_1 0)).f2.f2) ((rd_T80 l0_2 (rd x6_1 0)).f2.f3) t553 _ A26.out).mono ?_); rintro e w34 ⟨v554, rfl, ho0, hb⟩; refine ⟨_, rfl, ?_⟩; have n0_ := Aside0.mk (Kd.R_below rHO_5_ hb); have n1_ := Aside0.mk (Kd.Q_elder' (by (with_reducible repeat (first | apply Kd.Q_alloc | apply Kd.Q_drewN | apply Kd.Q_drew)); exact HO549.out) (Kd.R_base ho0) hb); have n2_ := Aside0.mk (Kd.R_lower (Kd.R_new' ho0 (Kd.Q_lt (by (with_reducible repeat (first | apply Kd.Q_alloc | apply Kd.Q_drewN | apply Kd.Q_drew)); exact HO549.out))) (below_size hS_)); have n3_ := Aside0.mk (blk_below (g := gb539) (o := .cells #[.slice A0_0 l0_0.length c0_0, .int .i64 a0_1, .slice (some ad552) l0_2.length c0_2] 30 (0, 0)) bK539_ hb); have n4_ := Aside0.mk (below_step hS_ hb); clear HO_5; clear HO549; clear BK539; clear HB; have HO_5 := n0_; have HO549 := n1_; have HO555 := n2_; have BK539 := n3_; have HB := n4_; clear n0_ n1_ n2_ n3_ n4_; (try clear hb); (try clear hb2); (try clear hk); (try clear hi); (try clear ho0); obtain ⟨Ao36, co36, eo36⟩ := Kd.R_slice HO555.out; subst eo36) | ((with_reducible refine gate_builtin (b := .append) (xs := #[.tmp 33, .tmp 40]) rfl ?_); at_builtin; refine Kd.Q_append_rows (Kd.int .i64) (w0 := w) w.heap.size rfl (.tmp 33) (.tmp 40) 22 2 (.int .i64 0) 8 rfl Try.underlying22 info2 rfl (by decide) (by omega) (.slice A29 y547.length c29) y547 t553 _ _ _ (fun k_ => some k_ ≠ (.slice Ao36 t553.length co36 : Value).ownBlock) (fun _ => False) rfl rfl ?aO ?aR (fun _ _ h => h) (fun _ h => h.elim) ?aF ?aB ?aS ?aL ?_; (case aR => repeat (first | exact (Kd.R_reads' HO555.out).2.2 | (with_reducible refine Kd.C_alloc ?_ _) | (with_reducible refine Kd.C_drewN ?_ _) | (with_reducible refine Kd.C_drew ?_))); (case aB => exact hS_); (case aF => exact (fun k_ hk => Kd.fresh' (Kd.R_lt rHO555_) k_ hk)); (case aO => exact (by (with_reducible repeat (first | apply Kd.Q_alloc | apply Kd.Q_drewN | apply Kd.Q_drew)); exact Kd.Q_mono HO549.out (fun _ hk => hk.2))); (case aS => exact (below_size hS_)); (case aL => have := LMc27.out; omega); intro v557 w35 ho hb hg hat; rw [← Ny556.out] at ho; have n0_ := Aside0.mk (Kd.R_over' rHO_5_ (Kd.Q_typed (by (with_reducible repeat (first | apply Kd.Q_alloc | apply Kd.Q_drewN | apply Kd.Q_drew)); exact HO549.out)) (by decide) hg); have n1_ := Aside0.mk (blk_grown (g := gb539) (o := .cells #[.slice A0_0 l0_0.length c0_0, .int .i64 a0_1, .slice (some ad552) l0_2.length c0_2] 30 (0, 0)) bK539_ hg (Kd.Q_ne HO549.out BK539.out (by decide))); have n2_ := Aside0.mk (Kd.R_after (ok := (fun _ => True)) rHO555_ hg hat); have n3_ := Aside0.mk (hb); have n4_ := Aside0.mk (ho); clear HO_5; clear BK539; clear HO555; clear HB; clear HO549; have HO_5 := n0_; have BK539 := n1_; have HO555 := n2_; have HB := n3_; have HO558 := n4_; clear n0_ n1_ n2_ n3_ n4_; clear ho hb hg hat))
              go_roundg k1
              case measure => have := HK1.out; omega
              case rel => exact ⟨(y551), (y556), H', ⟨by have := HK1.out; omega⟩, ⟨rHO_5_⟩, ⟨by (with_reducible repeat (first | apply Kd.Q_alloc | apply Kd.Q_drewN | apply Kd.Q_drew)); exact Kd.Q_mono HO558.out (fun _ hk => trivial)⟩, ⟨bK539_⟩, ⟨hS_⟩⟩
             ·rw [if_neg c27] at H
              exact absurd H (by simp)
            ·rw [if_neg c25] at H
             exact absurd H (by simp)
          ·rw [if_neg c18] at H
           exact absurd H (by simp)
         ·rw [if_neg c17] at H
          exact absurd H (by simp)
       ·rw [if_neg c13] at H
        exact absurd H (by simp)
      ·rw [if_neg c12] at H
       exact absurd H (by simp)
     ·rw [if_neg c11] at H
      have c11b0 : decide (0 < (x6_1.length : Int)) = false := decide_eq_false c11
      have c11b1 : decide (0 < x6_1.length) = false := decide_eq_false (by omega)
      clear c11
      obtain rfl := Option.some.inj H
      obtain ⟨Ao37, co37, eo37, _⟩ := Kd.Q_slice HO_6.out
      subst eo37
      go_wp2
      go_ret
      exact ⟨_, rG_, rHO_5_, hS_⟩
  ·rw [if_neg c4] at H
   exact absurd H (by simp)
 ·rw [if_neg c3] at H
  exact absurd H (by simp)

end Go.Proofs.Ytobfgnjdcoidoaa.X
namespace Go.Proofs.Ytobfgnjdcoidoaa.X
open Go.RowKit Go.Proofs.YtobfgnjdcoidoaaW.PrintWords Go.Proofs.YtobfgnjdcoidoaaW.PrintLast Go.Proofs.YtobfgnjdcoidoaaW.PrintMore
attribute [local go_sem] max2_int min2_int max_two min_two max_three min_three max_four min_four   -- for this text's walks alone
set_option linter.unusedVariables false
set_option linter.unusedSimpArgs false

/-! ### impl_Reached: function 19 -/
def impl_Reached.l0 : Nat → List Int → List Bool → Int → Int → Option (List Int)
 | 0, _, _, _, _ => none
 | k + 1, x3, x11, x12, x13 => if x13 < x12 then (if 0 ≤ x13 then (if x13 < (x11.length : Int) then (if rdOf false x11 x13 = true then (if x3.length < 17592186044416 then (impl_Reached.l0 k (x3 ++ [x13]) x11 x12 (wrap64 (x13 + 1))) else (none)) else (impl_Reached.l0 k x3 x11 x12 (wrap64 (x13 + 1)))) else (none)) else (none)) else (some x3)
def impl_Reached.f (k : Nat) (l0_0 : List Int) (a0_1 : Int) (l0_2 : List (S80)) : Option (List Int) := (impl_isGraph.f l0_0 a0_1 l0_2).bind fun t560 => (if t560 = true then ((impl_reach.f k l0_0 a0_1 l0_2 (-1)).bind fun t564 => (impl_Reached.l0 k (([] : List Int)) t564 (t564.length : Int) 0)) else (some ([] : List Int)))
theorem impl_Reached.mono_l : ∀ k, (∀ y0 y1 y2 y3, LeO (impl_Reached.l0 k y0 y1 y2 y3) (impl_Reached.l0 (k + 1) y0 y1 y2 y3))
 | 0 => fun _ _ _ _ r h => by simp [impl_Reached.l0] at h
 | k + 1 => by
  have ih0 := impl_Reached.mono_l k
  ·intro y0 y1 y2 y3
   unfold impl_Reached.l0
   repeat' first
   | (with_reducible exact ih0 _ _ _ _)
   | (with_reducible exact impl_reach.mono _ _ _ _ _)
   | (with_reducible exact LeO.refl _)
   | (with_reducible exact LeO.none _)
   | (with_reducible refine LeO.ite ?_ ?_)
   | (with_reducible refine LeO.bind ?_ (fun _ => ?_))
   | exact ih0 _ _ _ _
   | exact impl_reach.mono _ _ _ _ _
   | exact LeO.none _
   | refine LeO.ite ?_ ?_
   | refine LeO.bind ?_ (fun _ => ?_)
theorem impl_Reached.mono : ∀ a0 a1 a2 k, LeO (impl_Reached.f k a0 a1 a2) (impl_Reached.f (k + 1) a0 a1 a2) := by
 intro a0 a1 a2 k
 have ih0 := impl_Reached.mono_l k
 unfold impl_Reached.f
 repeat' first
   | (with_reducible exact ih0 _ _ _ _)
   | (with_reducible exact impl_reach.mono _ _ _ _ _)
   | (with_reducible exact LeO.refl _)
   | (with_reducible exact LeO.none _)
   | (with_reducible refine LeO.ite ?_ ?_)
   | (with_reducible refine LeO.bind ?_ (fun _ => ?_))
   | exact ih0 _ _ _ _
   | exact impl_reach.mono _ _ _ _ _
   | exact LeO.none _
   | refine LeO.ite ?_ ?_
   | refine LeO.bind ?_ (fun _ => ?_)
set_option maxHeartbeats 8000000 in
set_option maxRecDepth 100000 in
theorem impl_Reached.calls (k : Nat) (A0_0 : Option Addr) (c0_0 : Nat) (l0_0 : List Int) (a0_1 : Int) (A0_2 : Option Addr) (c0_2 : Nat) (l0_2 : List (S80)) (r : List Int) (w : World) (hr0_0 : Kd.C (Kd.int .i64) w A0_0 l0_0.length l0_0) (hc0_0 : l0_0.length ≤ c0_0) (hr0_2 : Kd.C k80 w A0_2 l0_2.length l0_2) (hc0_2 : l0_2.length ≤ c0_2) (h : impl_Reached.f k l0_0 a0_1 l0_2 = some r) :
  Calls Try.prog 19 #[.agg #[.slice A0_0 l0_0.length c0_0, .int .i64 a0_1, .slice A0_2 l0_2.length c0_2]] w fun e w' => ∃ v0_ : Value, e = .returned (v0_) ∧ Kd.R (Kd.int .i64) 2 w' w.heap.size (fun _ => True) v0_ r ∧ Below w.heap.size w w' := by
 have hu30 := Try.underlying30
 have HR0_0 := Aside0.mk hr0_0
 have HC0_0 := Aside0.mk hc0_0
 clear hr0_0 hc0_0
 have HR0_2 := Aside0.mk hr0_2
 have HC0_2 := Aside0.mk hc0_2
 clear hr0_2 hc0_2
 have HB := Aside0.mk (Below.refl w.heap.size w)
 have H : ((impl_isGraph.f l0_0 a0_1 l0_2).bind fun t560 => (if t560 = true then ((impl_reach.f k l0_0 a0_1 l0_2 (-1)).bind fun t564 => (impl_Reached.l0 k (([] : List Int)) t564 (t564.length : Int) 0)) else (some ([] : List Int)))) = some r := h
 clear h
 replace H := Option.bind_eq_some_iff.mp H
 obtain ⟨t560, A20, H⟩ := H
 replace H : (if t560 = true then ((impl_reach.f k l0_0 a0_1 l0_2 (-1)).bind fun t564 => (impl_Reached.l0 k (([] : List Int)) t564 (t564.length : Int) 0)) else (some ([] : List Int))) = some r := H
 have A2 := Aside0.mk A20
 clear A20
 by_cases c3 : t560 = true
 ·subst c3
  have H1 := (if_pos rfl).symm.trans H
  clear H
  have H := H1
  clear H1
  obtain ⟨y561, hy561⟩ : ∃ y_ : List Int, y_ = (([] : List Int)) := ⟨_, rfl⟩
  replace H : ((impl_reach.f k l0_0 a0_1 l0_2 (-1)).bind fun t564 => (impl_Reached.l0 k y561 t564 (t564.length : Int) 0)) = some r := by first | (rw [hy561]; with_reducible exact H) | (have H2_ := (Option.bind_some _ _).symm.trans H; rw [hy561]; with_reducible exact H2_) | (have H2_ := (Option.bind_some _ _).symm.trans H; with_reducible exact H2_) | with_reducible exact H | (rw [hy561]; exact H) | exact H
  have Ny561 := Aside0.mk hy561
  clear hy561
  replace H := Option.bind_eq_some_iff.mp H
  obtain ⟨t564, A40, H⟩ := H
  replace H : (impl_Reached.l0 k y561 t564 (t564.length : Int) 0) = some r := H
  have A4 := Aside0.mk A40
  clear A40
  have H' := Aside0.mk H
  clear H
  go_enter Try.func19, Try.ntmps19
  go_wp2_with (first | ((with_reducible refine gate_dst (N := 1) rfl ?_); refine box_event ?hg (N := 1) ?hd (cs := #[.slice A0_0 l0_0.length c0_0, .int .i64 a0_1, .slice A0_2 l0_2.length c0_2]) (t := 30) ?hr ?_; (case hd => rfl); (case hg => rfl); (case hr => first | (go_simp; done) | (go_simp; rfl)); intro gb559 hg w5 hbox hb; have n0_ := Aside0.mk (below_step hB_ hb); have n1_ := Aside0.mk (hbox); have n2_ := Aside0.mk ((by rw [hg]; exact (below_size hB_) : w.heap.size ≤ gb559)); have n3_ := Aside0.mk ((by rw [hg]; exact (below_size hB_) : w.heap.size ≤ gb559)); clear HB; have HB := n0_; have BK559 := n1_; have GW559 := n2_; have GE559 := n3_; clear n0_ n1_ n2_ n3_; clear hb hbox hg; obtain ⟨hcz6_0, hcz6_1, hcz6_2, hfz6_0, hfz6_1, hfz6_2⟩ := blkc3_ BK559.out) | ((with_reducible refine gate_callee (f := 36) rfl ?_); refine gL_ (some 7) Try.func36 #[.agg #[.slice A0_0 l0_0.length c0_0, .int .i64 a0_1, .slice A0_2 l0_2.length c0_2]] ?_; (with_reducible refine (impl_isGraph.calls _ _ l0_0 a0_1 _ _ l0_2 true _ ?side1 ?side2 ?side3 ?side4 A2.out).mono ?_); (case side1 => repeat (first | exact (Kd.C_below HR0_0.out HB.out) | (with_reducible refine Kd.C_alloc ?_ _) | (with_reducible refine Kd.C_drewN ?_ _) | (with_reducible refine Kd.C_drew ?_))); (case side2 => exact HC0_0.out); (case side3 => repeat (first | exact (Kd.C_below HR0_2.out HB.out) | (with_reducible refine Kd.C_alloc ?_ _) | (with_reducible refine Kd.C_drewN ?_ _) | (with_reducible refine Kd.C_drew ?_))); (case side4 => exact HC0_2.out); rintro e w7 ⟨rfl, hb⟩; refine ⟨_, rfl, ?_⟩; have n0_ := Aside0.mk (blk_below (g := gb559) (o := .cells #[.slice A0_0 l0_0.length c0_0, .int .i64 a0_1, .slice A0_2 l0_2.length c0_2] 30 (0, 0)) bK559_ hb); have n1_ := Aside0.mk (below_step hS_ hb); clear BK559; clear HB; have BK559 := n0_; have HB := n1_; clear n0_ n1_; (try clear hb); (try clear hb2); (try clear hk); (try clear hi)) | ((with_reducible refine gate_dst (N := 9) rfl ?_); refine Kd.R_lit (Kd.int .i64) _ 2 ?hg (N := 9) ?hd (xs := ([] : List Int)) (inner := []) (ok := fun _ => True) (okp := fun _ => True) ?hr ?hp (fun _ hk => hk) trivial (Below.refl _ _) (Nat.le_refl _) (by simp) ?_; (case hd => rfl); (case hg => rfl); (case hr => first | (go_simp; done) | (go_simp; rfl)); (case hp => exact (Reps.none _ _)); intro v562 w8 ho9 hb hg_ hnew_; clear hg_ hnew_; (first | rw [← Ny561.out] at ho9 | (simp only [Int.reduceToNat] at ho9; rw [← Ny561.out] at ho9)); have n0_ := Aside0.mk (Kd.R_lower ho9 (below_size hS_)); have n1_ := Aside0.mk (blk_below (g := gb559) (o := .cells #[.slice A0_0 l0_0.length c0_0, .int .i64 a0_1, .slice A0_2 l0_2.length c0_2] 30 (0, 0)) bK559_ hb); have n2_ := Aside0.mk (below_step hS_ hb); clear BK559; clear HB; have HO563 := n0_; have BK559 := n1_; have HB := n2_; clear n0_ n1_ n2_; clear hb ho9; obtain ⟨hcz10_0, hcz10_1, hcz10_2, hfz10_0, hfz10_1, hfz10_2⟩ := blkc3_ BK559.out) | ((with_reducible refine gate_callee (f := 40) rfl ?_); refine gL_ (some 11) Try.func40 #[.agg #[.slice A0_0 l0_0.length c0_0, .int .i64 a0_1, .slice A0_2 l0_2.length c0_2], .int .i64 (-1)] ?_; (with_reducible refine (impl_reach.calls k _ _ l0_0 a0_1 _ _ l0_2 (-1) t564 _ ?side1 ?side2 ?side3 ?side4 A4.out).mono ?_); (case side1 => repeat (first | exact (Kd.C_below HR0_0.out HB.out) | (with_reducible refine Kd.C_alloc ?_ _) | (with_reducible refine Kd.C_drewN ?_ _) | (with_reducible refine Kd.C_drew ?_))); (case side2 => exact HC0_0.out); (case side3 => repeat (first | exact (Kd.C_below HR0_2.out HB.out) | (with_reducible refine Kd.C_alloc ?_ _) | (with_reducible refine Kd.C_drewN ?_ _) | (with_reducible refine Kd.C_drew ?_))); (case side4 => exact HC0_2.out); rintro e w11 ⟨v565, rfl, ho0, hb⟩; refine ⟨_, rfl, ?_⟩; have n0_ := Aside0.mk (Kd.R_below rHO563_ hb); have n1_ := Aside0.mk (Kd.R_lower ho0 (below_size hS_)); have n2_ := Aside0.mk (blk_below (g := gb559) (o := .cells #[.slice A0_0 l0_0.length c0_0, .int .i64 a0_1, .slice A0_2 l0_2.length c0_2] 30 (0, 0)) bK559_ hb); have n3_ := Aside0.mk (below_step hS_ hb); clear HO563; clear BK559; clear HB; have HO563 := n0_; have HO566 := n1_; have BK559 := n2_; have HB := n3_; clear n0_ n1_ n2_ n3_; (try clear hb); (try clear hb2); (try clear hk); (try clear hi); (try clear ho0); obtain ⟨Ao12, co12, eo12⟩ := Kd.R_slice HO566.out; subst eo12))
  go_loopg [3, 13] k (fun kq v3 v13 w' => ∃ (x3_1 : List Int) (x13_1 : Int), v13 = .int .i64 x13_1 ∧ Aside0 (impl_Reached.l0 kq x3_1 t564 (t564.length : Int) x13_1 = some r) ∧ Aside0 (kq ≤ k) ∧ Aside0 (Kd.R (Kd.int .i64) 2 w' w.heap.size (fun _ => True) v3 x3_1) ∧ Aside0 (Kd.R Kd.bool 4 w' w.heap.size (fun _ => True) (.slice Ao12 t564.length co12) t564) ∧ Aside0 (w'.heap[gb559]? = some (.cells #[(.slice A0_0 l0_0.length c0_0), .int .i64 a0_1, (.slice A0_2 l0_2.length c0_2)] 30 (0, 0))) ∧ Aside0 (Below w.heap.size w w'))
  case atStart => exact ⟨(y561), (0), rF_, H', ⟨Nat.le_refl _⟩, ⟨rHO563_⟩, ⟨rHO566_⟩, ⟨bK559_⟩, ⟨hS_⟩⟩
  case round =>
   clear H'
   try clear c1
   try clear p2
   try clear c3
   try clear c4
   try clear hcz10_0 hcz10_1 hcz10_2 hfz10_0 hfz10_1 hfz10_2
   try clear hcz6_0 hcz6_1 hcz6_2 hfz6_0 hfz6_1 hfz6_2
   obtain ⟨x3_1, x13_1, rfl, HA, HK1, HO_3, HO_11, BK559, HB⟩ := hrel
   cases gk with
   | zero => exact absurd HA.out (by simp [impl_Reached.l0])
   | succ k1 =>
    have H := HA.out
    clear HA
    simp only [impl_Reached.l0] at H
    by_cases c13 : x13_1 < (t564.length : Int)
    ·rw [if_pos c13] at H
     have c13b0 : decide (x13_1 < (t564.length : Int)) = true := decide_eq_true c13
     clear c13
     by_cases c14 : 0 ≤ x13_1
     ·rw [if_pos c14] at H
      have c14b0 : decide (0 ≤ x13_1) = true := decide_eq_true c14
      clear c14
      by_cases c15 : x13_1 < (t564.length : Int)
      ·rw [if_pos c15] at H
       have c15b0 : decide (x13_1 < (t564.length : Int)) = true := decide_eq_true c15
       clear c15
       obtain ⟨bq16, hbq16⟩ : ∃ b_ : Bool, b_ = (rdOf false t564 x13_1) := ⟨_, rfl⟩
       replace H : (if bq16 = true then (if x3_1.length < 17592186044416 then (impl_Reached.l0 k1 (x3_1 ++ [x13_1]) t564 (t564.length : Int) (wrap64 (x13_1 + 1))) else (none)) else (impl_Reached.l0 k1 x3_1 t564 (t564.length : Int) (wrap64 (x13_1 + 1)))) = some r := by rw [← hbq16] at H; exact H
       have Nbq16 := Aside0.mk hbq16
       clear hbq16
       by_cases c17 : bq16 = true
       ·subst c17
        have H1 := (if_pos rfl).symm.trans H
        clear H
        have H := H1
        clear H1
        by_cases c18 : x3_1.length < 17592186044416
        ·rw [if_pos c18] at H
         have LMc18 := Aside0.mk c18
         clear c18
         obtain ⟨y568, hy568⟩ : ∃ y_ : List Int, y_ = (x3_1 ++ [x13_1]) := ⟨_, rfl⟩
         replace H : (impl_Reached.l0 k1 y568 t564 (t564.length : Int) (wrap64 (x13_1 + 1))) = some r := by first | (rw [hy568]; with_reducible exact H) | (have H2_ := (Option.bind_some _ _).symm.trans H; rw [hy568]; with_reducible exact H2_) | (have H2_ := (Option.bind_some _ _).symm.trans H; with_reducible exact H2_) | with_reducible exact H | (rw [hy568]; exact H) | exact H
         have Ny568 := Aside0.mk hy568
         clear hy568
         have H' := Aside0.mk H
         clear H
         have p567 : 0 ≤ (x13_1 : Int) := oD_
         have q567 : x13_1 < (t564.length : Int) := oD_
         obtain ⟨ad567, e567, hx567_0⟩ := Kd.at_bool (Kd.R_reads' HO_11.out).2.2 x13_1 p567 q567
         (try rw [← Nbq16.out] at hx567_0)
         cases e567
         replace p567 := eq_true p567
         replace q567 := eq_true q567
         go_wp2_with (first | ((with_reducible refine gate_builtin (b := .append) (xs := #[.tmp 19, .tmp 21]) rfl ?_); at_builtin; refine Kd.R_append (Kd.int .i64) (w0 := w) w.heap.size rfl (.tmp 19) (.tmp 21) 22 2 (.int .i64 0) 8 rfl Try.underlying22 info2 rfl (by decide) (by omega) u3 x3_1 x13_1 [.int .i64 x13_1] (fun _ => True) (fun _ => False) rfl rfl ?aP (fun _ hk => hk.elim) ?aF ?aO ?aB ?aS ?aL ?_; (case aP => exact rfl); (case aB => exact hS_); (case aF => exact (fun _ _ => trivial)); (case aO => exact rHO_3_); (case aS => exact (below_size hS_)); (case aL => have := LMc18.out; omega); intro v569 w19 ho hb hg hat; rw [← Ny568.out] at ho; have n0_ := Aside0.mk (Kd.R_over' rHO_11_ (Kd.R_typed rHO_3_) (by decide) hg); have n1_ := Aside0.mk (blk_grown (g := gb559) (o := .cells #[.slice A0_0 l0_0.length c0_0, .int .i64 a0_1, .slice A0_2 l0_2.length c0_2] 30 (0, 0)) bK559_ hg (Kd.R_ne HO_3.out BK559.out (by decide))); have n2_ := Aside0.mk (hb); have n3_ := Aside0.mk (ho); clear HO_11; clear BK559; clear HB; clear HO_3; have HO_11 := n0_; have BK559 := n1_; have HB := n2_; have HO570 := n3_; clear n0_ n1_ n2_ n3_; clear ho hb hg hat))
         go_roundg k1
         case measure => have := HK1.out; omega
         case rel => exact ⟨(y568), (wrap64 (x13_1 + 1)), rF_, H', ⟨by have := HK1.out; omega⟩, ⟨rHO570_⟩, ⟨rHO_11_⟩, ⟨bK559_⟩, ⟨hS_⟩⟩
        ·rw [if_neg c18] at H
         exact absurd H (by simp)
       ·replace c17 := Bool.eq_false_iff.mpr c17
        subst c17
        have H1 := (if_neg (show ¬ (false = true) by decide)).symm.trans H
        clear H
        have H := H1
        clear H1
        have H' := Aside0.mk H
        clear H
        have p567 : 0 ≤ (x13_1 : Int) := oD_
        have q567 : x13_1 < (t564.length : Int) := oD_
        obtain ⟨ad567, e567, hx567_0⟩ := Kd.at_bool (Kd.R_reads' HO_11.out).2.2 x13_1 p567 q567
        (try rw [← Nbq16.out] at hx567_0)
        cases e567
        replace p567 := eq_true p567
        replace q567 := eq_true q567
        go_wp2
        go_roundg k1
        case measure => have := HK1.out; omega
        case rel => exact ⟨(x3_1), (wrap64 (x13_1 + 1)), rF_, H', ⟨by have := HK1.out; omega⟩, ⟨rHO_3_⟩, ⟨rHO_11_⟩, ⟨bK559_⟩, ⟨hS_⟩⟩
      ·rw [if_neg c15] at H
       exact absurd H (by simp)
     ·rw [if_neg c14] at H
      exact absurd H (by simp)
    ·rw [if_neg c13] at H
     have c13b0 : decide (x13_1 < (t564.length : Int)) = false := decide_eq_false c13
     clear c13
     obtain rfl := Option.some.inj H
     go_wp2
     go_ret
     exact ⟨_, rG_, rHO_3_, hS_⟩
 ·replace c3 := Bool.eq_false_iff.mpr c3
  subst c3
  have H1 := (if_neg (show ¬ (false = true) by decide)).symm.trans H
  clear H
  have H := H1
  clear H1
  obtain rfl := Option.some.inj H
  go_enter Try.func19, Try.ntmps19
  go_wp2_with (first | ((with_reducible refine gate_dst (N := 1) rfl ?_); refine box_event ?hg (N := 1) ?hd (cs := #[.slice A0_0 l0_0.length c0_0, .int .i64 a0_1, .slice A0_2 l0_2.length c0_2]) (t := 30) ?hr ?_; (case hd => rfl); (case hg => rfl); (case hr => first | (go_simp; done) | (go_simp; rfl)); intro gb559 hg w20 hbox hb; have n0_ := Aside0.mk (below_step hB_ hb); have n1_ := Aside0.mk (hbox); have n2_ := Aside0.mk ((by rw [hg]; exact (below_size hB_) : w.heap.size ≤ gb559)); have n3_ := Aside0.mk ((by rw [hg]; exact (below_size hB_) : w.heap.size ≤ gb559)); clear HB; have HB := n0_; have BK559 := n1_; have GW559 := n2_; have GE559 := n3_; clear n0_ n1_ n2_ n3_; clear hb hbox hg; obtain ⟨hcz21_0, hcz21_1, hcz21_2, hfz21_0, hfz21_1, hfz21_2⟩ := blkc3_ BK559.out) | ((with_reducible refine gate_callee (f := 36) rfl ?_); refine gL_ (some 7) Try.func36 #[.agg #[.slice A0_0 l0_0.length c0_0, .int .i64 a0_1, .slice A0_2 l0_2.length c0_2]] ?_; (with_reducible refine (impl_isGraph.calls _ _ l0_0 a0_1 _ _ l0_2 false _ ?side1 ?side2 ?side3 ?side4 A2.out).mono ?_); (case side1 => repeat (first | exact (Kd.C_below HR0_0.out HB.out) | (with_reducible refine Kd.C_alloc ?_ _) | (with_reducible refine Kd.C_drewN ?_ _) | (with_reducible refine Kd.C_drew ?_))); (case side2 => exact HC0_0.out); (case side3 => repeat (first | exact (Kd.C_below HR0_2.out HB.out) | (with_reducible refine Kd.C_alloc ?_ _) | (with_reducible refine Kd.C_drewN ?_ _) | (with_reducible refine Kd.C_drew ?_))); (case side4 => exact HC0_2.out); rintro e w22 ⟨rfl, hb⟩; refine ⟨_, rfl, ?_⟩; have n0_ := Aside0.mk (blk_below (g := gb559) (o := .cells #[.slice A0_0 l0_0.length c0_0, .int .i64 a0_1, .slice A0_2 l0_2.length c0_2] 30 (0, 0)) bK559_ hb); have n1_ := Aside0.mk (below_step hS_ hb); clear BK559; clear HB; have BK559 := n0_; have HB := n1_; clear n0_ n1_; (try clear hb); (try clear hb2); (try clear hk); (try clear hi)))
  go_ret
  exact ⟨_, rG_, by first | exact Kd.R_nil _ _ _ _ _ | exact Kd.N_nil _ _ _ _ _ | exact Kd.V_nil _ _ _ _ _ | exact Kd.Q_nil _ _ _ _ _ | exact Kd.S_nil _ _ _ _ _, hS_⟩

end Go.Proofs.Ytobfgnjdcoidoaa.X
