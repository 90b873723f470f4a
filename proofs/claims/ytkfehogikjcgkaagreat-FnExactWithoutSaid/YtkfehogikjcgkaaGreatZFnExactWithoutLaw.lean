/- PROVED HERE: the row of the law FnExactWithout: for every input the call returns true and each argument reads afterwards as before -/
import Derived.Test.YtkfehogikjcgkaaGreatRows
import Derived.WalkKit
import Derived.ProofKit
import Derived.OpenShut
import Derived.ShutString
import Derived.ChangeOld
import Derived.Below
import Derived.SizedLaws
import Derived.Test.YtkfehogikjcgkaaGreatZFnExactWithout4
import Derived.Test.YtkfehogikjcgkaaGreatZFnExactWithout5
namespace Go.Proofs.YtkfehogikjcgkaaGreat.fnExactWithout
open Go.ChangeShapes Go.WideShapes Go.ChangeAt Go.RowKit
open Go.ChangeMaps (open_string shut_string)
open Go.Proofs.YtkfehogikjcgkaaGreat.V
set_option linter.unusedVariables false
theorem own : ownKnob Tryz.prog.godebug = none := by kernel_rfl
theorem laidOut : laidOutB Tryz.prog = true := by kernel_rfl
set_option maxRecDepth 100000 in
theorem lifted (os : Os) (started : os.Started) (H : Type) (enc : TypeId × Value → H) :
    ReturnsInHanded {} Tryz.checked os 3 .any (Rows.fnExactWithoutSpec.pre6 enc Tryz.prog Tryz.f3 Rows.fnExactWithoutRow.domain false) (Rows.fnExactWithoutSpec.post enc Tryz.prog Tryz.f3 false true false false) := by
  refine returnsInHanded_of_change_sized (C := Tryz.checked) own started (by kernel_rfl) Tryz.func3
    (ChangeSpec.witness6 (enc := enc) (C := Tryz.checked) false ⟨#[], #[.agg #[.slice none 0 0, .int .i64 0, .slice none 0 0], .slice none 0 0], []⟩ 8 (by kernel_rfl) (by kernel_rfl) (by kernel_rfl) (by kernel_rfl)) ?_
  intro W base args ds gs before hval0 hW hcnd hsz0 _
  have hval : ∀ (j : Nat) t v, Tryz.f3.params[j]? = some t → args[j]? = some v → Value.okWide Tryz.prog W .any base t v := hval0
  have hW' := hW
  obtain ⟨p, q, hA0, hV, rfl, hfz, hnd⟩ := hW
  have hA : DataW.TrodAll enc Tryz.prog W 0 (fun _ => true) true Tryz.f3.params.toList args.toList ds p := hA0
  rw [Tryz.params3] at hA hval
  obtain ⟨v0, vs0, d0, ds0, p0, q0, hargs, rfl, rfl, h0, r0⟩ := trodAll_cons hA
  obtain ⟨v1, vs1, d1, ds1, p1, q1, rfl, rfl, rfl, h1, r1⟩ := trodAll_cons r0
  obtain ⟨rfl, rfl, rfl⟩ := trodAll_nil r1
  obtain rfl : args = #[v0, v1] := by cases args; simp_all
  obtain ⟨rfl, rfl⟩ := trodVars_none hV
  obtain ⟨cs0, rfl, -⟩ := okWide_struct Tryz.underlying25 (hval 0 25 v0 rfl rfl)
  have k0 := h0
  have lt0 : ∀ x ∈ p0, x.block < W.heap.size := by obtain ⟨m, hm⟩ := k0; exact DataW.trod_lt m _ _ _ hm
  obtain ⟨y0, K0, wf_0⟩ : ∃ y : T.Den tFunc, Rd (fun b => b < W.heap.size) W tFunc y cs0.toList ∧ Wf tFunc y := by
    obtain ⟨f, hf⟩ := h0
    exact (OpensC.whole (opensC25 _)) H enc W 0 _ _ f _ _ hf
  have k1 := h1
  have lt1 : ∀ x ∈ p1, x.block < W.heap.size := by obtain ⟨m, hm⟩ := k1; exact DataW.trod_lt m _ _ _ hm
  obtain ⟨b1, len1, cap1, rfl⟩ := okWide_slice Tryz.underlying22 (hval 1 22 v1 rfl rfl)
  obtain ⟨y1, K1, wf_1⟩ : ∃ y : T.Den (.list (.int .i64)), Rd (fun b => b < W.heap.size) W (.list (.int .i64)) y [.slice b1 len1 cap1] ∧ Wf (.list (.int .i64)) y := by
    obtain ⟨f, hf⟩ := h1
    exact (opens_list Tryz.underlying22 (by kernel_rfl) (by decide) (opens_int Tryz.underlying2)) H enc W 0 _ _ f _ _ hf
  clear hA0 hval0 hsz0
  obtain ⟨k, hk⟩ := PureFnExactWithout (y0) (y1) wf_0 wf_1
  refine (law_calls (x := (y0, ((y1, ()), ()))) (laws_FnExactWithout.sound k) hk ⟨_, _, rfl, rval_struct K0, ⟨_, _, rfl, rval_list K1, rfl⟩⟩).mono fun e W' ⟨he, bel⟩ => ?_
  subst he
  exact ⟨_, rfl, _, _, _, [], _, [], hW', trodAll_mk1 (shut_bool Tryz.underlying4 _), (trodAll_cons_mk (Below.trod laidOut (by kernel_rfl) (of_decide_eq_true (by kernel_rfl)) k0 bel lt0) (trodAll_cons_mk (Below.trod laidOut (by kernel_rfl) (of_decide_eq_true (by kernel_rfl)) k1 bel lt1) trodAll_mk0)), rfl, bel.frame _, fun h => by cases h⟩
theorem over : Rows.fnExactWithoutRow.holds Tryz.pinned (OpenSpec.ofChange Rows.fnExactWithoutSpec) :=
  OpenClaim.holds_of_wide 3 Tryz.f3 rfl rfl rfl rfl rfl rfl rfl ⟨rfl, rfl, rfl, rfl, rfl⟩ rfl rfl rfl rfl rfl (by kernel_rfl) Tryz.func3 (by kernel_rfl)
    (of_decide_eq_true (by kernel_rfl)) (by unfold Func.isWrapper; first | (rw [if_pos (by decide +kernel)]; kernel_rfl) | (rw [if_neg (by decide +kernel)]; exact ⟨rfl, rfl⟩))
    (fun os started H enc _ => lifted os started H enc)
theorem proved : Rows.FnExactWithoutSaid := over
#print axioms proved
end Go.Proofs.YtkfehogikjcgkaaGreat.fnExactWithout
namespace Go.Proofs.YtkfehogikjcgkaaGreat
/-- The row, under a short name, for the claim. -/
theorem fnExactWithout_holds : Rows.FnExactWithoutSaid := fnExactWithout.proved
end Go.Proofs.YtkfehogikjcgkaaGreat
