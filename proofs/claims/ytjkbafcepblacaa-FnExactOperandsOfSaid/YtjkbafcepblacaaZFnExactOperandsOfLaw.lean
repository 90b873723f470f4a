/- PROVED HERE: the row of the law FnExactOperandsOf: for every input the call returns true and each argument reads afterwards as before -/
import Derived.Test.YtjkbafcepblacaaRows
import Derived.WalkKit
import Derived.ProofKit
import Derived.OpenShut
import Derived.ShutString
import Derived.ChangeOld
import Derived.Below
import Derived.SizedLaws
import Derived.Test.YtjkbafcepblacaaWSized
import Derived.Test.YtjkbafcepblacaaZFnExactOperandsOf1
import Derived.Test.YtjkbafcepblacaaZFnExactOperandsOf2
namespace Go.Proofs.Ytjkbafcepblacaa.fnExactOperandsOf
open Go.ChangeShapes Go.WideShapes Go.ChangeAt Go.RowKit
open Go.ChangeMaps (open_string shut_string)
open Go.Proofs.Ytjkbafcepblacaa.X Go.Proofs.YtjkbafcepblacaaW.PrintWords Go.Proofs.YtjkbafcepblacaaW.PrintLast
set_option linter.unusedVariables false
theorem own : ownKnob Try.prog.godebug = none := by kernel_rfl
theorem laidOut : laidOutB Try.prog = true := by kernel_rfl
set_option maxRecDepth 100000 in
theorem lifted (os : Os) (started : os.Started) (H : Type) (enc : TypeId × Value → H) :
    ReturnsInHanded {} Try.checked os 3 .any (Rows.fnExactOperandsOfSpec.pre6 enc Try.prog Try.f3 Rows.fnExactOperandsOfRow.domain false) (Rows.fnExactOperandsOfSpec.post enc Try.prog Try.f3 false true false false) := by
  refine returnsInHanded_of_change_sized (C := Try.checked) own started (by kernel_rfl) Try.func3
    (ChangeSpec.witness6 (enc := enc) (C := Try.checked) false ⟨#[], #[.agg #[.int .i64 0, .int .i64 0, .int .i64 0, .int .i64 0, .int .i64 0, .int .i64 0, .slice none 0 0]], []⟩ 8 (by kernel_rfl) (by kernel_rfl) (by kernel_rfl) (by kernel_rfl)) ?_
  intro W base args ds gs before hval0 hW hcnd hsz0 _
  have hsz : (DataW.weightsEach Try.prog (Try.f3.params.toList ++ Rows.fnExactOperandsOfSpec.plain.varTypes Try.prog) (ds ++ gs)).all (· ≤ reachBytes) = true := hsz0
  have hval : ∀ (j : Nat) t v, Try.f3.params[j]? = some t → args[j]? = some v → Value.okWide Try.prog W .any base t v := hval0
  have hW' := hW
  obtain ⟨p, q, hA0, hV, rfl, hfz, hnd⟩ := hW
  have hA : DataW.TrodAll enc Try.prog W 0 (fun _ => true) true Try.f3.params.toList args.toList ds p := hA0
  rw [Try.params3] at hA hval hsz
  obtain ⟨v0, vs0, d0, ds0, p0, q0, hargs, rfl, rfl, h0, r0⟩ := trodAll_cons hA
  obtain ⟨rfl, rfl, rfl⟩ := trodAll_nil r0
  obtain rfl : args = #[v0] := by cases args; simp_all
  obtain ⟨rfl, rfl⟩ := trodVars_none hV
  have k0 := h0
  have lt0 : ∀ x ∈ p0, x.block < W.heap.size := by obtain ⟨m, hm⟩ := k0; exact DataW.trod_lt m _ _ _ hm
  obtain ⟨y0, K0, wf_0⟩ : ∃ y, Kd.K k24 W y v0.cells.toList ∧ wf24 y := by
    obtain ⟨f, hf⟩ := h0
    exact (opens24) enc W 0 _ _ f _ _ hf
  obtain ⟨A0_6, c0_6, e0, m0_6, g0_6⟩ := k24_open K0
  have f0 := agg_of_cells (v := v0) (by rw [e0]; simp)
  rw [e0] at f0
  replace f0 : v0 = .agg #[.int .i64 y0.f0, .int .i64 y0.f1, .int .i64 y0.f2, .int .i64 y0.f3, .int .i64 y0.f4, .int .i64 y0.f5, .slice A0_6 y0.f6.length c0_6] := f0
  subst f0
  clear hA0 hval0 hsz0 hsz
  obtain ⟨k, hk⟩ := Pure.FnExactOperandsOf (y0.f0) (y0.f1) (y0.f2) (y0.f3) (y0.f4) (y0.f5) (y0.f6) wf_0
  refine (laws_FnExactOperandsOf.calls k (y0.f0) (y0.f1) (y0.f2) (y0.f3) (y0.f4) (y0.f5) _ _ (y0.f6) true W g0_6 m0_6 hk).mono fun e W' ⟨he, bel0⟩ => ?_
  have bel : Below W.heap.size W W' := bel0
  subst he
  exact ⟨_, rfl, _, _, _, [], _, [], hW', trodAll_mk1 (shut_bool Try.underlying4 _), (trodAll_cons_mk (Below.trod laidOut (by kernel_rfl) (of_decide_eq_true (by kernel_rfl)) k0 bel lt0) trodAll_mk0), rfl, bel.frame _, fun h => by cases h⟩
theorem over : Rows.fnExactOperandsOfRow.holds Try.pinned (OpenSpec.ofChange Rows.fnExactOperandsOfSpec) :=
  OpenClaim.holds_of_wide 3 Try.f3 rfl rfl rfl rfl rfl rfl rfl ⟨rfl, rfl, rfl, rfl, rfl⟩ rfl rfl rfl rfl rfl (by kernel_rfl) Try.func3 (by kernel_rfl)
    (of_decide_eq_true (by kernel_rfl)) (by unfold Func.isWrapper; first | (rw [if_pos (by decide +kernel)]; kernel_rfl) | (rw [if_neg (by decide +kernel)]; exact ⟨rfl, rfl⟩))
    (fun os started H enc _ => lifted os started H enc)
theorem proved : Rows.FnExactOperandsOfSaid := over
#print axioms proved
end Go.Proofs.Ytjkbafcepblacaa.fnExactOperandsOf
namespace Go.Proofs.Ytjkbafcepblacaa
/-- The row, under a short name, for the claim. -/
theorem fnExactOperandsOf_holds : Rows.FnExactOperandsOfSaid := fnExactOperandsOf.proved
end Go.Proofs.Ytjkbafcepblacaa
