/- PROVED HERE: the row of the law FnExactModuleBytes: for every input the call returns true and each argument reads afterwards as before -/
import Derived.Test.YtkfehogikjcgkaaRows
import Derived.WalkKit
import Derived.ProofKit
import Derived.OpenShut
import Derived.ShutString
import Derived.ChangeOld
import Derived.Below
import Derived.SizedLaws
import Derived.Test.YtkfehogikjcgkaaZFnExactModuleBytes3
import Derived.Test.YtkfehogikjcgkaaZFnExactModuleBytes4
namespace Go.Proofs.Ytkfehogikjcgkaa.fnExactModuleBytes
open Go.ChangeShapes Go.WideShapes Go.ChangeAt Go.RowKit
open Go.ChangeMaps (open_string shut_string)
open Go.Proofs.Ytkfehogikjcgkaa.V
set_option linter.unusedVariables false
theorem own : ownKnob Try.prog.godebug = none := by kernel_rfl
theorem laidOut : laidOutB Try.prog = true := by kernel_rfl
set_option maxRecDepth 100000 in
theorem lifted (os : Os) (started : os.Started) (H : Type) (enc : TypeId × Value → H) :
    ReturnsInHanded {} Try.checked os 7 .any (Rows.fnExactModuleBytesSpec.pre6 enc Try.prog Try.f7 Rows.fnExactModuleBytesRow.domain false) (Rows.fnExactModuleBytesSpec.post enc Try.prog Try.f7 false true false false) := by
  refine returnsInHanded_of_change_sized (C := Try.checked) own started (by kernel_rfl) Try.func7
    (ChangeSpec.witness6 (enc := enc) (C := Try.checked) false ⟨#[], #[.agg #[.slice none 0 0]], []⟩ 8 (by kernel_rfl) (by kernel_rfl) (by kernel_rfl) (by kernel_rfl)) ?_
  intro W base args ds gs before hval0 hW hcnd hsz0 _
  have hval : ∀ (j : Nat) t v, Try.f7.params[j]? = some t → args[j]? = some v → Value.okWide Try.prog W .any base t v := hval0
  have hW' := hW
  obtain ⟨p, q, hA0, hV, rfl, hfz, hnd⟩ := hW
  have hA : DataW.TrodAll enc Try.prog W 0 (fun _ => true) true Try.f7.params.toList args.toList ds p := hA0
  rw [Try.params7] at hA hval
  obtain ⟨v0, vs0, d0, ds0, p0, q0, hargs, rfl, rfl, h0, r0⟩ := trodAll_cons hA
  obtain ⟨rfl, rfl, rfl⟩ := trodAll_nil r0
  obtain rfl : args = #[v0] := by cases args; simp_all
  obtain ⟨rfl, rfl⟩ := trodVars_none hV
  obtain ⟨cs0, rfl, -⟩ := okWide_struct Try.underlying41 (hval 0 41 v0 rfl rfl)
  have k0 := h0
  have lt0 : ∀ x ∈ p0, x.block < W.heap.size := by obtain ⟨m, hm⟩ := k0; exact DataW.trod_lt m _ _ _ hm
  obtain ⟨y0, K0, wf_0⟩ : ∃ y : T.Den tModule, Rd (fun b => b < W.heap.size) W tModule y cs0.toList ∧ Wf tModule y := by
    obtain ⟨f, hf⟩ := h0
    exact (OpensC.whole (opensC41 _)) H enc W 0 _ _ f _ _ hf
  clear hA0 hval0 hsz0
  obtain ⟨k, hk⟩ := PureFnExactModuleBytes (y0) wf_0
  refine (law_calls (x := (y0, ())) (laws_FnExactModuleBytes.sound k) hk ⟨_, _, rfl, rval_struct K0, rfl⟩).mono fun e W' ⟨he, bel⟩ => ?_
  subst he
  exact ⟨_, rfl, _, _, _, [], _, [], hW', trodAll_mk1 (shut_bool Try.underlying4 _), (trodAll_cons_mk (Below.trod laidOut (by kernel_rfl) (of_decide_eq_true (by kernel_rfl)) k0 bel lt0) trodAll_mk0), rfl, bel.frame _, fun h => by cases h⟩
theorem over : Rows.fnExactModuleBytesRow.holds Try.pinned (OpenSpec.ofChange Rows.fnExactModuleBytesSpec) :=
  OpenClaim.holds_of_wide 7 Try.f7 rfl rfl rfl rfl rfl rfl rfl ⟨rfl, rfl, rfl, rfl, rfl⟩ rfl rfl rfl rfl rfl (by kernel_rfl) Try.func7 (by kernel_rfl)
    (of_decide_eq_true (by kernel_rfl)) (by unfold Func.isWrapper; first | (rw [if_pos (by decide +kernel)]; kernel_rfl) | (rw [if_neg (by decide +kernel)]; exact ⟨rfl, rfl⟩))
    (fun os started H enc _ => lifted os started H enc)
theorem proved : Rows.FnExactModuleBytesSaid := over
#print axioms proved
end Go.Proofs.Ytkfehogikjcgkaa.fnExactModuleBytes
namespace Go.Proofs.Ytkfehogikjcgkaa
/-- The row, under a short name, for the claim. -/
theorem fnExactModuleBytes_holds : Rows.FnExactModuleBytesSaid := fnExactModuleBytes.proved
end Go.Proofs.Ytkfehogikjcgkaa
