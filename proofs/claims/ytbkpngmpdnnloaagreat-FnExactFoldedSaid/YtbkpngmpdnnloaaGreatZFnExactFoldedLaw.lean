/- PROVED HERE: the row of the law FnExactFolded: for every input the call returns true and each argument reads afterwards as before -/
import Derived.Test.YtbkpngmpdnnloaaGreatRows
import Derived.WalkKit
import Derived.ProofKit
import Derived.OpenShut
import Derived.ShutString
import Derived.ChangeOld
import Derived.Below
import Derived.SizedLaws
import Derived.Test.YtbkpngmpdnnloaaGreatZFnExactFolded4
import Derived.Test.YtbkpngmpdnnloaaGreatZFnExactFolded5
namespace Go.Proofs.YtbkpngmpdnnloaaGreat.fnExactFolded
open Go.ChangeShapes Go.WideShapes Go.ChangeAt Go.RowKit
open Go.ChangeMaps (open_string shut_string)
open Go.Proofs.YtbkpngmpdnnloaaGreat.V
set_option linter.unusedVariables false
theorem own : ownKnob Tryz.prog.godebug = none := by kernel_rfl
theorem laidOut : laidOutB Tryz.prog = true := by kernel_rfl
set_option maxRecDepth 100000 in
theorem lifted (os : Os) (started : os.Started) (H : Type) (enc : TypeId × Value → H) :
    ReturnsInHanded {} Tryz.checked os 3 .any (Rows.fnExactFoldedSpec.pre6 enc Tryz.prog Tryz.f3 Rows.fnExactFoldedRow.domain false) (Rows.fnExactFoldedSpec.post enc Tryz.prog Tryz.f3 false true false false) := by
  refine returnsInHanded_of_change_sized (C := Tryz.checked) own started (by kernel_rfl) Tryz.func3
    (ChangeSpec.witness6 (enc := enc) (C := Tryz.checked) false ⟨#[], #[.agg #[.slice none 0 0]], []⟩ 8 (by kernel_rfl) (by kernel_rfl) (by kernel_rfl) (by kernel_rfl)) ?_
  intro W base args ds gs before hval0 hW hcnd hsz0 _
  have hval : ∀ (j : Nat) t v, Tryz.f3.params[j]? = some t → args[j]? = some v → Value.okWide Tryz.prog W .any base t v := hval0
  have hW' := hW
  obtain ⟨p, q, hA0, hV, rfl, hfz, hnd⟩ := hW
  have hA : DataW.TrodAll enc Tryz.prog W 0 (fun _ => true) true Tryz.f3.params.toList args.toList ds p := hA0
  rw [Tryz.params3] at hA hval
  obtain ⟨v0, vs0, d0, ds0, p0, q0, hargs, rfl, rfl, h0, r0⟩ := trodAll_cons hA
  obtain ⟨rfl, rfl, rfl⟩ := trodAll_nil r0
  obtain rfl : args = #[v0] := by cases args; simp_all
  obtain ⟨rfl, rfl⟩ := trodVars_none hV
  obtain ⟨cs0, rfl, -⟩ := okWide_struct Tryz.underlying24 (hval 0 24 v0 rfl rfl)
  have k0 := h0
  have lt0 : ∀ x ∈ p0, x.block < W.heap.size := by obtain ⟨m, hm⟩ := k0; exact DataW.trod_lt m _ _ _ hm
  obtain ⟨y0, K0, wf_0⟩ : ∃ y : T.Den tModule, Rd (fun b => b < W.heap.size) W tModule y cs0.toList ∧ Wf tModule y := by
    obtain ⟨f, hf⟩ := h0
    exact (OpensC.whole (opensC24 _)) H enc W 0 _ _ f _ _ hf
  clear hA0 hval0 hsz0
  obtain ⟨k, hk⟩ := PureFnExactFolded (y0) wf_0
  refine (law_calls (x := (y0, ())) (laws_FnExactFolded.sound k) hk (lp0 _) ⟨_, _, rfl, rval_struct K0, rfl⟩).mono fun e W' ⟨he, bel⟩ => ?_
  subst he
  exact ⟨_, rfl, _, _, _, [], _, [], hW', trodAll_mk1 (shut_bool Tryz.underlying4 _), (trodAll_cons_mk (Below.trod laidOut (by kernel_rfl) (of_decide_eq_true (by kernel_rfl)) k0 bel lt0) trodAll_mk0), rfl, bel.frame _, fun h => by cases h⟩
theorem over : Rows.fnExactFoldedRow.holds Tryz.pinned (OpenSpec.ofChange Rows.fnExactFoldedSpec) :=
  OpenClaim.holds_of_wide 3 Tryz.f3 rfl rfl rfl rfl rfl rfl rfl ⟨rfl, rfl, rfl, rfl, rfl⟩ rfl rfl rfl rfl rfl (by kernel_rfl) Tryz.func3 (by kernel_rfl)
    (of_decide_eq_true (by kernel_rfl)) (by unfold Func.isWrapper; first | (rw [if_pos (by decide +kernel)]; kernel_rfl) | (rw [if_neg (by decide +kernel)]; exact ⟨rfl, rfl⟩))
    (fun os started H enc _ => lifted os started H enc)
theorem proved : Rows.FnExactFoldedSaid := over
#print axioms proved
end Go.Proofs.YtbkpngmpdnnloaaGreat.fnExactFolded
namespace Go.Proofs.YtbkpngmpdnnloaaGreat
/-- The row, under a short name, for the claim. -/
theorem fnExactFolded_holds : Rows.FnExactFoldedSaid := fnExactFolded.proved
end Go.Proofs.YtbkpngmpdnnloaaGreat
