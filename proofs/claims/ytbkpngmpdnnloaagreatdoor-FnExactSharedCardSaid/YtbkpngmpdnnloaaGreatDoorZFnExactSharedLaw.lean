/- PROVED HERE: the row of the law FnExactShared: for every input the call returns true and each argument reads afterwards as before -/
import Derived.Test.YtbkpngmpdnnloaaGreatDoorRows
import Derived.Deep.DeepHandedRow
import Derived.Shelf.LaysM
import Derived.WalkKit
import Derived.ProofKit
import Derived.OpenShut
import Derived.ShutString
import Derived.ChangeOld
import Derived.Below
import Derived.SizedLaws
import Derived.Test.YtbkpngmpdnnloaaGreatDoorZFnExactShared4
import Derived.Test.YtbkpngmpdnnloaaGreatDoorZFnExactShared5
namespace Go.Proofs.YtbkpngmpdnnloaaGreatDoor.fnExactShared
open Go.ChangeShapes Go.WideShapes Go.ChangeAt Go.RowKit
open Go.ChangeMaps (open_string shut_string)
open Go.Proofs.YtbkpngmpdnnloaaGreatDoor.V
set_option linter.unusedVariables false
theorem own : ownKnob Tryz.prog.godebug = none := by kernel_rfl
theorem laidOut : laidOutB Tryz.prog = true := by kernel_rfl
/-- The settled world, the tables holding what their texts lay: the witness. -/
noncomputable def laidWorld (os : Os) : World :=
  { World.holding Tryz.prog os ⟨#[], #[], []⟩ with heap := lay1 (lay1 (lay1 (lay1 (lay1 (World.holding Tryz.prog os ⟨#[], #[], []⟩).heap 2 Rows.laid_math_bits_deBruijn32tab) 3 Rows.laid_math_bits_deBruijn64tab) 0 Rows.laid_internal_strconv_uint64pow10) 5 Rows.laid_unicode_utf8_acceptRanges) 4 Rows.laid_unicode_utf8_first }
theorem laid_met (os : Os) (args : Array Value) : laidMet Tryz.prog Rows.fnExactSharedRow.laid ((laidWorld os).forCall (fun _ _ => 0) ⟨#[], args, []⟩).memory :=
  laidMet_of_run' 8 (by kernel_rfl) (by kernel_rfl)
theorem witness_row (os : Os) {H : Type} (enc : TypeId × Value → H) :
    (OpenSpec.ofChange Rows.fnExactSharedSpec).preRow enc Tryz.prog Tryz.f3 Rows.fnExactSharedRow.domain false Rows.fnExactSharedRow.laid ((laidWorld os).forCall (fun _ _ => 0) ⟨#[], #[.agg #[.slice none 0 0]], []⟩).memory #[.agg #[.slice none 0 0]] :=
  OpenSpec.preRow_of_B rfl 8 (by kernel_rfl) (by kernel_rfl) (laid_met os _)
set_option maxRecDepth 100000 in
theorem lifted (os : Os) (started : os.Started) (H : Type) (enc : TypeId × Value → H) (F : Stop.Interp) :
    ReturnsInHanded {} Tryz.checked os 3 .any ((OpenSpec.ofChange Rows.fnExactSharedSpec).preRow enc Tryz.prog Tryz.f3 Rows.fnExactSharedRow.domain false Rows.fnExactSharedRow.laid) (((OpenSpec.ofChange Rows.fnExactSharedSpec).at F).post enc Tryz.prog Tryz.f3 false true false false) := by
  refine returnsInHanded_of_row (C := Tryz.checked) (s := (OpenSpec.ofChange Rows.fnExactSharedSpec)) own started (by kernel_rfl) Tryz.func3
    (witness_row_at (enc := enc) (C := Tryz.checked) false (laidWorld os) #[.agg #[.slice none 0 0]] rfl (by kernel_rfl) (by kernel_rfl) (by kernel_rfl) (witness_row os enc)) ?_
  intro W base args ds gs before hval0 hW _ hcond0 hsz0 hL hsh _
  have hval : ∀ (j : Nat) t v, Tryz.f3.params[j]? = some t → args[j]? = some v → Value.okWide Tryz.prog W .any base t v := hval0
  have hW' := hW
  obtain ⟨p, q, hA0, hV, rfl, hfz, hnd⟩ := hW
  have hA : DataW.TrodAll enc Tryz.prog W 0 (fun _ => true) true Tryz.f3.params.toList args.toList ds p := hA0
  rw [Tryz.params3] at hA hval
  obtain ⟨v0, vs0, d0, ds0, p0, q0, hargs, rfl, rfl, h0, r0⟩ := trodAll_cons hA
  obtain ⟨rfl, rfl, rfl⟩ := trodAll_nil r0
  obtain rfl : args = #[v0] := by cases args; simp_all
  obtain ⟨rfl, rfl⟩ := trodVars_none hV
  obtain ⟨cs0, rfl, -⟩ := okWide_struct Tryz.underlying24 (hval 0 24 v0 rfl rfl)
  have k0 := h0
  have lt0 : ∀ x ∈ p0, x.block < W.heap.size := by obtain ⟨m, hm⟩ := k0; exact DataW.trod_lt m _ _ _ hm
  obtain ⟨y0, K0, wf_0⟩ : ∃ y : T.Den tModule, Rd (fun b => b < W.heap.size) W tModule y cs0.toList ∧ Wf tModule y := by
    obtain ⟨f, hf⟩ := h0
    exact (OpensC.whole (opensC24 _)) H enc W 0 _ _ f _ _ hf
  clear hA0 hval0 hsz0
  have hm : ∃ m, W.cell? ⟨1, 0, none⟩ = some (.int .i64 m) := Tryz.lays146.s1_3 W hsh
  obtain ⟨ps, hv0, _⟩ := (show laidMet Tryz.prog Rows.fnExactSharedRow.laid W from hL)
  obtain ⟨_, hv1⟩ := laid_next hv0
  obtain ⟨_, hv2⟩ := laid_next hv1
  have htab := tabD (by kernel_rfl) hv2
  obtain ⟨k, hk⟩ := PureFnExactShared (y0) wf_0
  refine (law_calls (x := (y0, ())) (laws_FnExactShared.sound k) hk (lpD hm htab) ⟨_, _, rfl, rval_struct K0, rfl⟩).mono fun e W' ⟨he, bel⟩ => ?_
  subst he
  exact ⟨_, rfl, _, _, _, [], _, [], hW', trodAll_mk1 (shut_bool Tryz.underlying4 _), (trodAll_cons_mk (Below.trod laidOut (by kernel_rfl) (of_decide_eq_true (by kernel_rfl)) k0 bel lt0) trodAll_mk0), rfl, bel.frame _, fun h => by cases h⟩
theorem over : Rows.fnExactSharedRow.holds Tryz.pinned (OpenSpec.ofChange Rows.fnExactSharedSpec) :=
  OpenClaim.holds_of_cond 3 Tryz.f3 rfl rfl rfl rfl rfl rfl rfl ⟨rfl, rfl, rfl, rfl, rfl⟩ rfl rfl rfl rfl rfl (by kernel_rfl) Tryz.func3 (by kernel_rfl)
    (of_decide_eq_true (by kernel_rfl)) (by unfold Func.isWrapper; first | (rw [if_pos (by decide +kernel)]; kernel_rfl) | (rw [if_neg (by decide +kernel)]; exact ⟨rfl, rfl⟩))
    (fun os started H enc _ F0 => by rw [OpenClaim.pre_eq_preRow]; exact lifted os started H enc F0)
theorem proved : Rows.FnExactSharedSaid := over
#print axioms proved
end Go.Proofs.YtbkpngmpdnnloaaGreatDoor.fnExactShared
namespace Go.Proofs.YtbkpngmpdnnloaaGreatDoor
/-- The row, under a short name, for the claim. -/
theorem fnExactShared_holds : Rows.FnExactSharedSaid := fnExactShared.proved
end Go.Proofs.YtbkpngmpdnnloaaGreatDoor
