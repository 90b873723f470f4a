/- PROVED HERE: the row of the law FnExactReadInst: for every input the call returns true and each argument reads afterwards as before -/
import Derived.Test.YtlledfaplcgmdaaDoorRows
import Derived.Deep.DeepHandedRow
import Derived.Shelf.LaysM
import Derived.WalkKit
import Derived.ProofKit
import Derived.OpenShut
import Derived.ShutString
import Derived.ChangeOld
import Derived.Below
import Derived.SizedLaws
import Derived.Test.YtlledfaplcgmdaaDoorZFnExactReadInst2
import Derived.Test.YtlledfaplcgmdaaDoorZFnExactReadInst3
namespace Go.Proofs.YtlledfaplcgmdaaDoor.fnExactReadInst
open Go.ChangeShapes Go.WideShapes Go.ChangeAt Go.RowKit
open Go.ChangeMaps (open_string shut_string)
open Go.Proofs.YtlledfaplcgmdaaDoor.V
set_option linter.unusedVariables false
theorem own : ownKnob Tryd.prog.godebug = none := by kernel_rfl
theorem laidOut : laidOutB Tryd.prog = true := by kernel_rfl
noncomputable def low : Nat := (World.holding Tryd.prog default ⟨#[], #[], []⟩).heap.size
/-- The settled world, the tables holding what their texts lay: the witness. -/
noncomputable def laidWorld (os : Os) : World :=
  { World.holding Tryd.prog os ⟨#[.cells #[.string ⟨#[118, 97, 108, 117, 101, 32, 111, 117, 116, 32, 111, 102, 32, 114, 97, 110, 103, 101]⟩] 98, .cells #[.string ⟨#[105, 110, 118, 97, 108, 105, 100, 32, 115, 121, 110, 116, 97, 120]⟩] 98], #[], []⟩ with heap := lay1 (layE (layE (lay1 (lay1 (lay1 (lay1 ((World.holding Tryd.prog os ⟨#[.cells #[.string ⟨#[118, 97, 108, 117, 101, 32, 111, 117, 116, 32, 111, 102, 32, 114, 97, 110, 103, 101]⟩] 98, .cells #[.string ⟨#[105, 110, 118, 97, 108, 105, 100, 32, 115, 121, 110, 116, 97, 120]⟩] 98], #[], []⟩).heap) 6 Rows.laid_math_bits_deBruijn32tab) 7 Rows.laid_math_bits_deBruijn64tab) 3 Rows.laid_internal_strconv_uint64pow10) 5 Rows.laid_unicode_utf8_acceptRanges) 1 (low + 0)) 0 (low + 1)) 4 Rows.laid_unicode_utf8_first }
theorem laid_met (os : Os) (args : Array Value) : laidMet Tryd.prog Rows.fnExactReadInstRow.laid ((laidWorld os).forCall (fun _ _ => 0) ⟨#[], args, []⟩).memory :=
  laidMet_of_run' 8 (by kernel_rfl) (by kernel_rfl)
theorem witness_row (os : Os) {H : Type} (enc : TypeId × Value → H) :
    (OpenSpec.ofChange Rows.fnExactReadInstSpec).preRow enc Tryd.prog Tryd.f3 Rows.fnExactReadInstRow.domain false Rows.fnExactReadInstRow.laid ((laidWorld os).forCall (fun _ _ => 0) ⟨#[], #[.string ByteArray.empty], []⟩).memory #[.string ByteArray.empty] :=
  OpenSpec.preRow_of_B rfl 8 (by kernel_rfl) (by kernel_rfl) (laid_met os _)
set_option maxRecDepth 100000 in
theorem lifted (os : Os) (started : os.Started) (H : Type) (enc : TypeId × Value → H) (F : Stop.Interp) :
    ReturnsInHanded {} Tryd.checked os 3 .any ((OpenSpec.ofChange Rows.fnExactReadInstSpec).preRow enc Tryd.prog Tryd.f3 Rows.fnExactReadInstRow.domain false Rows.fnExactReadInstRow.laid) (((OpenSpec.ofChange Rows.fnExactReadInstSpec).at F).post enc Tryd.prog Tryd.f3 false true false false) := by
  refine returnsInHanded_of_row (C := Tryd.checked) (s := (OpenSpec.ofChange Rows.fnExactReadInstSpec)) own started (by kernel_rfl) Tryd.func3
    (witness_row_at (enc := enc) (C := Tryd.checked) false (laidWorld os) #[.string ByteArray.empty] rfl (by kernel_rfl) (by kernel_rfl) (by kernel_rfl) (witness_row os enc)) ?_
  intro W base args ds gs before hval0 hW _ hcond0 hsz0 hL hsh _
  have hval : ∀ (j : Nat) t v, Tryd.f3.params[j]? = some t → args[j]? = some v → Value.okWide Tryd.prog W .any base t v := hval0
  have hW' := hW
  obtain ⟨p, q, hA0, hV, rfl, hfz, hnd⟩ := hW
  have hA : DataW.TrodAll enc Tryd.prog W 0 (fun _ => true) true Tryd.f3.params.toList args.toList ds p := hA0
  rw [Tryd.params3] at hA hval
  obtain ⟨v0, vs0, d0, ds0, p0, q0, hargs, rfl, rfl, h0, r0⟩ := trodAll_cons hA
  obtain ⟨rfl, rfl, rfl⟩ := trodAll_nil r0
  obtain rfl : args = #[v0] := by cases args; simp_all
  obtain ⟨rfl, rfl⟩ := trodVars_none hV
  obtain ⟨a0, rfl, rfl, rfl, y0⟩ := open_string Tryd.underlying9 (hval 0 9 v0 rfl rfl) h0
  clear hA0 hval0 hsz0
  have hR := sentD gRange gRangeType (show laidMet _ (_ :: _) W from (show laidMet Tryd.prog Rows.fnExactReadInstRow.laid W from hL).tail.tail.tail.tail)
  have hS := sentD gSyntax gSyntaxType (show laidMet _ (_ :: _) W from (show laidMet Tryd.prog Rows.fnExactReadInstRow.laid W from hL).tail.tail.tail.tail.tail)
  have hm : ∃ m, W.cell? ⟨2, 0, none⟩ = some (.int .i64 m) := Tryd.lays146.s1_3 W hsh
  obtain ⟨ps, hv0, _⟩ := (show laidMet Tryd.prog Rows.fnExactReadInstRow.laid W from hL)
  obtain ⟨_, hv1⟩ := laid_next hv0
  obtain ⟨_, hv2⟩ := laid_next hv1
  have htab := tabD (by kernel_rfl) hv2
  obtain ⟨k, hk⟩ := PureFnExactReadInst (a0) (by show ByteArray.size a0 ≤ _; unfold maxLen at y0; omega)
  refine (law_calls (x := ((a0, ()), ())) (laws_FnExactReadInst.sound k) hk (lpD hm htab hS hR) ⟨_, _, rfl, rval_str, rfl⟩).mono fun e W' ⟨he, bel⟩ => ?_
  subst he
  exact ⟨_, rfl, _, _, _, [], _, [], hW', trodAll_mk1 (shut_bool Tryd.underlying4 _), (trodAll_cons_mk (shut_string Tryd.underlying9 y0) trodAll_mk0), rfl, bel.frame _, fun h => by cases h⟩
theorem over : Rows.fnExactReadInstRow.holds Tryd.pinned (OpenSpec.ofChange Rows.fnExactReadInstSpec) :=
  OpenClaim.holds_of_cond 3 Tryd.f3 rfl rfl rfl rfl rfl rfl rfl ⟨rfl, rfl, rfl, rfl, rfl⟩ rfl rfl rfl rfl rfl (by kernel_rfl) Tryd.func3 (by kernel_rfl)
    (of_decide_eq_true (by kernel_rfl)) (by unfold Func.isWrapper; first | (rw [if_pos (by decide +kernel)]; kernel_rfl) | (rw [if_neg (by decide +kernel)]; exact ⟨rfl, rfl⟩))
    (fun os started H enc _ F0 => by rw [OpenClaim.pre_eq_preRow]; exact lifted os started H enc F0)
theorem proved : Rows.FnExactReadInstSaid := over
#print axioms proved
end Go.Proofs.YtlledfaplcgmdaaDoor.fnExactReadInst
namespace Go.Proofs.YtlledfaplcgmdaaDoor
/-- The row, under a short name, for the claim. -/
theorem fnExactReadInst_holds : Rows.FnExactReadInstSaid := fnExactReadInst.proved
end Go.Proofs.YtlledfaplcgmdaaDoor
