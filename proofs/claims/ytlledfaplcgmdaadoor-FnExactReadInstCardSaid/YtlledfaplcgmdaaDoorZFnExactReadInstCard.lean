/- PROVED HERE: the tied card of the law FnExactReadInst: its row, closed by the given tie. -/
import Derived.Test.YtlledfaplcgmdaaDoorZFnExactReadInstLaw
import Derived.Test.YtlledfaplcgmdaaDoorTie
import Derived.Test.YtlledfaplcgmdaaDoorCards
import Derived.SevenTiedAt
namespace Go.Proofs.YtlledfaplcgmdaaDoor
open Go
theorem fnExactReadInst_card : Rows.FnExactReadInstCardSaid :=
  Claim7.holds_tied_plain_at .later [] [.data, .data, .data, .data, .sentinel, .sentinel, .pinned] true (true, "ba3ed903bb5898871f1fc02567e74eb8f35d21342137f4360cec322d306f12aa") true
    fnExactReadInst_holds (fun _ h => by cases h) (by kernel_rfl) (fun _ h => by cases h) fnExactReadInst_row_tie rfl ⟨rfl, rfl⟩ (by kernel_rfl) rfl
    (fun f fn hf hfn => by
      obtain rfl : f = 3 := Option.some.inj ((show Tryd.prog.funcNamed "loop.example/g00457/laws.FnExactReadInst" = some 3 by kernel_rfl).symm.trans hf) |>.symm
      obtain rfl : fn = Tryd.f3 := (Option.some.inj (Tryd.func3.symm.trans hfn)).symm
      exact ⟨by kernel_rfl, fun j t ht => by
        rw [Tryd.params3] at ht
        have hm : t ∈ [9] := by have := Array.mem_of_getElem? ht; simp at this ⊢; omega
        have hall : ([9].all fun u => !Tryd.prog.wantsStandIn u) = true := by kernel_rfl
        exact (show Tryd.prog.wantsStandIn t = false by simpa using List.all_eq_true.1 hall t hm)⟩)
    (by kernel_rfl)
#print axioms fnExactReadInst_card
end Go.Proofs.YtlledfaplcgmdaaDoor
