/- PROVED HERE: the tied card of the law FnExactShared: its row, closed by the given tie. -/
import Derived.Test.YtbkpngmpdnnloaaGreatDoorZFnExactSharedLaw
import Derived.Test.YtbkpngmpdnnloaaGreatDoorTie
import Derived.Test.YtbkpngmpdnnloaaGreatDoorCards
import Derived.SevenTiedAt
namespace Go.Proofs.YtbkpngmpdnnloaaGreatDoor
open Go
theorem fnExactShared_card : Rows.FnExactSharedCardSaid :=
  Claim7.holds_tied_plain_at .later [] [.data, .data, .data, .data, .pinned] true (true, "4794734dace8ad5cc0bcacfe369567c0c34ed1cecf616106dbeee720351f2124") false
    fnExactShared_holds (fun _ h => by cases h) (by kernel_rfl) (fun _ h => by cases h) fnExactShared_row_tie rfl ⟨rfl, rfl⟩ (by kernel_rfl) rfl
    (fun f fn hf hfn => by
      obtain rfl : f = 3 := Option.some.inj ((show Tryz.prog.funcNamed "loop.example/g00457/laws.FnExactShared" = some 3 by kernel_rfl).symm.trans hf) |>.symm
      obtain rfl : fn = Tryz.f3 := (Option.some.inj (Tryz.func3.symm.trans hfn)).symm
      exact ⟨by kernel_rfl, fun j t ht => by
        rw [Tryz.params3] at ht
        have hm : t ∈ [24] := by have := Array.mem_of_getElem? ht; simp at this ⊢; omega
        have hall : ([24].all fun u => !Tryz.prog.wantsStandIn u) = true := by kernel_rfl
        exact (show Tryz.prog.wantsStandIn t = false by simpa using List.all_eq_true.1 hall t hm)⟩)
    (by kernel_rfl)
#print axioms fnExactShared_card
end Go.Proofs.YtbkpngmpdnnloaaGreatDoor
