/- PROVED HERE: the tied card of the law FnExactInstText: its row, closed by the given tie. -/
import Derived.Test.YtkfehogikjcgkaaDoorZFnExactInstTextLaw
import Derived.Test.YtkfehogikjcgkaaDoorTie
import Derived.Test.YtkfehogikjcgkaaDoorCards
import Derived.SevenTiedAt
namespace Go.Proofs.YtkfehogikjcgkaaDoor
open Go
theorem fnExactInstText_card : Rows.FnExactInstTextCardSaid :=
  Claim7.holds_tied_plain_at .later [] [.data, .data, .data, .data, .pinned] true (true, "3e1974833b37225085c3e325912d0103a50b81794e6e95b77405828b1c2b3b35") true
    fnExactInstText_holds (fun _ h => by cases h) (by kernel_rfl) (fun _ h => by cases h) fnExactInstText_row_tie rfl ⟨rfl, rfl⟩ (by kernel_rfl) rfl
    (fun f fn hf hfn => by
      obtain rfl : f = 3 := Option.some.inj ((show Tryd.prog.funcNamed "loop.example/g00457/laws.FnExactInstText" = some 3 by kernel_rfl).symm.trans hf) |>.symm
      obtain rfl : fn = Tryd.f3 := (Option.some.inj (Tryd.func3.symm.trans hfn)).symm
      exact ⟨by kernel_rfl, fun j t ht => by
        rw [Tryd.params3] at ht
        have hm : t ∈ [24] := by simpa using Array.mem_of_getElem? ht
        have hall : ([24].all fun u => !Tryd.prog.wantsStandIn u) = true := by kernel_rfl
        exact (show Tryd.prog.wantsStandIn t = false by simpa using List.all_eq_true.1 hall t hm)⟩)
    (by kernel_rfl)
#print axioms fnExactInstText_card
end Go.Proofs.YtkfehogikjcgkaaDoor
