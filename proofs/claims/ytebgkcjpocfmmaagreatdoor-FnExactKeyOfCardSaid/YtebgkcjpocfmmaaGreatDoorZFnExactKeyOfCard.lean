/- PROVED HERE: the tied card of the law FnExactKeyOf: its row, closed by the given tie. -/
import Derived.Test.YtebgkcjpocfmmaaGreatDoorZFnExactKeyOfLaw
import Derived.Test.YtebgkcjpocfmmaaGreatDoorTie
import Derived.Test.YtebgkcjpocfmmaaGreatDoorCards
import Derived.SevenTiedAt
namespace Go.Proofs.YtebgkcjpocfmmaaGreatDoor
open Go
theorem fnExactKeyOf_card : Rows.FnExactKeyOfCardSaid :=
  Claim7.holds_tied_plain_at .later [] [.data, .data, .data, .data, .pinned] true (true, "f6d3b34360d22d09671686d6943a11ef4e32ba2cc15794f1891d11dbd73d419c") false
    fnExactKeyOf_holds (fun _ h => by cases h) (by kernel_rfl) (fun _ h => by cases h) fnExactKeyOf_row_tie rfl ⟨rfl, rfl⟩ (by kernel_rfl) rfl
    (fun f fn hf hfn => by
      obtain rfl : f = 4 := Option.some.inj ((show Tryz.prog.funcNamed "loop.example/g00457/laws.FnExactKeyOf" = some 4 by kernel_rfl).symm.trans hf) |>.symm
      obtain rfl : fn = Tryz.f4 := (Option.some.inj (Tryz.func4.symm.trans hfn)).symm
      exact ⟨by kernel_rfl, fun j t ht => by
        rw [Tryz.params4] at ht
        have hm : t ∈ [38, 2] := by have := Array.mem_of_getElem? ht; simp at this ⊢; omega
        have hall : ([38, 2].all fun u => !Tryz.prog.wantsStandIn u) = true := by kernel_rfl
        exact (show Tryz.prog.wantsStandIn t = false by simpa using List.all_eq_true.1 hall t hm)⟩)
    (by kernel_rfl)
#print axioms fnExactKeyOf_card
end Go.Proofs.YtebgkcjpocfmmaaGreatDoor
