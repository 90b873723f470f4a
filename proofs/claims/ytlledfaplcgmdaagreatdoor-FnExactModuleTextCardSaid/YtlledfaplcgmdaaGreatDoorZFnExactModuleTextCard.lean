/- PROVED HERE: the tied card of the law FnExactModuleText: its row, closed by the given tie. -/
import Derived.Test.YtlledfaplcgmdaaGreatDoorZFnExactModuleTextLaw
import Derived.Test.YtlledfaplcgmdaaGreatDoorTie
import Derived.Test.YtlledfaplcgmdaaGreatDoorCards
import Derived.SevenTiedAt
namespace Go.Proofs.YtlledfaplcgmdaaGreatDoor
open Go
theorem fnExactModuleText_card : Rows.FnExactModuleTextCardSaid :=
  Claim7.holds_tied_plain_at .later [] [.data, .data, .data, .data, .pinned] true (true, "5806b178e63159e36e43db59a7c6bfd903662582ab5504c9a33389f437a77193") false
    fnExactModuleText_holds (fun _ h => by cases h) (by kernel_rfl) (fun _ h => by cases h) fnExactModuleText_row_tie rfl ⟨rfl, rfl⟩ (by kernel_rfl) rfl
    (fun f fn hf hfn => by
      obtain rfl : f = 3 := Option.some.inj ((show Tryz.prog.funcNamed "loop.example/g00457/laws.FnExactModuleText" = some 3 by kernel_rfl).symm.trans hf) |>.symm
      obtain rfl : fn = Tryz.f3 := (Option.some.inj (Tryz.func3.symm.trans hfn)).symm
      exact ⟨by kernel_rfl, fun j t ht => by
        rw [Tryz.params3] at ht
        have hm : t ∈ [24] := by have := Array.mem_of_getElem? ht; simp at this ⊢; omega
        have hall : ([24].all fun u => !Tryz.prog.wantsStandIn u) = true := by kernel_rfl
        exact (show Tryz.prog.wantsStandIn t = false by simpa using List.all_eq_true.1 hall t hm)⟩)
    (by kernel_rfl)
#print axioms fnExactModuleText_card
end Go.Proofs.YtlledfaplcgmdaaGreatDoor
