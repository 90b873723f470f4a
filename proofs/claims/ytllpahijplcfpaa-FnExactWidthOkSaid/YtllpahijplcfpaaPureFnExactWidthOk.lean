/- PROVED HERE: WidthOk of the program and of the reference are one, at every width. (the statement over numbers and texts; no condition beyond the statement's own bounds) -/
import Derived.Test.YtllpahijplcfpaaPFnExactWidthOkx1
namespace Go.Proofs.Ytllpahijplcfpaa.Pure
open Go.RowKit Go.Proofs.Ytllpahijplcfpaa.PFnExactWidthOk Go.Proofs.YtllpahijplcfpaaW.PrintWords Go.Proofs.YtllpahijplcfpaaW.PrintLast

def wok (w : Int) : Bool := w == 1 || w == 8 || w == 16 || w == 32
theorem wok_cases {w : Int} (h : wok w = true) : w = 1 ∨ w = 8 ∨ w = 16 ∨ w = 32 := by
  simp [wok] at h; omega
theorem specWidthOk (w : Int) : spec_WidthOk.f w = some (wok w) := by
  unfold spec_WidthOk.f wok
  by_cases h1 : w = 1 <;> by_cases h2 : w = 8 <;> by_cases h3 : w = 16 <;> simp [h1, h2, h3]
theorem implWidthOk (w : Int) : impl_WidthOk.f w = some (wok w) := by
  unfold impl_WidthOk.f wok
  by_cases h1 : w = 1 <;> by_cases h2 : w = 8 <;> by_cases h3 : w = 16 <;> simp [h1, h2, h3]

theorem FnExactWidthOk : laws_FnExactWidthOk.Pure := by
  intro a0 _
  unfold laws_FnExactWidthOk.f
  rw [specWidthOk, implWidthOk]; simp

end Go.Proofs.Ytllpahijplcfpaa.Pure
