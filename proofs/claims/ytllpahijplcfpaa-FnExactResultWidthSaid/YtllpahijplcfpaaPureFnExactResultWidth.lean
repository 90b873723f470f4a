/- PROVED HERE: ResultWidth of the program and of the reference are one, at all arguments. (the statement over numbers and texts; no condition beyond the statement's own bounds) -/
import Derived.Test.YtllpahijplcfpaaPFnExactResultWidthx1
namespace Go.Proofs.Ytllpahijplcfpaa.Pure
open Go.RowKit Go.Proofs.Ytllpahijplcfpaa.PFnExactResultWidth Go.Proofs.YtllpahijplcfpaaW.PrintWords Go.Proofs.YtllpahijplcfpaaW.PrintLast

def wok (w : Int) : Bool := w == 1 || w == 8 || w == 16 || w == 32
theorem wok_cases {w : Int} (h : wok w = true) : w = 1 ∨ w = 8 ∨ w = 16 ∨ w = 32 := by
  simp [wok] at h; omega
theorem specWidthOk (w : Int) : spec_WidthOk.f w = some (wok w) := by
  unfold spec_WidthOk.f wok
  by_cases h1 : w = 1 <;> by_cases h2 : w = 8 <;> by_cases h3 : w = 16 <;> simp [h1, h2, h3]
theorem implWidthOk (w : Int) : impl_WidthOk.f w = some (wok w) := by
  unfold impl_WidthOk.f wok
  by_cases h1 : w = 1 <;> by_cases h2 : w = 8 <;> by_cases h3 : w = 16 <;> simp [h1, h2, h3]

theorem specIn (a b c : Int) : spec_l1In.f a b c = some (decide (b ≤ a ∧ a ≤ c)) := by
  unfold spec_l1In.f
  by_cases h : a ≥ b
  · rw [if_pos h]; have h' : b ≤ a := h; simp [h']
  · rw [if_neg h]; have h' : ¬ b ≤ a := h; simp [h']
theorem implWithin (a b c : Int) : impl_within.f a b c = some (decide (b ≤ a ∧ a ≤ c)) := by
  unfold impl_within.f
  by_cases h : a ≥ b
  · rw [if_pos h]; have h' : b ≤ a := h; simp [h']
  · rw [if_neg h]; have h' : ¬ b ≤ a := h; simp [h']
theorem FnExactResultWidth : laws_FnExactResultWidth.Pure := by
  intro a0 a1 _ _
  refine ⟨1, ?_⟩
  unfold laws_FnExactResultWidth.f spec_ResultWidth.f impl_ResultWidth.f impl_isBinary.f
  rw [specWidthOk, implWidthOk, specIn, implWithin]; simp only [Option.bind_some]
  cases wok a1 <;> cases decide (1 ≤ a0 ∧ a0 ≤ 17) <;> simp [spec_ResultWidth.j0, impl_ResultWidth.j0] <;> split <;> simp

end Go.Proofs.Ytllpahijplcfpaa.Pure
