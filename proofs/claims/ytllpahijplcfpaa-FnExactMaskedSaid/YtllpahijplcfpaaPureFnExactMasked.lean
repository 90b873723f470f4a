/- PROVED HERE: Masked of the program and of the reference are one, at all arguments. (the statement over numbers and texts; no condition beyond the statement's own bounds) -/
import Derived.Test.YtllpahijplcfpaaPFnExactMaskedx1
namespace Go.Proofs.Ytllpahijplcfpaa.Pure
open Go.RowKit Go.Proofs.Ytllpahijplcfpaa.PFnExactMasked Go.Proofs.YtllpahijplcfpaaW.PrintWords Go.Proofs.YtllpahijplcfpaaW.PrintLast

def wok (w : Int) : Bool := w == 1 || w == 8 || w == 16 || w == 32
theorem wok_cases {w : Int} (h : wok w = true) : w = 1 ∨ w = 8 ∨ w = 16 ∨ w = 32 := by
  simp [wok] at h; omega
theorem specWidthOk (w : Int) : spec_WidthOk.f w = some (wok w) := by
  unfold spec_WidthOk.f wok
  by_cases h1 : w = 1 <;> by_cases h2 : w = 8 <;> by_cases h3 : w = 16 <;> simp [h1, h2, h3]
theorem implWidthOk (w : Int) : impl_WidthOk.f w = some (wok w) := by
  unfold impl_WidthOk.f wok
  by_cases h1 : w = 1 <;> by_cases h2 : w = 8 <;> by_cases h3 : w = 16 <;> simp [h1, h2, h3]

def top (w : Int) : Int := 2 ^ w.toNat
theorem specTop {w : Int} (h : wok w = true) : spec_l1Top.f w = some (top w) := by
  rcases wok_cases h with rfl | rfl | rfl | rfl <;> decide +kernel
theorem implMask {w : Int} (h : wok w = true) : impl_mask.f w = some (top w - 1) := by
  rcases wok_cases h with rfl | rfl | rfl | rfl <;> decide +kernel
theorem wrapTop {w : Int} (h : wok w = true) : wrap64 (top w - 1) = top w - 1 := by
  rcases wok_cases h with rfl | rfl | rfl | rfl <;> decide +kernel

def masked (w n : Int) : Int := if wok w = true then Go.bits .and .i64 n (top w - 1) else 0
theorem specMasked (w n : Int) : spec_Masked.f w n = some (masked w n) := by
  unfold spec_Masked.f masked
  rw [specWidthOk]; simp only [Option.bind_some]
  by_cases h : wok w = true
  · rw [if_pos h, if_pos h, specTop h]; simp only [Option.bind_some]; rw [wrapTop h]
  · rw [if_neg h, if_neg h]
theorem implMasked (w n : Int) : impl_Masked.f w n = some (masked w n) := by
  unfold impl_Masked.f masked
  rw [implWidthOk]; simp only [Option.bind_some]
  by_cases h : wok w = true
  · rw [if_pos h, if_pos h, implMask h]; simp only [Option.bind_some]
  · rw [if_neg h, if_neg h]

theorem FnExactMasked : laws_FnExactMasked.Pure := by
  intro a0 a1 _ _
  unfold laws_FnExactMasked.f
  rw [specMasked, implMasked]; simp

end Go.Proofs.Ytllpahijplcfpaa.Pure
