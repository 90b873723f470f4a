/- PROVED HERE: Casted of the program and of the reference are one, at all arguments. (the statement over numbers and texts; no condition beyond the statement's own bounds) -/
import Derived.Test.YtllpahijplcfpaaPFnExactCastedx2
namespace Go.Proofs.Ytllpahijplcfpaa.Pure
open Go.RowKit Go.Proofs.Ytllpahijplcfpaa.PFnExactCasted Go.Proofs.YtllpahijplcfpaaW.PrintWords Go.Proofs.YtllpahijplcfpaaW.PrintLast

def wok (w : Int) : Bool := w == 1 || w == 8 || w == 16 || w == 32
theorem wok_cases {w : Int} (h : wok w = true) : w = 1 ∨ w = 8 ∨ w = 16 ∨ w = 32 := by
  simp [wok] at h; omega
theorem specWidthOk (w : Int) : spec_WidthOk.f w = some (wok w) := by
  unfold spec_WidthOk.f wok
  by_cases h1 : w = 1 <;> by_cases h2 : w = 8 <;> by_cases h3 : w = 16 <;> simp [h1, h2, h3]
theorem implWidthOk (w : Int) : impl_WidthOk.f w = some (wok w) := by
  unfold impl_WidthOk.f wok
  by_cases h1 : w = 1 <;> by_cases h2 : w = 8 <;> by_cases h3 : w = 16 <;> simp [h1, h2, h3]

def top (w : Int) : Int := 2 ^ w.toNat
theorem specTop {w : Int} (h : wok w = true) : spec_l1Top.f w = some (top w) := by
  rcases wok_cases h with rfl | rfl | rfl | rfl <;> decide +kernel
theorem implMask {w : Int} (h : wok w = true) : impl_mask.f w = some (top w - 1) := by
  rcases wok_cases h with rfl | rfl | rfl | rfl <;> decide +kernel
theorem wrapTop {w : Int} (h : wok w = true) : wrap64 (top w - 1) = top w - 1 := by
  rcases wok_cases h with rfl | rfl | rfl | rfl <;> decide +kernel

def masked (w n : Int) : Int := if wok w = true then Go.bits .and .i64 n (top w - 1) else 0
theorem specMasked (w n : Int) : spec_Masked.f w n = some (masked w n) := by
  unfold spec_Masked.f masked
  rw [specWidthOk]; simp only [Option.bind_some]
  by_cases h : wok w = true
  · rw [if_pos h, if_pos h, specTop h]; simp only [Option.bind_some]; rw [wrapTop h]
  · rw [if_neg h, if_neg h]
theorem implMasked (w n : Int) : impl_Masked.f w n = some (masked w n) := by
  unfold impl_Masked.f masked
  rw [implWidthOk]; simp only [Option.bind_some]
  by_cases h : wok w = true
  · rw [if_pos h, if_pos h, implMask h]; simp only [Option.bind_some]
  · rw [if_neg h, if_neg h]

theorem specIn (a b c : Int) : spec_l1In.f a b c = some (decide (b ≤ a ∧ a ≤ c)) := by
  unfold spec_l1In.f
  by_cases h : a ≥ b
  · rw [if_pos h]; have h' : b ≤ a := h; simp [h']
  · rw [if_neg h]; have h' : ¬ b ≤ a := h; simp [h']
theorem implWithin (a b c : Int) : impl_within.f a b c = some (decide (b ≤ a ∧ a ≤ c)) := by
  unfold impl_within.f
  by_cases h : a ≥ b
  · rw [if_pos h]; have h' : b ≤ a := h; simp [h']
  · rw [if_neg h]; have h' : ¬ b ≤ a := h; simp [h']
def isVal (w v : Int) : Bool := wok w && decide (0 ≤ v ∧ v ≤ top w - 1)
theorem isVal_of {w v : Int} (h : isVal w v = true) : wok w = true ∧ 0 ≤ v ∧ v ≤ top w - 1 := by
  simpa [isVal] using h
theorem specValue (w v : Int) : spec_l1Value.f w v = some (isVal w v) := by
  unfold spec_l1Value.f isVal
  rw [specWidthOk]; simp only [Option.bind_some]
  cases h : wok w with
  | true => rw [if_pos rfl, specTop h]; simp only [Option.bind_some]; rw [wrapTop h, specIn]; simp
  | false => simp
theorem implValue (w v : Int) : impl_isValue.f w v = some (isVal w v) := by
  unfold impl_isValue.f isVal
  rw [implWidthOk]; simp only [Option.bind_some]
  cases h : wok w with
  | true => rw [if_pos rfl, implMask h]; simp only [Option.bind_some]; rw [implWithin]; simp
  | false => simp
def sgn (w v : Int) : Int := if v ≥ top w / 2 then v - top w else v
theorem specSign {w v : Int} (h : isVal w v = true) : spec_l1Sign.f w v = some (sgn w v) := by
  obtain ⟨hw, h0, h1⟩ := isVal_of h
  unfold spec_l1Sign.f sgn
  rw [specTop hw]; simp only [Option.bind_some]
  have e : wrap64 (Int.tdiv (top w) 2) = top w / 2 := by
    rcases wok_cases hw with rfl | rfl | rfl | rfl <;> decide +kernel
  rw [e]
  have e2 : wrap64 (v - top w) = v - top w := by
    unfold wrap64
    rcases wok_cases hw with rfl | rfl | rfl | rfl <;> simp [top] at h1 ⊢ <;> omega
  rw [e2]
  split <;> rfl
theorem bit01 {x : Int} (h : x = 0 ∨ x = 1) : Go.bits .and .i64 x 1 = x := by
  rcases h with rfl | rfl <;> decide +kernel
theorem implSign {w v : Int} (h : isVal w v = true) : impl_signOf.f w v = some (sgn w v) := by
  obtain ⟨hw, h0, h1⟩ := isVal_of h
  unfold impl_signOf.f sgn
  have hp : (2 : Int) ^ min (wrap64 (w - 1)).toNat IntKind.i64.bits = top w / 2 := by
    rcases wok_cases hw with rfl | rfl | rfl | rfl <;> decide +kernel
  have hs : shr .i64 v (wrap64 (w - 1)) = v / (top w / 2) := by
    unfold shr; rw [hp]
  have h2 : (v / (top w / 2) = 0 ∧ ¬ v ≥ top w / 2) ∨ (v / (top w / 2) = 1 ∧ v ≥ top w / 2) := by
    rcases wok_cases hw with rfl | rfl | rfl | rfl <;> simp [top] at h1 ⊢ <;> omega
  have h3 : 0 ≤ wrap64 (w - 1) := by
    rcases wok_cases hw with rfl | rfl | rfl | rfl <;> decide +kernel
  rw [if_pos h3, hs, implMask hw]; simp only [Option.bind_some]
  have e2 : wrap64 (wrap64 (v - (top w - 1)) - 1) = v - top w := by
    unfold wrap64
    rcases wok_cases hw with rfl | rfl | rfl | rfl <;> simp [top] at h1 ⊢ <;> omega
  rw [e2]
  rcases h2 with ⟨a, b⟩ | ⟨a, b⟩
  · rw [a, bit01 (.inl rfl), if_neg (by decide), if_neg b]
  · rw [a, bit01 (.inr rfl), if_pos rfl, if_pos b]

def casted (op a b v : Int) : Int × Bool :=
  if isVal a v = true ∧ wok b = true then
    if op = 18 ∧ b > a then (v, true) else if op = 19 ∧ b > a then (masked b (sgn a v), true)
    else if op = 20 ∧ b < a then (masked b v, true) else (0, false)
  else (0, false)
theorem specCasted (op a b v : Int) (k : Nat) : spec_Casted.f (k + 3) op a b v = some (casted op a b v) := by
  unfold spec_Casted.f casted
  rw [specValue, specWidthOk]; simp only [Option.bind_some]
  by_cases h : isVal a v = true
  · rw [if_pos h]
    by_cases h2 : wok b = true
    · rw [h2, if_pos ⟨h, rfl⟩]
      simp only [Bool.not_true, spec_Casted.j0, spec_Casted.j1, spec_Casted.j2, Bool.false_eq_true, if_false, specSign h, specMasked, Option.bind_some]
      by_cases c1 : op = 18
      · subst c1
        by_cases c2 : b > a <;> simp [c2]
      · by_cases c3 : op = 19
        · subst c3
          by_cases c2 : b > a <;> simp [c2]
        · by_cases c4 : op = 20
          · subst c4
            by_cases c2 : b < a <;> simp [c2]
          · simp [c1, c3, c4]
    · rw [if_neg (fun x => h2 x.2)]
      simp [h2, spec_Casted.j0]
  · rw [if_neg h, if_neg (fun x => h x.1)]
    simp [spec_Casted.j0]
theorem implCasted (op a b v : Int) (k : Nat) : impl_Casted.f (k + 3) op a b v = some (casted op a b v) := by
  unfold impl_Casted.f casted
  rw [implValue, implWidthOk]; simp only [Option.bind_some]
  by_cases h : isVal a v = true
  · rw [if_pos h]
    by_cases h2 : wok b = true
    · rw [h2, if_pos ⟨h, rfl⟩]
      simp only [Bool.not_true, impl_Casted.j0, impl_Casted.j1, impl_Casted.j2, Bool.false_eq_true, if_false, implSign h, implMasked, Option.bind_some]
      by_cases c1 : op = 18
      · subst c1
        by_cases c2 : b > a <;> simp [c2]
      · by_cases c3 : op = 19
        · subst c3
          by_cases c2 : b > a <;> simp [c2]
        · by_cases c4 : op = 20
          · subst c4
            by_cases c2 : b < a <;> simp [c2]
          · simp [c1, c3, c4]
    · rw [if_neg (fun x => h2 x.2)]
      simp [h2, impl_Casted.j0]
  · rw [if_neg h, if_neg (fun x => h x.1)]
    simp [impl_Casted.j0]
theorem FnExactCasted : laws_FnExactCasted.Pure := by
  intro a0 a1 a2 a3 _ _ _ _
  refine ⟨3, ?_⟩
  unfold laws_FnExactCasted.f
  rw [specCasted a0 a1 a2 a3 0, implCasted a0 a1 a2 a3 0]; simp

end Go.Proofs.Ytllpahijplcfpaa.Pure
