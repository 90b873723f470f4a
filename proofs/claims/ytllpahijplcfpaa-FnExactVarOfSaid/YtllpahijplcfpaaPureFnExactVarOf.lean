/- PROVED HERE: VarOf of the program and of the reference are one, at every number. (the statement over numbers and texts; no condition beyond the statement's own bounds) -/
import Derived.Test.YtllpahijplcfpaaPFnExactVarOfx1
import Derived.Laws.BitsLemmas
import Derived.Laws.Bits64
namespace Go.Proofs.Ytllpahijplcfpaa.Pure
open Go.RowKit Go.Proofs.Ytllpahijplcfpaa.PFnExactVarOf Go.Proofs.YtllpahijplcfpaaW.PrintWords Go.Proofs.YtllpahijplcfpaaW.PrintLast

theorem specIn (a b c : Int) : spec_l1In.f a b c = some (decide (b ≤ a ∧ a ≤ c)) := by
  unfold spec_l1In.f
  by_cases h : a ≥ b
  · rw [if_pos h]; have h' : b ≤ a := h; simp [h']
  · rw [if_neg h]; have h' : ¬ b ≤ a := h; simp [h']

theorem implWithin (a b c : Int) : impl_within.f a b c = some (decide (b ≤ a ∧ a ≤ c)) := by
  unfold impl_within.f
  by_cases h : a ≥ b
  · rw [if_pos h]; have h' : b ≤ a := h; simp [h']
  · rw [if_neg h]; have h' : ¬ b ≤ a := h; simp [h']

theorem wraps_i64 (n : Int) (h₀ : 0 ≤ n) (h₁ : n < 2 ^ 63) : IntKind.i64.wrap n = n := by rw [IntKind.wrap_i64]; omega
theorem and127 {x : Int} (h0 : 0 ≤ x) (h1 : x < 9223372036854775808) : Go.bits .and .i64 x 127 = x % 128 := by
  have := Go.bits_mask .i64 63 (by decide) wraps_i64 7 (by decide) x h0 (by omega)
  simpa using this
theorem orHigh {n c : Int} (i : Nat) (hi : i ≤ 35) (h0 : 0 ≤ n) (h1 : n < 2 ^ i) (h2 : 0 ≤ c) (h3 : c < 128) : Go.bits .or .i64 n (c * 2 ^ i) = n + c * 2 ^ i := by
  obtain ⟨a, rfl⟩ := Int.eq_ofNat_of_zero_le h0
  obtain ⟨b, rfl⟩ := Int.eq_ofNat_of_zero_le h2
  have ha : a < 2 ^ i := by exact_mod_cast h1
  have hb : b < 128 := by omega
  have hp : 2 ^ i ≤ 2 ^ 35 := Nat.pow_le_pow_right (by decide) hi
  have hm : b * 2 ^ i ≤ 127 * 2 ^ 35 := Nat.mul_le_mul (by omega) hp
  have e := (Go.bits_nat .i64 63 (by decide) wraps_i64 a (b * 2 ^ i) (by omega) (by omega)).2
  have e1 : ((b * 2 ^ i : Nat) : Int) = (b : Int) * 2 ^ i := by push_cast; rfl
  rw [e1] at e
  rw [e, Nat.or_comm, Nat.mul_comm, ← Nat.two_pow_add_eq_or_of_lt ha b]
  push_cast
  rw [Int.mul_comm]; omega
theorem or128 {y : Int} (h0 : 0 ≤ y) (h1 : y < 128) : Go.bits .or .i64 y 128 = y + 128 := by
  have := orHigh (n := y) (c := 1) 7 (by decide) h0 (by simpa using h1) (by decide) (by decide)
  simpa using this

theorem strOfNums_app (x y : List Int) : strOfNums x ++ strOfNums y = strOfNums (x ++ y) := by
  apply ByteArray.ext
  simp [strOfNums]
/-- The bytes of a number, the lowest seven bits first. -/
def vl : Nat → Int → List Int
  | 0, n => [n]
  | d + 1, n => if n > 127 then (128 + n % 128) :: vl d (n / 128) else [n]
theorem vl_len : ∀ (d : Nat) (n : Int), (vl d n).length ≤ d + 1
  | 0, n => by simp [vl]
  | d + 1, n => by
    have := vl_len d (n / 128)
    unfold vl
    split <;> simp <;> omega
theorem vl_byte : ∀ (d : Nat) (n : Int), 0 ≤ n → n < 128 * 128 ^ d → ∀ x ∈ vl d n, 0 ≤ x ∧ x < 256
  | 0, n => fun h0 h1 x hx => by simp [vl] at hx; subst hx; simp at h1; omega
  | d + 1, n => fun h0 h1 x hx => by
    unfold vl at hx
    by_cases h : n > 127
    · rw [if_pos h] at hx
      rcases List.mem_cons.1 hx with rfl | hx
      · omega
      · refine vl_byte d (n / 128) (by omega) ?_ x hx
        rw [Int.pow_succ] at h1; omega
    · rw [if_neg h] at hx
      simp at hx; subst hx; omega
theorem specVar_l (d : Nat) : ∀ (k : Nat) (n : Int) (s : ByteArray), d < k → 0 ≤ n → n < 128 * 128 ^ d → n < 9223372036854775808 → s.size + d ≤ 1000 → spec_VarOf.l0 k n s = some (s ++ strOfNums (vl d n)) := by
  induction d with
  | zero =>
    intro k n s hk h0 h1 _ hs
    obtain ⟨k, rfl⟩ : ∃ m, k = m + 1 := ⟨k - 1, by omega⟩
    simp only [Int.pow_zero] at h1
    simp only [spec_VarOf.l0]
    rw [if_neg (by omega)]; simp only [Option.bind_some]
    rw [if_pos (by rw [strOfNums_size]; simp; omega), show n % 256 = n by omega]
    rfl
  | succ d ih =>
    intro k n s hk h0 h1 h2 hs
    obtain ⟨k, rfl⟩ : ∃ m, k = m + 1 := ⟨k - 1, by omega⟩
    simp only [spec_VarOf.l0]
    by_cases h : n > 127
    · rw [if_pos h]; simp only [Option.bind_some]
      have e1 : Int.tmod n 128 = n % 128 := Int.tmod_eq_emod_of_nonneg h0
      have e2 : Int.tdiv n 128 = n / 128 := Int.tdiv_eq_ediv_of_nonneg h0
      have e3 : wrap64 (128 + n % 128) % 256 = 128 + n % 128 := by unfold wrap64; omega
      have e4 : wrap64 (n / 128) = n / 128 := by unfold wrap64; omega
      rw [e1, e2, e3, e4, if_pos (by rw [strOfNums_size]; simp; omega)]
      rw [ih k (n / 128) _ (by omega) (by omega) (by rw [Int.pow_succ] at h1; omega) (by omega) (by rw [ByteArray.size_append, strOfNums_size]; simp; omega)]
      rw [ByteArray.append_assoc, strOfNums_app]
      show _ = some (s ++ strOfNums (if n > 127 then _ else _))
      rw [if_pos h]; rfl
    · rw [if_neg h]; simp only [Option.bind_some]
      rw [if_pos (by rw [strOfNums_size]; simp; omega), show n % 256 = n by omega]
      show _ = some (s ++ strOfNums (if n > 127 then _ else _))
      rw [if_neg h]
theorem implVar_l (d : Nat) : ∀ (k : Nat) (n : Int) (l : List Int), d < k → 0 ≤ n → n < 128 * 128 ^ d → n < 9223372036854775808 → l.length + d ≤ 1000 → impl_VarOf.l0 k n l = some (strOfNums (l ++ vl d n)) := by
  induction d with
  | zero =>
    intro k n l hk h0 h1 _ hs
    obtain ⟨k, rfl⟩ : ∃ m, k = m + 1 := ⟨k - 1, by omega⟩
    simp only [Int.pow_zero] at h1
    simp only [impl_VarOf.l0]
    rw [if_neg (by omega), if_pos (by omega), show n % 256 = n by omega]
    rfl
  | succ d ih =>
    intro k n l hk h0 h1 h2 hs
    obtain ⟨k, rfl⟩ : ∃ m, k = m + 1 := ⟨k - 1, by omega⟩
    simp only [impl_VarOf.l0]
    by_cases h : n > 127
    · rw [if_pos h, if_pos (by omega), and127 h0 h2, or128 (by omega) (by omega), show (n % 128 + 128) % 256 = 128 + n % 128 by omega]
      rw [ih k (n / 128) _ (by omega) (by omega) (by rw [Int.pow_succ] at h1; omega) (by omega) (by simp; omega)]
      rw [List.append_assoc]
      show _ = some (strOfNums (l ++ (if n > 127 then _ else _)))
      rw [if_pos h]; rfl
    · rw [if_neg h, if_pos (by omega), show n % 256 = n by omega]
      show _ = some (strOfNums (l ++ (if n > 127 then _ else _)))
      rw [if_neg h]
def varOf (n : Int) : ByteArray := if 0 ≤ n ∧ n ≤ 4294967295 then strOfNums (vl 4 n) else ⟨#[]⟩
theorem specVarOf (n : Int) (k : Nat) (hk : 5 < k) : spec_VarOf.f k n = some (varOf n) := by
  unfold spec_VarOf.f varOf
  rw [specIn]; simp only [Option.bind_some]
  by_cases h : 0 ≤ n ∧ n ≤ 4294967295
  · rw [if_pos (by simpa using h), if_pos h, specVar_l 4 k n _ (by omega) h.1 (by simp; omega) (by omega) (by simp [ByteArray.size])]
    exact congrArg some (by apply ByteArray.ext; simp)
  · rw [if_neg (by simpa using h), if_neg h]
theorem implVarOf (n : Int) (k : Nat) (hk : 5 < k) : impl_VarOf.f k n = some (varOf n) := by
  unfold impl_VarOf.f varOf
  rw [implWithin]; simp only [Option.bind_some]
  by_cases h : 0 ≤ n ∧ n ≤ 4294967295
  · rw [if_pos (by simpa using h), if_pos h, implVar_l 4 k n _ (by omega) h.1 (by simp; omega) (by omega) (by simp)]
    rfl
  · rw [if_neg (by simpa using h), if_neg h]

theorem FnExactVarOf : laws_FnExactVarOf.Pure := by
  intro a0 _
  refine ⟨6, ?_⟩
  unfold laws_FnExactVarOf.f
  rw [specVarOf a0 6 (by decide), implVarOf a0 6 (by decide)]; simp

end Go.Proofs.Ytllpahijplcfpaa.Pure
