/- PROVED HERE: ReadVar of the program and of the reference are one, at every text of at most 2^20 bytes and every place. (the statement over numbers and texts; no condition beyond the statement's own bounds) -/
import Derived.Test.YtllpahijplcfpaaPFnExactReadVarx1
import Derived.Laws.BitsLemmas
import Derived.Laws.Bits64
namespace Go.Proofs.Ytllpahijplcfpaa.Pure
open Go.RowKit Go.Proofs.Ytllpahijplcfpaa.PFnExactReadVar Go.Proofs.YtllpahijplcfpaaW.PrintWords Go.Proofs.YtllpahijplcfpaaW.PrintLast

theorem implWithin (a b c : Int) : impl_within.f a b c = some (decide (b ≤ a ∧ a ≤ c)) := by
  unfold impl_within.f
  by_cases h : a ≥ b
  · rw [if_pos h]; have h' : b ≤ a := h; simp [h']
  · rw [if_neg h]; have h' : ¬ b ≤ a := h; simp [h']

theorem wraps_i64 (n : Int) (h₀ : 0 ≤ n) (h₁ : n < 2 ^ 63) : IntKind.i64.wrap n = n := by rw [IntKind.wrap_i64]; omega
theorem and127 {x : Int} (h0 : 0 ≤ x) (h1 : x < 9223372036854775808) : Go.bits .and .i64 x 127 = x % 128 := by
  have := Go.bits_mask .i64 63 (by decide) wraps_i64 7 (by decide) x h0 (by omega)
  simpa using this
theorem orHigh {n c : Int} (i : Nat) (hi : i ≤ 35) (h0 : 0 ≤ n) (h1 : n < 2 ^ i) (h2 : 0 ≤ c) (h3 : c < 128) : Go.bits .or .i64 n (c * 2 ^ i) = n + c * 2 ^ i := by
  obtain ⟨a, rfl⟩ := Int.eq_ofNat_of_zero_le h0
  obtain ⟨b, rfl⟩ := Int.eq_ofNat_of_zero_le h2
  have ha : a < 2 ^ i := by exact_mod_cast h1
  have hb : b < 128 := by omega
  have hp : 2 ^ i ≤ 2 ^ 35 := Nat.pow_le_pow_right (by decide) hi
  have hm : b * 2 ^ i ≤ 127 * 2 ^ 35 := Nat.mul_le_mul (by omega) hp
  have e := (Go.bits_nat .i64 63 (by decide) wraps_i64 a (b * 2 ^ i) (by omega) (by omega)).2
  have e1 : ((b * 2 ^ i : Nat) : Int) = (b : Int) * 2 ^ i := by push_cast; rfl
  rw [e1] at e
  rw [e, Nat.or_comm, Nat.mul_comm, ← Nat.two_pow_add_eq_or_of_lt ha b]
  push_cast
  rw [Int.mul_comm]; omega
theorem or128 {y : Int} (h0 : 0 ≤ y) (h1 : y < 128) : Go.bits .or .i64 y 128 = y + 128 := by
  have := orHigh (n := y) (c := 1) 7 (by decide) h0 (by simpa using h1) (by decide) (by decide)
  simpa using this

theorem byte_range (s : ByteArray) (i : Int) : 0 ≤ bt s i ∧ bt s i ≤ 255 := bt_range s i
theorem wrapByte (s : ByteArray) (i : Int) : wrap64 (bt s i) = bt s i := by
  have := byte_range s i
  unfold wrap64; omega
/-- The k-th step is p. -/
def PK (k : Nat) (p : Int) : Prop := (k = 0 ∧ p = 1) ∨ (k = 1 ∧ p = 128) ∨ (k = 2 ∧ p = 16384) ∨ (k = 3 ∧ p = 2097152) ∨ (k = 4 ∧ p = 268435456) ∨ (k = 5 ∧ p = 34359738368)
theorem PK.next {k : Nat} {p : Int} (h : PK k p) (hk : k ≤ 4) : PK (k + 1) (128 * p) ∧ 0 < p ∧ p ≤ 268435456 := by
  unfold PK at h ⊢
  rcases h with h | h | h | h | h | h <;> obtain ⟨rfl, rfl⟩ := h <;> simp at hk ⊢
/-- What stands there: d places are left, k were read, n is what they said, p the next one's weight. -/
def rvl (s : ByteArray) (a : Int) : Nat → Int → Int → Nat → Int × Int
  | 0, _, _, _ => (0, 0)
  | d + 1, n, p, k =>
    if a + k < (s.size : Int) then
      if bt s (a + k) < 128 then
        if (k > 0 ∧ bt s (a + k) = 0) ∨ n + bt s (a + k) % 128 * p > 4294967295 then (0, 0)
        else (n + bt s (a + k) % 128 * p, (k : Int) + 1)
      else rvl s a d (n + bt s (a + k) % 128 * p) (128 * p) (k + 1)
    else (0, 0)
theorem more_bound {b p : Int} (hp : 0 < p) : 0 ≤ b % 128 * p ∧ b % 128 * p ≤ 127 * p :=
  ⟨Int.mul_nonneg (by omega) (by omega), Int.mul_le_mul_of_nonneg_right (by omega) (by omega)⟩
theorem specRead_l (s : ByteArray) (a : Int) (ha : 0 ≤ a) (has : a < (s.size : Int)) (hs : s.size ≤ 140737488351232) (d : Nat) : ∀ (fuel k : Nat) (n p : Int), d + k = 5 → 2 * d + 2 ≤ fuel → 0 ≤ n → n < p → PK k p →
    spec_ReadVar.l0 fuel s a n p k = some (rvl s a d n p k) := by
  induction d with
  | zero =>
    intro fuel k n p hd hf h0 hn _
    obtain ⟨fuel, rfl⟩ : ∃ m, fuel = m + 2 := ⟨fuel - 2, by omega⟩
    have hk : k = 5 := by omega
    subst hk
    simp only [spec_ReadVar.l0]
    rw [if_neg (by decide)]
    simp [spec_ReadVar.j2, rvl]
  | succ d ih =>
    intro fuel k n p hd hf h0 hn hpk
    obtain ⟨fuel, rfl⟩ : ∃ m, fuel = m + 2 := ⟨fuel - 2, by omega⟩
    have hk : k ≤ 4 := by omega
    obtain ⟨hpk', hp0, hp⟩ := hpk.next hk
    have w1 : wrap64 (a + (k : Int)) = a + k := by unfold wrap64; omega
    simp only [spec_ReadVar.l0]
    rw [if_pos (by omega), w1]
    simp only [spec_ReadVar.j2, w1, rvl]
    by_cases c1 : a + (k : Int) < s.size
    · have hb := byte_range s (a + k)
      have hm := more_bound (b := bt s (a + k)) hp0
      have e1 : Int.tmod (bt s (a + k)) 128 = bt s (a + k) % 128 := Int.tmod_eq_emod_of_nonneg hb.1
      have e4 : wrap64 ((k : Int) + 1) = (k : Int) + 1 := by unfold wrap64; omega
      have e5 : wrap64 (128 * p) = 128 * p := by unfold wrap64; omega
      have e2 : wrap64 (p * (bt s (a + k) % 128)) = bt s (a + k) % 128 * p := by
        rw [Int.mul_comm]; generalize bt s (a + k) % 128 * p = q at hm ⊢; unfold wrap64; omega
      have e3 : wrap64 (n + bt s (a + k) % 128 * p) = n + bt s (a + k) % 128 * p := by
        generalize bt s (a + k) % 128 * p = q at hm ⊢; unfold wrap64; omega
      simp only [wrapByte, e1, e2, e3, e4, e5]
      clear e1 e2 e3 e4 e5 w1
      rw [if_pos (decide_eq_true c1), if_pos (show 0 ≤ a + (k : Int) by omega), if_pos c1, if_pos c1]
      generalize bt s (a + k) % 128 * p = q at hm ⊢
      by_cases c2 : bt s (a + k) < 128
      · rw [if_pos c2, if_pos c2]
        by_cases c3 : (k : Int) > 0
        · rw [if_pos c3]
          by_cases c4 : bt s (a + k) = 0
          · rw [if_pos c4, if_pos (.inl ⟨by omega, c4⟩)]
          · rw [if_neg c4]
            by_cases c5 : n + q > 4294967295
            · rw [if_pos c5, if_pos (.inr c5)]
            · rw [if_neg c5, if_neg (fun h => h.elim (fun h => c4 h.2) c5)]
        · rw [if_neg c3]
          by_cases c5 : n + q > 4294967295
          · rw [if_pos c5, if_pos (.inr c5)]
          · rw [if_neg c5, if_neg (fun h => h.elim (fun h => c3 (by omega)) c5)]
      · rw [if_neg c2, if_neg c2]
        have := ih fuel (k + 1) (n + q) (128 * p) (by omega) (by omega) (by omega) (by omega) hpk'
        rw [← this]; push_cast; rfl
    · rw [if_neg (by simpa using c1), if_neg c1]
theorem orShl {k : Nat} {n p c : Int} (h : PK k p) (hk : k ≤ 4) (h0 : 0 ≤ n) (hn : n < p) (c0 : 0 ≤ c) (c1 : c < 128) :
    shl .i64 c (7 * (k : Int)) = c * p ∧ Go.bits .or .i64 n (c * p) = n + c * p := by
  have key : ∀ i : Nat, i ≤ 35 → p = 2 ^ i → (7 * (k : Int)).toNat = i → p ≤ 268435456 → shl .i64 c (7 * (k : Int)) = c * p ∧ Go.bits .or .i64 n (c * p) = n + c * p := by
    intro i hi hp ht hle
    refine ⟨?_, ?_⟩
    · unfold shl
      rw [ht, show IntKind.i64.bits = 64 from rfl, Nat.min_eq_left (by omega), IntKind.wrap_i64, ← hp]
      have : 0 ≤ c * p := Int.mul_nonneg c0 (by omega)
      have : c * p ≤ 127 * 268435456 := Int.mul_le_mul (by omega) hle (by omega) (by decide)
      omega
    · rw [hp]
      exact orHigh i hi h0 (by rw [← hp]; exact hn) c0 c1
  unfold PK at h
  rcases h with h | h | h | h | h | h <;> obtain ⟨rfl, rfl⟩ := h
  · exact key 0 (by decide) rfl rfl (by decide)
  · exact key 7 (by decide) rfl rfl (by decide)
  · exact key 14 (by decide) rfl rfl (by decide)
  · exact key 21 (by decide) rfl rfl (by decide)
  · exact key 28 (by decide) rfl rfl (by decide)
  · exact absurd hk (by decide)
theorem implRead_l (s : ByteArray) (a : Int) (ha : 0 ≤ a) (has : a < (s.size : Int)) (hs : s.size ≤ 140737488351232) (d : Nat) : ∀ (fuel k : Nat) (n p : Int), d + k = 5 → 2 * d + 2 ≤ fuel → 0 ≤ n → n < p → PK k p →
    impl_ReadVar.l0 fuel s a n k = some (rvl s a d n p k) := by
  induction d with
  | zero =>
    intro fuel k n p hd hf h0 hn _
    obtain ⟨fuel, rfl⟩ : ∃ m, fuel = m + 2 := ⟨fuel - 2, by omega⟩
    have hk : k = 5 := by omega
    subst hk
    simp only [impl_ReadVar.l0]
    rw [if_neg (by decide)]
    simp [impl_ReadVar.j1, rvl]
  | succ d ih =>
    intro fuel k n p hd hf h0 hn hpk
    obtain ⟨fuel, rfl⟩ : ∃ m, fuel = m + 2 := ⟨fuel - 2, by omega⟩
    have hk : k ≤ 4 := by omega
    obtain ⟨hpk', hp0, hp⟩ := hpk.next hk
    have w1 : wrap64 (a + (k : Int)) = a + k := by unfold wrap64; omega
    simp only [impl_ReadVar.l0]
    rw [if_pos (by omega), w1]
    simp only [impl_ReadVar.j1, w1, rvl]
    by_cases c1 : a + (k : Int) < s.size
    · have hb := byte_range s (a + k)
      have hm := more_bound (b := bt s (a + k)) hp0
      have e0 : wrap64 (7 * (k : Int)) = 7 * (k : Int) := by unfold wrap64; omega
      have e4 : wrap64 ((k : Int) + 1) = (k : Int) + 1 := by unfold wrap64; omega
      have e6 : Go.bits .and .i64 (bt s (a + k)) 127 = bt s (a + k) % 128 := and127 hb.1 (by omega)
      obtain ⟨e2, e3⟩ := orShl hpk hk h0 hn (c := bt s (a + k) % 128) (by omega) (by omega)
      simp only [wrapByte, e0, e6, e2, e3, e4]
      clear e0 e2 e3 e4 e6 w1
      rw [if_pos (decide_eq_true c1), if_pos (show 0 ≤ a + (k : Int) by omega), if_pos c1, if_pos c1, if_pos (show (0 : Int) ≤ 7 * (k : Int) by omega)]
      generalize bt s (a + k) % 128 * p = q at hm ⊢
      by_cases c2 : bt s (a + k) < 128
      · rw [if_neg (by omega), if_pos c2]
        by_cases c5 : n + q > 4294967295
        · rw [if_pos c5, if_pos (.inr c5)]
        · rw [if_neg c5]
          by_cases c4 : bt s (a + k) = 0
          · rw [if_pos c4]
            by_cases c3 : (k : Int) > 0
            · rw [if_pos c3, if_pos (.inl ⟨by omega, c4⟩)]
            · rw [if_neg c3, if_neg (fun h => h.elim (fun h => c3 (by omega)) c5)]
          · rw [if_neg c4, if_neg (fun h => h.elim (fun h => c4 h.2) c5)]
      · rw [if_pos (by omega), if_neg c2]
        have := ih fuel (k + 1) (n + q) (128 * p) (by omega) (by omega) (by omega) (by omega) hpk'
        rw [← this]; push_cast; rfl
    · rw [if_neg (by simpa using c1), if_neg c1]
def readVar (s : ByteArray) (a : Int) : Int × Int := if 0 ≤ a ∧ a < (s.size : Int) then rvl s a 5 0 1 0 else (0, 0)
theorem specReadVar (s : ByteArray) (a : Int) (hs : s.size ≤ 140737488351232) (k : Nat) (hk : 13 ≤ k) : spec_ReadVar.f k s a = some (readVar s a) := by
  obtain ⟨k, rfl⟩ : ∃ m, k = m + 1 := ⟨k - 1, by omega⟩
  unfold spec_ReadVar.f readVar
  by_cases c1 : a < 0
  · rw [if_pos c1, if_neg (by omega)]; simp [spec_ReadVar.j0]
  · rw [if_neg c1]
    by_cases c2 : a < (s.size : Int)
    · have h := specRead_l s a (by omega) c2 hs 5 k 0 0 1 (by decide) (by omega) (by decide) (by decide) (.inl ⟨rfl, rfl⟩)
      rw [if_pos ⟨by omega, c2⟩, ← h]
      simp only [spec_ReadVar.j0]
      rw [if_neg (by simp; omega)]; rfl
    · rw [if_neg (fun h => c2 h.2)]
      simp only [spec_ReadVar.j0]
      rw [if_pos (by simp; omega)]
theorem implReadVar (s : ByteArray) (a : Int) (hs : s.size ≤ 140737488351232) (k : Nat) (hk : 13 ≤ k) : impl_ReadVar.f k s a = some (readVar s a) := by
  unfold impl_ReadVar.f readVar
  have e : wrap64 ((s.size : Int) - 1) = (s.size : Int) - 1 := by unfold wrap64; omega
  rw [implWithin, e]; simp only [Option.bind_some]
  by_cases c : 0 ≤ a ∧ a < (s.size : Int)
  · have h := implRead_l s a c.1 c.2 hs 5 k 0 0 1 (by decide) (by omega) (by decide) (by decide) (.inl ⟨rfl, rfl⟩)
    rw [if_pos (by simp; omega), if_pos c, ← h]; rfl
  · rw [if_neg (by simp; omega), if_neg c]

theorem FnExactReadVar : laws_FnExactReadVar.Pure := by
  intro a0 a1 h0 _
  refine ⟨13, ?_⟩
  unfold laws_FnExactReadVar.f
  rw [specReadVar a0 a1 h0 13 (by decide), implReadVar a0 a1 h0 13 (by decide)]; simp

end Go.Proofs.Ytllpahijplcfpaa.Pure
