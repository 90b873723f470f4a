/- PROVED HERE: what the functions that the law FnExactCopiesGone reaches do in memory, each as a plain Lean function, and what these tell: part 6 of 7 of the proof of that law; no condition beyond those written out at each theorem. -/
import Derived.Test.YtebgkcjpocfmmaaGreatZFnExactCopiesGone3
import Derived.Test.YtebgkcjpocfmmaaGreatZFnExactCopiesGone4
namespace Go.Proofs.YtebgkcjpocfmmaaGreat.V
open Go
set_option linter.unusedVariables false
set_option linter.unusedSimpArgs false
theorem Ev.sc {R : Type} {g : Nat → Option R} {r : R} (h : Ev (fun k => g (k + 1)) r) : Ev g r := Ev.step h fun _ => rfl
theorem updAt_length {α : Type} (z : α) (l : List α) (i : Nat) (f : α → α) : (updAt z l i f).length = l.length := by simp [updAt]
theorem updAt_at {α : Type} (z : α) (l : List α) (i : Nat) (f : α → α) (h : i < l.length) : (updAt z l i f).getD i z = f (l.getD i z) := by
  rw [getD_at _ _ _ (by rw [updAt_length]; exact h)]
  simp [updAt]
theorem updAt_twice {α : Type} {z : α} {l : List α} {i : Nat} (h : i < l.length) (f g : α → α) : updAt z (updAt z l i f) i g = updAt z l i (fun x => g (f x)) := by
  show (updAt z l i f).set i (g ((updAt z l i f).getD i z)) = _
  rw [updAt_at _ _ _ _ h]
  simp [updAt]
abbrev MkR (α : Type) := (((Int × Unit) × Unit) × (α × Unit))
abbrev mkr {α : Type} (n : Int) (l : α) : MkR α := (((n, ()), ()), (l, ()))
/-- The numbers n, n + 1, .. -/
def upFrom : Int → Nat → List Int
  | _, 0 => []
  | n, d + 1 => n :: upFrom (n + 1) d
theorem markInts_l : ∀ (d i : Nat) (pre : List Int) (l : List Int) (n : Int), pre.length = i → l.length = d → i + d ≤ 1048576 → 0 ≤ n → n + (d : Int) ≤ 9223372036854775807 → Ev (fun k => laws_markInt64S.l0 k n (i : Int) (pre ++ l)) (mkr (n + (d : Int)) (pre ++ upFrom n d)) := by
  intro d
  induction d with
  | zero =>
    intro i pre l n hi hl h1 h0 hM
    obtain rfl : l = [] := List.eq_nil_of_length_eq_zero hl
    subst hi
    refine Ev.step (g' := fun _ => some (mkr (n + 0) (pre ++ []))) (Ev.cst rfl) fun k => ?_
    show laws_markInt64S.l0_ k (laws_markInt64S.l0 k) n _ (pre ++ []) = _
    unfold laws_markInt64S.l0_
    simp
  | succ d ih =>
    intro i pre l n hi hl h1 h0 hM
    obtain ⟨x, l, rfl⟩ : ∃ x m, l = x :: m := by
      cases l with
      | nil => simp at hl
      | cons x m => exact ⟨x, m, rfl⟩
    subst hi
    have hlt : pre.length < (pre ++ x :: l).length := by simp
    refine Ev.sc ?_
    show Ev (fun k => laws_markInt64S.l0_ k (laws_markInt64S.l0 k) n _ (pre ++ x :: l)) _
    unfold laws_markInt64S.l0_
    simp only [head_in hlt, head_0, Bool.and_self, cond_true, Int.toNat_natCast, wrap_nat (show pre.length < 9223372036854775807 by omega), wrap_id (x := n + 1) (by omega) (by omega)]
    have e : (pre ++ x :: l).set pre.length n = (pre ++ [n]) ++ l := by simp
    rw [e]
    refine (ih (pre.length + 1) (pre ++ [n]) l (n + 1) (by simp) (by simpa using hl) (by omega) (by omega) (by omega)).rw ?_
    have e1 : n + 1 + (d : Int) = n + ((d + 1 : Nat) : Int) := by omega
    simp [upFrom, e1]
theorem markInts (l : List Int) (n : Int) (hl : l.length ≤ 1048576) (h0 : 0 ≤ n) (hM : n + (l.length : Int) ≤ 9223372036854775807) : Ev (fun k => laws_markInt64S.f k n l) (mkr (n + (l.length : Int)) (upFrom n l.length)) :=
  markInts_l l.length 0 [] l n rfl rfl (by omega) h0 hM
theorem heldInts_l : ∀ (d i : Nat) (pre : List Int) (n : Int), pre.length = i → i + d ≤ 1048576 → 0 ≤ n → n + (d : Int) ≤ 9223372036854775807 → Ev (fun k => laws_heldInt64S.l0 k (pre ++ upFrom n d) n (i : Int)) (one (n + (d : Int))) := by
  intro d
  induction d with
  | zero =>
    intro i pre n hi h1 h0 hM
    subst hi
    refine Ev.step (g' := fun _ => some (one (n + 0))) (Ev.cst rfl) fun k => ?_
    show laws_heldInt64S.l0_ k (laws_heldInt64S.l0 k) (pre ++ []) n _ = _
    unfold laws_heldInt64S.l0_
    simp
  | succ d ih =>
    intro i pre n hi h1 h0 hM
    subst hi
    have hlt : pre.length < (pre ++ n :: upFrom (n + 1) d).length := by simp
    refine Ev.sc ?_
    show Ev (fun k => laws_heldInt64S.l0_ k (laws_heldInt64S.l0 k) (pre ++ n :: upFrom (n + 1) d) n _) _
    unfold laws_heldInt64S.l0_
    simp only [head_in hlt, head_0, Bool.and_self, cond_true, get_in hlt, wrap_nat (show pre.length < 9223372036854775807 by omega), wrap_id (x := n + 1) (by omega) (by omega)]
    refine Ev.neg (by simp) ?_
    have e : pre ++ n :: upFrom (n + 1) d = (pre ++ [n]) ++ upFrom (n + 1) d := by simp
    rw [e]
    refine (ih (pre.length + 1) (pre ++ [n]) (n + 1) (by simp) (by omega) (by omega) (by omega)).rw ?_
    have e1 : n + 1 + (d : Int) = n + ((d + 1 : Nat) : Int) := by omega
    rw [e1]
theorem heldInts (n : Int) (d : Nat) (hl : d ≤ 1048576) (h0 : 0 ≤ n) (hM : n + (d : Int) ≤ 9223372036854775807) : Ev (fun k => laws_heldInt64S.f k (upFrom n d) n) (one (n + (d : Int))) :=
  heldInts_l d 0 [] n rfl (by omega) h0 hM
end Go.Proofs.YtebgkcjpocfmmaaGreat.V
namespace Go.Proofs.YtebgkcjpocfmmaaGreat.V
open Go
set_option linter.unusedVariables false
set_option linter.unusedSimpArgs false
/-- The elements that count from a number up to another one. -/
def Chain {α : Type} (P : Int → α → Int → Prop) : Int → List α → Int → Prop
  | n, [], n' => n = n'
  | n, x :: l, n' => ∃ n1, P n x n1 ∧ Chain P n1 l n'
theorem held_ch {α : Type} {z : α} {P : Int → α → Int → Prop} {H : Nat → List α → Int → Int → Option IR}
    (hend : ∀ (l : List α) (n : Int) k, H (k + 1) l n (l.length : Int) = some (one n))
    (hstep : ∀ (l : List α) (i : Nat) (n n' : Int), i < l.length → l.length ≤ 1048576 → P n (l.getD i z) n' → ∀ r, Ev (fun k => H k l n' ((i + 1 : Nat) : Int)) r → Ev (fun k => H k l n (i : Int)) r) :
    ∀ (d i : Nat) (l : List α) (n n' : Int), i + d = l.length → l.length ≤ 1048576 → Chain P n (l.drop i) n' → Ev (fun k => H k l n (i : Int)) (one n') := by
  intro d
  induction d with
  | zero =>
    intro i l n n' hi hl hc
    obtain rfl : i = l.length := by omega
    rw [List.drop_length] at hc
    obtain rfl : n = n' := hc
    exact Ev.step (g' := fun _ => some (one n)) (Ev.cst rfl) (hend l n)
  | succ d ih =>
    intro i l n n' hi hl hc
    have hlt : i < l.length := by omega
    rw [List.drop_eq_getElem_cons hlt] at hc
    obtain ⟨n1, p, c⟩ := hc
    exact hstep l i n n1 hlt hl (by rw [getD_at _ _ _ hlt]; exact p) _ (ih (i + 1) l n1 n' (by omega) hl c)
theorem held_all {α : Type} {z : α} {P : Int → α → Int → Prop} {H : Nat → List α → Int → Int → Option IR}
    (hend : ∀ (l : List α) (n : Int) k, H (k + 1) l n (l.length : Int) = some (one n))
    (hstep : ∀ (l : List α) (i : Nat) (n n' : Int), i < l.length → l.length ≤ 1048576 → P n (l.getD i z) n' → ∀ r, Ev (fun k => H k l n' ((i + 1 : Nat) : Int)) r → Ev (fun k => H k l n (i : Int)) r)
    (l : List α) (n n' : Int) (hl : l.length ≤ 1048576) (hc : Chain P n l n') : Ev (fun k => H k l n 0) (one n') := held_ch hend hstep l.length 0 l n n' (by omega) hl hc
theorem Ev.sk {R : Type} {n m : Int} {o : Option R} {g : Nat → Option R} {r : R} (h : n = m) (e : Ev g r) : Ev (fun k => bif !decide (n = m) then o else g k) r := Ev.neg (by rw [dpos h]; rfl) e
def MP (n : Int) (x : tPhiD) (n' : Int) : Prop := ∃ d : Nat, d ≤ 1048576 ∧ 0 ≤ n ∧ n' = n + 1 + (d : Int) ∧ n' ≤ 9000000000000000000 ∧ x.1 = n ∧ x.2.1 = upFrom (n + 1) d
def MI (n : Int) (x : tInstD) (n' : Int) : Prop := ∃ d : Nat, d ≤ 1048576 ∧ 0 ≤ n ∧ n' = n + 1 + 1 + 1 + 1 + 1 + 1 + (d : Int) ∧ n' ≤ 9000000000000000000 ∧ x.1 = n ∧ x.2.1 = n + 1 ∧ x.2.2.1 = n + 1 + 1 ∧ x.2.2.2.1 = n + 1 + 1 + 1 ∧ x.2.2.2.2.1 = n + 1 + 1 + 1 + 1 ∧ x.2.2.2.2.2.1 = n + 1 + 1 + 1 + 1 + 1 ∧ x.2.2.2.2.2.2.1 = upFrom (n + 1 + 1 + 1 + 1 + 1 + 1) d
def MB (n : Int) (x : tBlockD) (n' : Int) : Prop := ∃ n1 n2, x.1.length ≤ 1048576 ∧ x.2.1.length ≤ 1048576 ∧ Chain MP n x.1 n1 ∧ Chain MI n1 x.2.1 n2 ∧ 0 ≤ n1 ∧ 0 ≤ n2 ∧ n' = n2 + 1 + 1 + 1 + 1 ∧ n' ≤ 9000000000000000000 ∧ x.2.2.1 = n2 ∧ x.2.2.2.1 = n2 + 1 ∧ x.2.2.2.2.1 = n2 + 1 + 1 ∧ x.2.2.2.2.2.1 = n2 + 1 + 1 + 1
theorem heldPhis (l : List tPhiD) (n n' : Int) (hl : l.length ≤ 1048576) (hc : Chain MP n l n') : Ev (fun k => laws_heldPhiS.f k l n) (one n') := by
  refine held_all (z := tPhiZ) (P := MP) (H := laws_heldPhiS.l0) (fun l n k => ?_) (fun l i n n1 hi hl hp r hr => Ev.sc ?_) l n n' hl hc
  · show laws_heldPhiS.l0_ k (laws_heldPhiS.l0 k) l n _ = _
    unfold laws_heldPhiS.l0_
    rw [head_end]; rfl
  · obtain ⟨d, hd, h0, rfl, hM, e1, e2⟩ := hp
    show Ev (fun k => laws_heldPhiS.l0_ k (laws_heldPhiS.l0 k) l n _) _
    unfold laws_heldPhiS.l0_
    simp only [head_in hi, head_0, Bool.and_self, cond_true, Int.toNat_natCast, wrap_nat (show i < 9223372036854775807 by omega), wrap_id (x := n + 1) (by omega) (by omega), e2]
    exact Ev.sk e1 (Ev.bind (heldInts (n + 1) d hd (by omega) (by omega)) (Ev.dn (show ¬ n + 1 + (d : Int) < 0 by omega) hr))
theorem heldInsts (l : List tInstD) (n n' : Int) (hl : l.length ≤ 1048576) (hc : Chain MI n l n') : Ev (fun k => laws_heldInstS.f k l n) (one n') := by
  refine held_all (z := tInstZ) (P := MI) (H := laws_heldInstS.l0) (fun l n k => ?_) (fun l i n n1 hi hl hp r hr => Ev.sc ?_) l n n' hl hc
  · show laws_heldInstS.l0_ k (laws_heldInstS.l0 k) l n _ = _
    unfold laws_heldInstS.l0_
    rw [head_end]; rfl
  · obtain ⟨d, hd, h0, rfl, hM, e1, e2, e3, e4, e5, e6, e7⟩ := hp
    show Ev (fun k => laws_heldInstS.l0_ k (laws_heldInstS.l0 k) l n _) _
    unfold laws_heldInstS.l0_
    simp only [head_in hi, head_0, Bool.and_self, cond_true, Int.toNat_natCast, wrap_nat (show i < 9223372036854775807 by omega), wrap_id (x := n + 1) (by omega) (by omega), wrap_id (x := n + 1 + 1) (by omega) (by omega), wrap_id (x := n + 1 + 1 + 1) (by omega) (by omega), wrap_id (x := n + 1 + 1 + 1 + 1) (by omega) (by omega), wrap_id (x := n + 1 + 1 + 1 + 1 + 1) (by omega) (by omega), wrap_id (x := n + 1 + 1 + 1 + 1 + 1 + 1) (by omega) (by omega), e7]
    exact Ev.sk e1 (Ev.sk e2 (Ev.sk e3 (Ev.sk e4 (Ev.sk e5 (Ev.sk e6 (Ev.bind (heldInts (n + 1 + 1 + 1 + 1 + 1 + 1) d hd (by omega) (by omega)) (Ev.dn (show ¬ n + 1 + 1 + 1 + 1 + 1 + 1 + (d : Int) < 0 by omega) hr)))))))
theorem heldBlocks (l : List tBlockD) (n n' : Int) (hl : l.length ≤ 1048576) (hc : Chain MB n l n') : Ev (fun k => laws_heldBlockS.f k l n) (one n') := by
  refine held_all (z := tBlockZ) (P := MB) (H := laws_heldBlockS.l0) (fun l n k => ?_) (fun l i n n1 hi hl hp r hr => Ev.sc ?_) l n n' hl hc
  · show laws_heldBlockS.l0_ k (laws_heldBlockS.l0 k) l n _ = _
    unfold laws_heldBlockS.l0_
    rw [head_end]; rfl
  · obtain ⟨m1, m2, u1, u2, c1, c2, p1, p2, rfl, hM, e1, e2, e3, e4⟩ := hp
    show Ev (fun k => laws_heldBlockS.l0_ k (laws_heldBlockS.l0 k) l n _) _
    unfold laws_heldBlockS.l0_
    simp only [head_in hi, head_0, Bool.and_self, cond_true, Int.toNat_natCast, wrap_nat (show i < 9223372036854775807 by omega)]
    refine Ev.bind (heldPhis _ n m1 u1 c1) (Ev.dn (show ¬ m1 < 0 by omega) (Ev.bind (heldInsts _ m1 m2 u2 c2) (Ev.dn (show ¬ m2 < 0 by omega) ?_)))
    simp only [wrap_id (x := m2 + 1) (by omega) (by omega), wrap_id (x := m2 + 1 + 1) (by omega) (by omega), wrap_id (x := m2 + 1 + 1 + 1) (by omega) (by omega), wrap_id (x := m2 + 1 + 1 + 1 + 1) (by omega) (by omega)]
    exact Ev.sk e1 (Ev.sk e2 (Ev.sk e3 (Ev.sk e4 hr)))
end Go.Proofs.YtebgkcjpocfmmaaGreat.V
namespace Go.Proofs.YtebgkcjpocfmmaaGreat.V
open Go
set_option linter.unusedVariables false
set_option linter.unusedSimpArgs false
/-! ### how many numbers there are -/
def wP (p : tPhiD) : Int := 1 + (p.2.1.length : Int)
def wI (i : tInstD) : Int := 6 + (i.2.2.2.2.2.2.1.length : Int)
def wK (x : tBlockD) : Int := sumB wP x.1 + sumB wI x.2.1 + 4
def wF (f : tFuncD) : Int := (f.1.length : Int) + 1 + sumB wK f.2.2.1
theorem wP_0 (p : tPhiD) : 0 ≤ wP p := by unfold wP; omega
theorem wI_0 (i : tInstD) : 0 ≤ wI i := by unfold wI; omega
theorem wK_0 (x : tBlockD) : 0 ≤ wK x := by
  have := sumB_nonneg (w := wP) (l := x.1) fun p _ => wP_0 p
  have := sumB_nonneg (w := wI) (l := x.2.1) fun p _ => wI_0 p
  unfold wK; omega
theorem wF_0 (f : tFuncD) : 0 ≤ wF f := by
  have := sumB_nonneg (w := wK) (l := f.2.2.1) fun p _ => wK_0 p
  unfold wF; omega
def SzW {α : Type} (wf : α → Prop) (w : α → Int) (e : Int) (f : Nat → α → Int → Option IR) : Prop := ∀ (x : α), wf x → ∀ n : Int, 0 ≤ n → n ≤ 1048576 → ∃ s, Ev (fun k => f k x n) (one s) ∧ -1 ≤ s ∧ s ≤ n ∧ (0 ≤ s → w x ≤ e + 6 * (n - s))
theorem szw_list {α : Type} {wf : α → Prop} {w : α → Int} {z : α} {f : Nat → α → Int → Option IR} (hf : SzW wf w 6 f) {L : Nat → List α → Int → Int → Option IR} {F : Nat → List α → Int → Option IR}
    (hL : ∀ k l a1 a2, L (k + 1) l a1 a2 = bif decide (a2 < (l.length : Int)) then (bif decide (0 ≤ a2) && decide (a2 < (l.length : Int)) then (Option.bind (f k (l.getD a2.toNat z) a1) fun r1 => bif decide (r1.1.1.1 < 0) then some (((-1, ()), ()), ()) else L k l r1.1.1.1 (IntKind.wrap .i64 (a2 + 1))) else none) else some (((a1, ()), ()), ()))
    (hF : ∀ k l a, F k l a = bif decide (IntKind.wrap .i64 (a - (l.length : Int)) < 0) then some (((-1, ()), ()), ()) else L k l (IntKind.wrap .i64 (a - (l.length : Int))) 0) : SzW (fun l : List α => l.length ≤ 9223372036854775807 ∧ ∀ x ∈ l, wf x) (fun l : List α => sumB w l) 0 F := by
  intro l hw n h0 h1
  obtain ⟨hlen, hel⟩ := hw
  have key : ∀ (d i : Nat) (n : Int), i + d = l.length → 0 ≤ n → n ≤ 1048576 → ∃ s, Ev (fun k => L k l n (i : Int)) (one s) ∧ -1 ≤ s ∧ s ≤ n ∧ (0 ≤ s → sumB w (l.drop i) ≤ 6 * (d : Int) + 6 * (n - s)) := by
    intro d
    induction d with
    | zero =>
      intro i n hi h0 h1
      have hi' : i = l.length := by omega
      subst hi'
      refine ⟨n, Ev.step (g' := fun _ => some (one n)) (Ev.cst rfl) fun k => ?_, by omega, Int.le_refl _, fun _ => by rw [List.drop_length]; simp only [sumB]; omega⟩
      rw [hL, head_end]; rfl
    | succ d ih =>
      intro i n hi h0 h1
      have hi' : i < l.length := by omega
      have hmem : l[i] ∈ l := List.getElem_mem hi'
      obtain ⟨s, e1, e2, e3, e4⟩ := hf (l[i]) (hel _ hmem) n h0 h1
      have hstep : ∀ k, L (k + 1) l n (i : Int) = Option.bind (f k (l[i]) n) fun r1 => bif decide (r1.1.1.1 < 0) then some (((-1, ()), ()), ()) else L k l r1.1.1.1 ((i + 1 : Nat) : Int) := fun k => by
        rw [hL]
        simp only [head_in hi', head_0, Bool.and_self, cond_true, get_in hi', wrap_nat (show i < 9223372036854775807 by omega)]
      rcases Int.lt_or_le s 0 with hs | hs
      · refine ⟨-1, Ev.step (Ev.bind (f := fun k r1 => bif decide (r1.1.1.1 < 0) then some (((-1, ()), ()), ()) else L k l r1.1.1.1 ((i + 1 : Nat) : Int)) e1 ?_) hstep, by omega, by omega, fun h => by omega⟩
        exact Ev.pos (dpos hs) (Ev.cst rfl)
      · obtain ⟨s', q1, q2, q3, q4⟩ := ih (i + 1) s (by omega) hs (by omega)
        refine ⟨s', Ev.step (Ev.bind (f := fun k r1 => bif decide (r1.1.1.1 < 0) then some (((-1, ()), ()), ()) else L k l r1.1.1.1 ((i + 1 : Nat) : Int)) e1 (Ev.neg (dneg (show ¬ s < 0 by omega)) q1)) hstep, q2, by omega, fun h => ?_⟩
        rw [sumB_drop w l i hi']
        have a := e4 hs
        have b := q4 h
        omega
  have hw : IntKind.wrap .i64 (n - (l.length : Int)) = n - (l.length : Int) := wrap_id (by omega) (by omega)
  rcases Int.lt_or_le (n - (l.length : Int)) 0 with hs | hs
  · refine ⟨-1, (Ev.cst rfl : Ev (fun _ => some (one (-1 : Int))) _).congr fun k => ?_, by omega, by omega, fun h => by omega⟩
    rw [hF, hw, dpos hs]; rfl
  · obtain ⟨s, q1, q2, q3, q4⟩ := key (l.length) 0 _ (by omega) hs (by omega)
    refine ⟨s, q1.congr fun k => ?_, q2, by omega, fun h => ?_⟩
    · rw [hF, hw, dneg (by omega)]; rfl
    · have := q4 h
      rw [List.drop_zero] at this
      show sumB w l ≤ _
      omega
theorem szwInts : SzW (Wf (.list (.int .i64))) (fun l => (List.length (α := Int) l : Int)) 0 laws_szInt64S.f := by
  intro (l : List Int) hw n h0 h1
  have hlen : List.length (α := Int) l ≤ 9223372036854775807 := hw.1
  have hwr : IntKind.wrap .i64 (n - (List.length (α := Int) l : Int)) = n - (List.length (α := Int) l : Int) := wrap_id (by omega) (by omega)
  have he : ∀ k, laws_szInt64S.f k l n = bif decide (n - (List.length (α := Int) l : Int) < 0) then some (one (-1)) else some (one (n - (List.length (α := Int) l : Int))) := fun k => by
    show (bif decide (IntKind.wrap .i64 (n - (List.length (α := Int) l : Int)) < 0) then _ else _) = _
    rw [hwr]
  by_cases hs : n - (List.length (α := Int) l : Int) < 0
  · exact ⟨-1, Ev.all fun k => by rw [he, dpos hs]; rfl, by omega, by omega, fun h => by omega⟩
  · exact ⟨_, Ev.all fun k => by rw [he, dneg hs]; rfl, by omega, by omega, fun h => by show (l.length : Int) ≤ _; omega⟩
theorem szwPhi : SzW (Wf tPhi) wP 6 laws_szPhi.f := by
  intro (x : tPhiD) hw n h0 h1
  obtain ⟨s, e, a, b, c⟩ := szwInts _ hw.2.1 n h0 h1
  exact ⟨_, sz_then (n := n) e, by split <;> omega, by split <;> omega, fun h => by have u : (x.2.1.length : Int) ≤ 0 + 6 * (n - s) := c (by split at h <;> omega); unfold wP; split at h <;> split <;> omega⟩
theorem szwPhiS : SzW (Wf (.list tPhi)) (fun l => sumB wP l) 0 laws_szPhiS.f := szw_list (z := tPhiZ) szwPhi (L := laws_szPhiS.l0) (fun k l a b => rfl) fun k l a => rfl
theorem szwInst : SzW (Wf tInst) wI 6 laws_szInst.f := by
  intro (x : tInstD) hw n h0 h1
  obtain ⟨s, e, a, b, c⟩ := szwInts _ hw.2.2.2.2.2.2.1 n h0 h1
  exact ⟨_, sz_then (n := n) e, by split <;> omega, by split <;> omega, fun h => by have u : (x.2.2.2.2.2.2.1.length : Int) ≤ 0 + 6 * (n - s) := c (by split at h <;> omega); unfold wI; split at h <;> split <;> omega⟩
theorem szwInstS : SzW (Wf (.list tInst)) (fun l => sumB wI l) 0 laws_szInstS.f := szw_list (z := tInstZ) szwInst (L := laws_szInstS.l0) (fun k l a b => rfl) fun k l a => rfl
theorem szwBlock : SzW (Wf tBlock) wK 6 laws_szBlock.f := by
  intro (x : tBlockD) hw n h0 h1
  obtain ⟨s, e, a, b, c⟩ := szwPhiS _ hw.1 n h0 h1
  by_cases hs : s < 0
  · exact ⟨-1, sz_two (n := n) (f := fun k s => Option.bind (laws_szInstS.f k x.2.1 s) fun r1 => bif decide (r1.1.1.1 < 0) then some (((-1, ()), ()), ()) else some (((r1.1.1.1, ()), ()), ())) e (fun h => by omega) (fun _ => rfl), by omega, by omega, fun h => by omega⟩
  · obtain ⟨s', e', a', b', c'⟩ := szwInstS _ hw.2.1 s (by omega) (by omega)
    exact ⟨_, sz_two (n := n) (f := fun k s => Option.bind (laws_szInstS.f k x.2.1 s) fun r1 => bif decide (r1.1.1.1 < 0) then some (((-1, ()), ()), ()) else some (((r1.1.1.1, ()), ()), ())) e (fun _ => sz_then (n := n) e') (fun h => by omega), by split <;> omega, by split <;> omega, fun h => by have u : sumB wP x.1 ≤ 0 + 6 * (n - s) := c (by omega); have v : sumB wI x.2.1 ≤ 0 + 6 * (s - s') := c' (by split at h <;> omega); unfold wK; split at h <;> split <;> omega⟩
theorem szwBlockS : SzW (Wf (.list tBlock)) (fun l => sumB wK l) 0 laws_szBlockS.f := szw_list (z := tBlockZ) szwBlock (L := laws_szBlockS.l0) (fun k l a b => rfl) fun k l a => rfl
theorem szwFunc : SzW (Wf tFunc) wF 6 laws_szFunc.f := by
  intro (x : tFuncD) hw n h0 h1
  obtain ⟨s, e, a, b, c⟩ := szwInts _ hw.1 n h0 h1
  by_cases hs : s < 0
  · exact ⟨-1, sz_two (n := n) (f := fun k s => Option.bind (laws_szBlockS.f k x.2.2.1 s) fun r1 => bif decide (r1.1.1.1 < 0) then some (((-1, ()), ()), ()) else some (((r1.1.1.1, ()), ()), ())) e (fun h => by omega) (fun _ => rfl), by omega, by omega, fun h => by omega⟩
  · obtain ⟨s', e', a', b', c'⟩ := szwBlockS _ hw.2.2.1 s (by omega) (by omega)
    exact ⟨_, sz_two (n := n) (f := fun k s => Option.bind (laws_szBlockS.f k x.2.2.1 s) fun r1 => bif decide (r1.1.1.1 < 0) then some (((-1, ()), ()), ()) else some (((r1.1.1.1, ()), ()), ())) e (fun _ => sz_then (n := n) e') (fun h => by omega), by split <;> omega, by split <;> omega, fun h => by have u : (x.1.length : Int) ≤ 0 + 6 * (n - s) := c (by omega); have v : sumB wK x.2.2.1 ≤ 0 + 6 * (s - s') := c' (by split at h <;> omega); unfold wF; split at h <;> split <;> omega⟩
theorem szwFuncS : SzW (Wf (.list tFunc)) (fun l => sumB wF l) 0 laws_szFuncS.f := szw_list (z := tFuncZ) szwFunc (L := laws_szFuncS.l0) (fun k l a b => rfl) fun k l a => rfl
theorem szwModule : SzW (Wf tModule) (fun m => sumB wF m.1) 6 laws_szModule.f := by
  intro (x : tModuleD) hw n h0 h1
  obtain ⟨s, e, a, b, c⟩ := szwFuncS _ hw.1 n h0 h1
  exact ⟨_, sz_then (n := n) e, by split <;> omega, by split <;> omega, fun h => by have u : sumB wF x.1 ≤ 0 + 6 * (n - s) := c (by split at h <;> omega); show sumB wF x.1 ≤ _; split at h <;> split <;> omega⟩
/-- A law over a module: it is small, and how many numbers it holds. -/
theorem law_frameW {a : tModuleD} (hw : Wf tModule a) {g : Nat → Option BR} (h : Small tModule a → sumB wF a.1 ≤ 10000000 → Ev g (one true)) : Ev (fun k => Option.bind (laws_szModule.f k (a.1, ()) 1048576) fun r1 => bif decide (r1.1.1.1 < 0) then some (((true, ()), ()), ()) else g k) (one true) := by
  obtain ⟨s, e, _, _, c⟩ := szModule a hw 1048576 (by omega) (by omega)
  obtain ⟨t, e', _, _, d⟩ := szwModule a hw 1048576 (by omega) (by omega)
  have hst : one s = one t := Ev.uniq e e'
  have hst' : s = t := congrArg (fun r => r.1.1.1) hst
  refine Ev.bind (f := fun k r1 => bif decide (r1.1.1.1 < 0) then some (((true, ()), ()), ()) else g k) e ?_
  by_cases hs : s < 0
  · exact Ev.pos (dpos hs) (Ev.cst rfl)
  · exact Ev.neg (dneg hs) (h (c (by omega)) (by have u : sumB wF a.1 ≤ 6 + 6 * (1048576 - t) := d (by omega); omega))
/-! ### numbers, counted -/
theorem mark_wt {α : Type} {z : α} {w : α → Int} (hw : ∀ x, 0 ≤ w x) {small : α → Prop} {P : Int → α → Int → Prop} {L : Nat → Int → Int → List α → Option (MkR (List α))} {M : Int}
    (hend : ∀ (l : List α) (n : Int) k, L (k + 1) n (l.length : Int) l = some (mkr n l))
    (hstep : ∀ (l : List α) (i : Nat) (n : Int), i < l.length → l.length ≤ 1048576 → small (l.getD i z) → 0 ≤ n → n + w (l.getD i z) ≤ M → ∃ n' x, n ≤ n' ∧ n' ≤ n + w (l.getD i z) ∧ P n x n' ∧ ∀ r, Ev (fun k => L k n' ((i + 1 : Nat) : Int) (l.set i x)) r → Ev (fun k => L k n (i : Int) l) r) :
    ∀ (d i : Nat) (l : List α) (n : Int), i + d = l.length → l.length ≤ 1048576 → (∀ j x, i ≤ j → l[j]? = some x → small x) → 0 ≤ n → n + sumB w (l.drop i) ≤ M → ∃ n' m, Ev (fun k => L k n (i : Int) l) (mkr n' (l.take i ++ m)) ∧ Chain P n m n' ∧ n ≤ n' ∧ n' ≤ n + sumB w (l.drop i) ∧ m.length = d := by
  intro d
  induction d with
  | zero =>
    intro i l n hi hl hs h0 hM
    obtain rfl : i = l.length := by omega
    exact ⟨n, [], (Ev.step (g' := fun _ => some (mkr n l)) (Ev.cst rfl) (hend l n)).rw (by rw [List.take_length, List.append_nil]), rfl, Int.le_refl _, by rw [List.drop_length]; simp [sumB], rfl⟩
  | succ d ih =>
    intro i l n hi hl hs h0 hM
    have hlt : i < l.length := by omega
    have hnn := sumB_nonneg (w := w) (l := l.drop (i + 1)) fun x _ => hw x
    rw [sumB_drop w l i hlt, ← getD_at l z i hlt] at hM
    obtain ⟨n1, x1, a1, a2, a3, a5⟩ := hstep l i n hlt hl (hs i _ (Nat.le_refl _) (by rw [getD_at _ _ _ hlt]; exact List.getElem?_eq_getElem hlt)) h0 (by omega)
    have ed : (l.set i x1).drop (i + 1) = l.drop (i + 1) := by rw [List.drop_set_of_lt (by omega)]
    obtain ⟨n2, m2, b1, b2, b3, b4, b5⟩ := ih (i + 1) (l.set i x1) n1 (by rw [List.length_set]; omega) (by rw [List.length_set]; exact hl) (fun j x hj hx => hs j x (by omega) (by rw [List.getElem?_set_ne (by omega)] at hx; exact hx)) (by omega) (by rw [ed]; omega)
    rw [ed] at b4
    refine ⟨n2, x1 :: m2, (a5 _ b1).rw ?_, ⟨n1, a3, b2⟩, by omega, by rw [sumB_drop w l i hlt, ← getD_at l z i hlt]; omega, by rw [List.length_cons, b5]⟩
    have e2 : (l.set i x1).take (i + 1) = l.take i ++ [x1] := by
      rw [List.take_succ_eq_append_getElem (by rw [List.length_set]; exact hlt), List.getElem_set_self, List.take_set_of_le (Nat.le_refl i)]
    show mkr n2 ((l.set i x1).take (i + 1) ++ m2) = _
    rw [e2, List.append_assoc]; rfl
theorem mark_allw {α : Type} {z : α} {w : α → Int} (hw : ∀ x, 0 ≤ w x) {small : α → Prop} {P : Int → α → Int → Prop} {L : Nat → Int → Int → List α → Option (MkR (List α))} {M : Int}
    (hend : ∀ (l : List α) (n : Int) k, L (k + 1) n (l.length : Int) l = some (mkr n l))
    (hstep : ∀ (l : List α) (i : Nat) (n : Int), i < l.length → l.length ≤ 1048576 → small (l.getD i z) → 0 ≤ n → n + w (l.getD i z) ≤ M → ∃ n' x, n ≤ n' ∧ n' ≤ n + w (l.getD i z) ∧ P n x n' ∧ ∀ r, Ev (fun k => L k n' ((i + 1 : Nat) : Int) (l.set i x)) r → Ev (fun k => L k n (i : Int) l) r)
    (l : List α) (n : Int) (hl : l.length ≤ 1048576) (hs : ∀ x ∈ l, small x) (h0 : 0 ≤ n) (hM : n + sumB w l ≤ M) : ∃ n' m, Ev (fun k => L k n 0 l) (mkr n' m) ∧ Chain P n m n' ∧ n ≤ n' ∧ n' ≤ n + sumB w l ∧ m.length ≤ 1048576 := by
  obtain ⟨n', m, a, b, c, d, e⟩ := mark_wt (z := z) hw (small := small) (P := P) hend hstep l.length 0 l n (by omega) hl (fun j x _ hx => hs x (List.mem_of_getElem? hx)) h0 hM
  exact ⟨n', m, a, b, c, d, by omega⟩
theorem markPhisW (l : List tPhiD) (hs : Small (.list tPhi) l) (n : Int) (h0 : 0 ≤ n) (hM : n + sumB wP l ≤ 100000000) : ∃ n' m, Ev (fun k => laws_markPhiS.f k n l) (mkr n' m) ∧ Chain MP n m n' ∧ n ≤ n' ∧ n' ≤ n + sumB wP l ∧ m.length ≤ 1048576 := by
  refine mark_allw (z := tPhiZ) wP_0 (small := Small tPhi) (L := laws_markPhiS.l0) (M := 100000000) (fun l n k => ?_) (fun l i n hi hl hx h0 hM => ?_) l n hs.1 hs.2 h0 hM
  · show laws_markPhiS.l0_ k (laws_markPhiS.l0 k) n _ l = _
    unfold laws_markPhiS.l0_
    rw [head_end]; rfl
  · have hlen : (l.getD i tPhiZ).2.1.length ≤ 1048576 := hx.2.1.1
    unfold wP at hM ⊢
    refine ⟨n + 1 + ((l.getD i tPhiZ).2.1.length : Int), (n, upFrom (n + 1) (l.getD i tPhiZ).2.1.length, (l.getD i tPhiZ).2.2), by omega, by omega, ⟨_, hlen, h0, rfl, by omega, rfl, rfl⟩, fun r hr => Ev.sc ?_⟩
    show Ev (fun k => laws_markPhiS.l0_ k (laws_markPhiS.l0 k) n _ l) _
    unfold laws_markPhiS.l0_
    simp only [updAt_length, head_in hi, head_0, Bool.and_self, cond_true, Int.toNat_natCast, wrap_nat (show i < 9223372036854775807 by omega), wrap_id (x := n + 1) (by omega) (by omega), updAt_twice hi, updAt_at _ _ _ _ hi]
    exact Ev.bind (markInts _ (n + 1) hlen (by omega) (by omega)) hr
theorem markInstsW (l : List tInstD) (hs : Small (.list tInst) l) (n : Int) (h0 : 0 ≤ n) (hM : n + sumB wI l ≤ 100000000) : ∃ n' m, Ev (fun k => laws_markInstS.f k n l) (mkr n' m) ∧ Chain MI n m n' ∧ n ≤ n' ∧ n' ≤ n + sumB wI l ∧ m.length ≤ 1048576 := by
  refine mark_allw (z := tInstZ) wI_0 (small := Small tInst) (L := laws_markInstS.l0) (M := 100000000) (fun l n k => ?_) (fun l i n hi hl hx h0 hM => ?_) l n hs.1 hs.2 h0 hM
  · show laws_markInstS.l0_ k (laws_markInstS.l0 k) n _ l = _
    unfold laws_markInstS.l0_
    rw [head_end]; rfl
  · have hlen : (l.getD i tInstZ).2.2.2.2.2.2.1.length ≤ 1048576 := hx.2.2.2.2.2.2.1.1
    unfold wI at hM ⊢
    refine ⟨n + 1 + 1 + 1 + 1 + 1 + 1 + ((l.getD i tInstZ).2.2.2.2.2.2.1.length : Int), (n, n + 1, n + 1 + 1, n + 1 + 1 + 1, n + 1 + 1 + 1 + 1, n + 1 + 1 + 1 + 1 + 1, upFrom (n + 1 + 1 + 1 + 1 + 1 + 1) (l.getD i tInstZ).2.2.2.2.2.2.1.length, (l.getD i tInstZ).2.2.2.2.2.2.2), by omega, by omega, ⟨_, hlen, h0, rfl, by omega, rfl, rfl, rfl, rfl, rfl, rfl, rfl⟩, fun r hr => Ev.sc ?_⟩
    show Ev (fun k => laws_markInstS.l0_ k (laws_markInstS.l0 k) n _ l) _
    unfold laws_markInstS.l0_
    simp only [updAt_length, head_in hi, head_0, Bool.and_self, cond_true, Int.toNat_natCast, wrap_nat (show i < 9223372036854775807 by omega), wrap_id (x := n + 1) (by omega) (by omega), wrap_id (x := n + 1 + 1) (by omega) (by omega), wrap_id (x := n + 1 + 1 + 1) (by omega) (by omega), wrap_id (x := n + 1 + 1 + 1 + 1) (by omega) (by omega), wrap_id (x := n + 1 + 1 + 1 + 1 + 1) (by omega) (by omega), wrap_id (x := n + 1 + 1 + 1 + 1 + 1 + 1) (by omega) (by omega), updAt_twice hi, updAt_at _ _ _ _ hi]
    exact Ev.bind (markInts _ (n + 1 + 1 + 1 + 1 + 1 + 1) hlen (by omega) (by omega)) hr
theorem markBlocksW (l : List tBlockD) (hs : Small (.list tBlock) l) (n : Int) (h0 : 0 ≤ n) (hM : n + sumB wK l ≤ 100000000) : ∃ n' m, Ev (fun k => laws_markBlockS.f k n l) (mkr n' m) ∧ Chain MB n m n' ∧ n ≤ n' ∧ n' ≤ n + sumB wK l ∧ m.length ≤ 1048576 := by
  refine mark_allw (z := tBlockZ) wK_0 (small := Small tBlock) (L := laws_markBlockS.l0) (M := 100000000) (fun l n k => ?_) (fun l i n hi hl hx h0 hM => ?_) l n hs.1 hs.2 h0 hM
  · show laws_markBlockS.l0_ k (laws_markBlockS.l0 k) n _ l = _
    unfold laws_markBlockS.l0_
    rw [head_end]; rfl
  · have z1 := sumB_nonneg (w := wP) (l := (l.getD i tBlockZ).1) fun p _ => wP_0 p
    have z2 := sumB_nonneg (w := wI) (l := (l.getD i tBlockZ).2.1) fun p _ => wI_0 p
    unfold wK at hM ⊢
    obtain ⟨n1, p1, e1, q1, a1, b1, c1⟩ := markPhisW (l.getD i tBlockZ).1 hx.1 n h0 (by omega)
    obtain ⟨n2, p2, e2, q2, a2, b2, c2⟩ := markInstsW (l.getD i tBlockZ).2.1 hx.2.1 n1 (by omega) (by omega)
    refine ⟨n2 + 1 + 1 + 1 + 1, (p1, p2, n2, n2 + 1, n2 + 1 + 1, n2 + 1 + 1 + 1, (l.getD i tBlockZ).2.2.2.2.2.2), by omega, by omega, ⟨n1, n2, c1, c2, q1, q2, by omega, by omega, rfl, by omega, rfl, rfl, rfl, rfl⟩, fun r hr => Ev.sc ?_⟩
    show Ev (fun k => laws_markBlockS.l0_ k (laws_markBlockS.l0 k) n _ l) _
    unfold laws_markBlockS.l0_
    simp only [updAt_length, head_in hi, head_0, Bool.and_self, cond_true, Int.toNat_natCast, wrap_nat (show i < 9223372036854775807 by omega), updAt_twice hi, updAt_at _ _ _ _ hi]
    refine Ev.bind e1 (Ev.bind e2 ?_)
    simp only [mkr, wrap_id (x := n2 + 1) (by omega) (by omega), wrap_id (x := n2 + 1 + 1) (by omega) (by omega), wrap_id (x := n2 + 1 + 1 + 1) (by omega) (by omega), wrap_id (x := n2 + 1 + 1 + 1 + 1) (by omega) (by omega)]
    exact hr
def MF (n : Int) (x : tFuncD) (n' : Int) : Prop := ∃ d : Nat, d ≤ 1048576 ∧ 0 ≤ n ∧ n ≤ 100000000 ∧ x.1 = upFrom n d ∧ x.2.1 = n + (d : Int) ∧ x.2.2.1.length ≤ 1048576 ∧ Chain MB (n + (d : Int) + 1) x.2.2.1 n' ∧ 0 ≤ n'
theorem markFuncsW (l : List tFuncD) (hs : Small (.list tFunc) l) (n : Int) (h0 : 0 ≤ n) (hM : n + sumB wF l ≤ 100000000) : ∃ n' m, Ev (fun k => laws_markFuncS.f k n l) (mkr n' m) ∧ Chain MF n m n' ∧ n ≤ n' ∧ n' ≤ n + sumB wF l ∧ m.length ≤ 1048576 := by
  refine mark_allw (z := tFuncZ) wF_0 (small := Small tFunc) (L := laws_markFuncS.l0) (M := 100000000) (fun l n k => ?_) (fun l i n hi hl hx h0 hM => ?_) l n hs.1 hs.2 h0 hM
  · show laws_markFuncS.l0_ k (laws_markFuncS.l0 k) n _ l = _
    unfold laws_markFuncS.l0_
    rw [head_end]; rfl
  · have hlen : (l.getD i tFuncZ).1.length ≤ 1048576 := hx.1.1
    have z1 := sumB_nonneg (w := wK) (l := (l.getD i tFuncZ).2.2.1) fun p _ => wK_0 p
    unfold wF at hM ⊢
    obtain ⟨n2, p2, e2, q2, a2, b2, c2⟩ := markBlocksW (l.getD i tFuncZ).2.2.1 hx.2.2.1 (n + ((l.getD i tFuncZ).1.length : Int) + 1) (by omega) (by omega)
    refine ⟨n2, (upFrom n (l.getD i tFuncZ).1.length, n + ((l.getD i tFuncZ).1.length : Int), p2, (l.getD i tFuncZ).2.2.2), by omega, by omega, ⟨_, hlen, h0, by omega, rfl, rfl, c2, q2, by omega⟩, fun r hr => Ev.sc ?_⟩
    show Ev (fun k => laws_markFuncS.l0_ k (laws_markFuncS.l0 k) n _ l) _
    unfold laws_markFuncS.l0_
    simp only [updAt_length, head_in hi, head_0, Bool.and_self, cond_true, Int.toNat_natCast, wrap_nat (show i < 9223372036854775807 by omega), updAt_twice hi, updAt_at _ _ _ _ hi]
    refine Ev.bind (markInts _ n hlen (by omega) (by omega)) ?_
    simp only [mkr, wrap_id (x := n + ((l.getD i tFuncZ).1.length : Int) + 1) (by omega) (by omega)]
    exact Ev.bind e2 hr
theorem heldFuncsW (l : List tFuncD) (n n' : Int) (hl : l.length ≤ 1048576) (hc : Chain MF n l n') : Ev (fun k => laws_heldFuncS.f k l n) (one n') := by
  refine held_all (z := tFuncZ) (P := MF) (H := laws_heldFuncS.l0) (fun l n k => ?_) (fun l i n n1 hi hl hp r hr => Ev.sc ?_) l n n' hl hc
  · show laws_heldFuncS.l0_ k (laws_heldFuncS.l0 k) l n _ = _
    unfold laws_heldFuncS.l0_
    rw [head_end]; rfl
  · obtain ⟨d, hd, h0, hM, e1, e2, hb, hc, hn1⟩ := hp
    show Ev (fun k => laws_heldFuncS.l0_ k (laws_heldFuncS.l0 k) l n _) _
    unfold laws_heldFuncS.l0_
    simp only [head_in hi, head_0, Bool.and_self, cond_true, Int.toNat_natCast, wrap_nat (show i < 9223372036854775807 by omega), e1]
    refine Ev.bind (heldInts n d hd (by omega) (by omega)) (Ev.dn (show ¬ n + (d : Int) < 0 by omega) (Ev.sk e2 ?_))
    simp only [wrap_id (x := n + (d : Int) + 1) (by omega) (by omega)]
    exact Ev.bind (heldBlocks _ _ n1 hb hc) (Ev.dn (show ¬ n1 < 0 by omega) hr)
/-- What is laid over a module is read back. -/
theorem markHeldM {l : List tFuncD} (hs : Small (.list tFunc) l) (hw : sumB wF l ≤ 10000000) : ∃ n' l', Ev (fun k => laws_markModule.f k 1 l) (mkr n' l') ∧ 0 ≤ n' ∧ Ev (fun k => laws_heldModule.f k (l', ()) 1) (one n') := by
  obtain ⟨n2, m, e2, q2, a2, b2, c2⟩ := markFuncsW l hs 1 (by omega) (by omega)
  exact ⟨n2, m, Ev.bind e2 (Ev.cst rfl), by omega, Ev.bind (heldFuncsW m _ n2 c2 q2) (Ev.dn (show ¬ n2 < 0 by omega) (Ev.cst rfl))⟩
end Go.Proofs.YtebgkcjpocfmmaaGreat.V
namespace Go.Proofs.YtebgkcjpocfmmaaGreat.V
open Go
set_option linter.unusedVariables false
set_option linter.unusedSimpArgs false
/-- What an id is a copy of. -/
def srcF (f : tFuncD) : Nat → Int → Int
  | 0, id => id
  | n + 1, id => bif (instP f id).2 && decide ((instP f id).1.1 = 27) then srcF f n (instP f id).1.2.2.1 else id
section
variable {funcs : Int} {f : tFuncD}
theorem copy_vid (hf : Fm funcs f) {id : Int} (v : vid f id) (h : (instP f id).2 = true) (h27 : (instP f id).1.1 = 27) : vid f (instP f id).1.2.2.1 := by
  obtain ⟨x, hx, hi⟩ := instP_in hf v h
  refine (hf.vo hx hi).2 _ ?_
  have ho : opsB (instP f id).1 = [(instP f id).1.2.2.1] := by unfold opsB inB; rw [h27]; rfl
  rw [ho]; exact List.mem_singleton.2 rfl
theorem specSrc_l (hf : Fm funcs f) : ∀ (d n : Nat) (id : Int), n + d = 60 → vid f id → Ev (fun k => spec_l10Source.l0 k id (n : Int) f) (one (srcF f d id)) := by
  intro d
  induction d with
  | zero =>
    intro n id hn v
    refine Ev.sk1 ?_
    show Ev (fun k => spec_l10Source.l0_ k (spec_l10Source.l0 k) _ _ _) _
    unfold spec_l10Source.l0_
    exact Ev.dn (by omega) (Ev.cst rfl)
  | succ d ih =>
    intro n id hn v
    refine Ev.sk1 ?_
    show Ev (fun k => spec_l10Source.l0_ k (spec_l10Source.l0 k) _ _ _) _
    simp only [spec_l10Source.l0_, wrap_nat (show n < 9223372036854775807 by omega)]
    refine Ev.dp (by omega) (Ev.bind (specInstOf hf v) ?_)
    unfold srcF
    cases h : (instP f id).2 with
    | false => exact Ev.pos (by unfold instQ; rw [h]; rfl) (Ev.cst rfl)
    | true =>
      refine Ev.neg (by unfold instQ; rw [h]; rfl) ?_
      by_cases h27 : (instP f id).1.1 = 27
      · rw [dpos h27]
        exact Ev.neg (by show (!decide ((instP f id).1.1 = 27)) = false; rw [dpos h27]; rfl) (ih (n + 1) _ (by omega) (copy_vid hf v h h27))
      · rw [dneg h27]
        exact Ev.pos (by show (!decide ((instP f id).1.1 = 27)) = true; rw [dneg h27]; rfl) (Ev.cst rfl)
theorem implSrc_l (hs : Small tFunc f) (hf : Fm funcs f) : ∀ (d n : Nat) (id : Int), n + d = 60 → vid f id → Ev (fun k => impl_original.l0 k id (n : Int) f) (one (srcF f d id)) := by
  intro d
  induction d with
  | zero =>
    intro n id hn v
    refine Ev.sk1 ?_
    show Ev (fun k => impl_original.l0_ k (impl_original.l0 k) _ _ _) _
    unfold impl_original.l0_
    exact Ev.dn (by omega) (Ev.cst rfl)
  | succ d ih =>
    intro n id hn v
    refine Ev.sk1 ?_
    show Ev (fun k => impl_original.l0_ k (impl_original.l0 k) _ _ _) _
    simp only [impl_original.l0_, wrap_nat (show n < 9223372036854775807 by omega)]
    refine Ev.dp (by omega) (Ev.bind (implInstOf hs hf v) ?_)
    unfold srcF
    cases h : (instP f id).2 with
    | false => exact Ev.pos (by unfold instQ; rw [h]; rfl) (Ev.cst rfl)
    | true =>
      refine Ev.neg (by unfold instQ; rw [h]; rfl) ?_
      by_cases h27 : (instP f id).1.1 = 27
      · rw [dpos h27]
        exact Ev.neg (by show (!decide ((instP f id).1.1 = 27)) = false; rw [dpos h27]; rfl) (ih (n + 1) _ (by omega) (copy_vid hf v h h27))
      · rw [dneg h27]
        exact Ev.pos (by show (!decide ((instP f id).1.1 = 27)) = true; rw [dneg h27]; rfl) (Ev.cst rfl)
def srcL (f : tFuncD) : List Int := (List.range (cntB f).toNat).map fun j : Nat => srcF f 60 (j : Int)
theorem cnt_nat (hf : Fm funcs f) : ((cntB f).toNat : Int) = cntB f := by
  have h : 0 ≤ cntB f := by
    rw [cntB_eq]
    have := sumB_nonneg (w := wB) (l := f.2.2.1) fun y _ => wB_nonneg y
    omega
  omega
theorem srcL_len (hf : Fm funcs f) : ((srcL f).length : Int) = cntB f := by
  unfold srcL
  rw [List.length_map, List.length_range, cnt_nat hf]
theorem srcL_get {i : Nat} (h : i < (srcL f).length) : (srcL f)[i] = srcF f 60 (i : Int) := by simp [srcL]
theorem srcL_at (hf : Fm funcs f) {id : Int} (h : okI (srcL f) id) : subI (srcL f) id = srcF f 60 id ∧ vid f id := by
  have h1 := h.2
  rw [srcL_len hf] at h1
  have hlt : id.toNat < (srcL f).length := by
    have := h.2
    have := h.1
    omega
  refine ⟨?_, h.1, h1⟩
  unfold subI
  rw [getD_at _ _ _ hlt, srcL_get]
  rw [show ((id.toNat : Nat) : Int) = id by have := h.1; omega]
theorem cgClo (hs : Small tFunc f) (hf : Fm funcs f) : Clo (srcL f) f := fun id h => by
  obtain ⟨e, v⟩ := srcL_at hf h
  rw [e]
  exact Ev.bind (implSrc_l hs hf 60 0 id rfl v) (Ev.cst rfl)
def cgF (f : tFuncD) : tFuncD := subF (srcL f) f
theorem implCgF (hs : Small tFunc f) (hf : Fm funcs f) : Ev (fun k => impl_turned_1.f k f) (fR true (cgF f)) :=
  Ev.bind (Ev.bind (implSubst (cgClo hs hf) (hf.subOK hs (srcL_len hf))) (Ev.cst rfl)) (Ev.cst rfl)
theorem range_pushC {β : Type} (g : Nat → β) (n : Nat) : (List.range n).map g ++ [g n] = (List.range (n + 1)).map g := by rw [List.range_succ, List.map_append]; rfl
theorem len_capC {α : Type} {l : List α} {x : α} {b : Nat} (hb : b ≤ 100) (h : l.length ≤ 1048576) : (List.length l + List.length [x]) * b ≤ 140737488355328 := by
  have h1 : List.length l + List.length [x] ≤ 1048577 := by simp only [List.length_cons, List.length_nil]; omega
  exact Nat.le_trans (Nat.mul_le_mul h1 hb) (by decide)
theorem specCgF (hs : Small tFunc f) (hf : Fm funcs f) {i : Nat} (hi : i ≤ 1048576) {fs a3 out : List tFuncD} (ho : out.length ≤ 1048576) {r : spec_CopiesGone.R}
    (e : Ev (fun k => spec_CopiesGone.l0 k ((i + 1 : Nat) : Int) fs a3 (out ++ [cgF f])) r) : Ev (fun k => spec_CopiesGone.l1 k (i : Int) 0 fs a3 out f []) r := by
  have hcnt := hf.cnt
  have hnat := cnt_nat hf
  refine st_loop (n0 := (cntB f).toNat) (L := fun k a s => spec_CopiesGone.l1 k (i : Int) a fs a3 out f s) (T := fun k s => Option.bind (spec_l8Subst.f k f s) fun r3 => bif decide ((List.length out + List.length [((r3.2.1, r3.1.1.2.1, r3.2.2.1, ()) : tFuncD)]) * 56 ≤ 140737488355328) then (spec_CopiesGone.l0 k ((i + 1 : Nat) : Int) fs a3 (out ++ [((r3.2.1, r3.1.1.2.1, r3.2.2.1, ()) : tFuncD)])) else none) (fun j => (List.range j).map fun j : Nat => srcF f 60 (j : Int)) (fun r e => Ev.sk1 ?_) (fun j r hlt e => Ev.sk1 ?_) ?_
  · show Ev (fun k => spec_CopiesGone.l1_ k (spec_CopiesGone.l0 k) (spec_CopiesGone.l1 k) _ _ _ _ _ _ _) _
    simp only [spec_CopiesGone.l1_, wrap_nat (show i < 9223372036854775807 by omega)]
    refine Ev.bind (specCount hs) (Ev.dn (by show ¬ (((cntB f).toNat : Int) < cntB f); omega) ?_)
    exact e
  · show Ev (fun k => spec_CopiesGone.l1_ k (spec_CopiesGone.l0 k) (spec_CopiesGone.l1 k) _ _ _ _ _ _ _) _
    simp only [spec_CopiesGone.l1_, wrap_nat (show j < 9223372036854775807 by omega)]
    refine Ev.bind (specCount hs) (Ev.dp (by show ((j : Int) < cntB f); omega) (Ev.bind (specSrc_l hf 60 0 (j : Int) rfl ⟨by omega, by omega⟩) (Ev.dp (len_capC (by decide) (by rw [List.length_map, List.length_range]; omega)) ?_)))
    simp only [← range_pushC] at e
    exact e
  · exact Ev.bind (specSubst (hf.subOK hs (srcL_len hf))) (Ev.dp (len_capC (by decide) ho) e)
end
section
variable {m : tModuleD}
theorem specCg (hs : Small tModule m) : Ev (fun k => spec_CopiesGone.f k m) (mR (okM m) (turnM cgF m)) := by
  have hl : m.1.length ≤ 1048576 := hs.1.1
  unfold spec_CopiesGone.f turnM
  refine Ev.bind (specM (m := (m.1, ())) hs) ?_
  cases hok : okM m with
  | false => exact Ev.pos (by show (!okM m) = true; rw [hok]; rfl) (Ev.cst rfl)
  | true =>
    refine Ev.neg (by show (!okM m) = false; rw [hok]; rfl) ?_
    refine st_loop (n0 := m.1.length) (L := fun k a s => spec_CopiesGone.l0 k a m.1 [] s) (T := fun k s => some (mR true s)) (fun i => (m.1.take i).map cgF) (fun r e => Ev.sk1 ?_) (fun i r hlt e => Ev.sk1 ?_) ?_
    · show Ev (fun k => spec_CopiesGone.l0_ k (spec_CopiesGone.l0 k) (spec_CopiesGone.l1 k) _ _ _ _) _
      simp only [spec_CopiesGone.l0_, head_end, cond_false]
      exact e
    · show Ev (fun k => spec_CopiesGone.l0_ k (spec_CopiesGone.l0 k) (spec_CopiesGone.l1 k) _ _ _ _) _
      have hmem := List.getElem_mem hlt
      simp only [spec_CopiesGone.l0_, head_in hlt, head_0, Bool.and_self, cond_true, Int.toNat_natCast, getD_at _ _ _ hlt]
      refine specCgF (hs.1.2 _ hmem) (okM_fm hok _ hmem) (by omega) (by rw [List.length_map, List.length_take]; omega) ?_
      simp only [← take_push hlt, List.map_append] at e
      exact e
    · simp only [List.take_length]
      exact Ev.cst rfl
theorem implCg (hs : Small tModule m) : Ev (fun k => impl_CopiesGone.f k m) (mR (okM m) (turnM cgF m)) :=
  Ev.bind (implTurned hs fun hok f hf => implCgF (hs.1.2 _ hf) (okM_fm hok _ hf)) (Ev.cst rfl)
end
/-! ### how much there is of it -/
theorem sumB_map {α β : Type} (w : β → Int) (g : α → β) : ∀ l : List α, sumB w (l.map g) = sumB (fun x => w (g x)) l
  | [] => rfl
  | x :: l => by simp only [List.map_cons, sumB, sumB_map w g l]
theorem sumB_mono {α : Type} {w v : α → Int} : ∀ {l : List α}, (∀ x ∈ l, w x ≤ v x) → sumB w l ≤ sumB v l
  | [], _ => Int.le_refl _
  | x :: l, h => by
    have a := h x (by simp)
    have b := sumB_mono (l := l) fun y hy => h y (by simp [hy])
    simp only [sumB]; omega
theorem subF_w (to : List Int) (f : tFuncD) : wF (subF to f) ≤ wF f := by
  have hk : ∀ x, wK (subB to x) ≤ wK x := fun x => by
    have h1 : sumB wP (x.1.map (subPhi to)) ≤ sumB wP x.1 := by
      rw [sumB_map]
      refine sumB_mono fun p _ => ?_
      show 1 + ((p.2.1.map (subI to)).length : Int) ≤ 1 + (p.2.1.length : Int)
      rw [List.length_map]; exact Int.le_refl _
    have h2 : sumB wI (x.2.1.map (subInst to)) ≤ sumB wI x.2.1 := by
      rw [sumB_map]
      refine sumB_mono fun i _ => ?_
      show 6 + ((subInst to i).2.2.2.2.2.2.1.length : Int) ≤ 6 + (i.2.2.2.2.2.2.1.length : Int)
      rw [subInst_args]; exact Int.le_refl _
    show sumB wP (x.1.map (subPhi to)) + sumB wI (x.2.1.map (subInst to)) + 4 ≤ sumB wP x.1 + sumB wI x.2.1 + 4
    omega
  have h3 : sumB wK (f.2.2.1.map (subB to)) ≤ sumB wK f.2.2.1 := by
    rw [sumB_map]
    exact sumB_mono fun x _ => hk x
  show (f.1.length : Int) + 1 + sumB wK (f.2.2.1.map (subB to)) ≤ (f.1.length : Int) + 1 + sumB wK f.2.2.1
  omega
theorem turnM_small {m : tModuleD} {g : tFuncD → tFuncD} (hs : Small tModule m) (hg : ∀ f, Small tFunc f → Small tFunc (g f)) : Small (.list tFunc) (turnM g m) := by
  unfold turnM
  cases okM m
  · exact ⟨by show (0 : Nat) ≤ _; omega, fun _ h => by cases h⟩
  · refine ⟨by show (m.1.map g).length ≤ _; rw [List.length_map]; exact hs.1.1, fun x hx => ?_⟩
    obtain ⟨f, hf, rfl⟩ := List.mem_map.1 (show x ∈ m.1.map g from hx)
    exact hg f (hs.1.2 f hf)
theorem turnM_w {m : tModuleD} {g : tFuncD → tFuncD} (hw : sumB wF m.1 ≤ 10000000) (hg : ∀ f, wF (g f) ≤ wF f) : sumB wF (turnM g m) ≤ 10000000 := by
  unfold turnM
  cases okM m
  · show (0 : Int) ≤ _; omega
  · show sumB wF (m.1.map g) ≤ _
    rw [sumB_map]
    exact Int.le_trans (sumB_mono fun f _ => hg f) hw
end Go.Proofs.YtebgkcjpocfmmaaGreat.V
namespace Go.Proofs.YtebgkcjpocfmmaaGreat.V
open Go
theorem PureFnExactCopiesGone : ∀ (a0 : tModuleD), Wf tModule a0 → ∃ k, laws_FnExactCopiesGone.f k a0 = some (((true, ()), ()), ()) := by
  intro a hw
  refine Ev.ex (g := fun k => laws_FnExactCopiesGone.f k a) ?_
  unfold laws_FnExactCopiesGone.f
  refine law_frameW hw fun h hww => ?_
  have ho : Small (.list tFunc) (turnM cgF a) := turnM_small h fun f hf => subF_small hf
  have hg : Small tModule (turnM cgF a, ()) := ⟨ho, trivial⟩
  obtain ⟨n1, p1, em, hn1, _⟩ := markHeldM h.1 hww
  obtain ⟨n2, p2, em2, hn2, eh⟩ := markHeldM ho (turnM_w hww fun f => subF_w _ f)
  have heq : (!decide (n2 = n2)) = false := by simp
  have hb : (!(okM a == okM a)) = false := by simp
  refine Ev.bind (toModule h) (Ev.bind (specCg h) (Ev.bind (toModule h) (Ev.bind (implCg h) (Ev.yes (eqModule hg) (Ev.neg hb (Ev.bind (toModule h) (Ev.yes (eqModule h) (Ev.bind em ?_))))))))
  refine Ev.dn (show ¬ n1 < 0 by omega) (Ev.yes (eqModule hg) (Ev.neg hb (Ev.bind em2 (Ev.bind eh (Ev.dn (show ¬ n2 < 0 by omega) (Ev.neg heq ?_))))))
  exact Ev.bind (toModule h) (Ev.bind (implCg h) (Ev.yes (eqModule hg) (Ev.neg hb (Ev.bind eh (Ev.dn (show ¬ n2 < 0 by omega) (Ev.neg heq (Ev.cst rfl)))))))
end Go.Proofs.YtebgkcjpocfmmaaGreat.V
