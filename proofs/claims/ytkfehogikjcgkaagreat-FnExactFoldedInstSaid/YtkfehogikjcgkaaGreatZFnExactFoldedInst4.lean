/- PROVED HERE: what the functions that the law FnExactFoldedInst reaches do in memory, each as a plain Lean function, and what these tell: part 5 of 6 of the proof of that law; no condition beyond those written out at each theorem. -/
import Derived.Test.YtkfehogikjcgkaaGreatZFnExactFoldedInst2
import Derived.Test.YtkfehogikjcgkaaGreatZFnExactFoldedInst3
namespace Go.Proofs.YtkfehogikjcgkaaGreat.V
open Go
set_option linter.unusedVariables false
set_option linter.unusedSimpArgs false
def constI (w v : Int) : tInstD := (21, w, 0, 0, 0, v, [], ())
def copyI (w a : Int) : tInstD := (27, w, a, 0, 0, 0, [], ())
abbrev InS := ((Int × Int × Int × Int × Int × Int × Unit × Unit) × Unit) × ((List Int) × Unit)
def rI (i : tInstD) : InS := (((i.1, i.2.1, i.2.2.1, i.2.2.2.1, i.2.2.2.2.1, i.2.2.2.2.2.1, (), ()), ()), (i.2.2.2.2.2.2.1, ()))
theorem specConstI (k : Nat) (w v : Int) : spec_l9Const.f k w v = some (rI (constI w v)) := rfl
theorem specCopyI (k : Nat) (w a : Int) : spec_l9Same.f k w a = some (rI (copyI w a)) := rfl
theorem specKeep (k : Nat) {i : tInstD} (h : i.2.2.2.2.2.2.1.length ≤ 1048576) : spec_l2CopyInst.f k i = some (rI i) := by
  unfold spec_l2CopyInst.f
  rw [specCopy k h]; rfl
theorem implConstI (k : Nat) {i : tInstD} (h : i.1 = 24 ∨ i.1 = 25 → i.2.1 = 0) (v : Int) : impl_constant.f k i v = some (rI (constI (widthI i) v)) := by
  unfold impl_constant.f
  rw [implWidth k h]; rfl
theorem implCopyI (k : Nat) {i : tInstD} (h : i.1 = 24 ∨ i.1 = 25 → i.2.1 = 0) (a : Int) : impl_copied.f k i a = some (rI (copyI (widthI i) a)) := by
  unfold impl_copied.f
  rw [implWidth k h]; rfl
def memB (l : List Int) (n : Int) : Bool := l.any fun x => decide (n = x)
theorem isL (l : List Int) (v : Int) (h : l.length ≤ 1000) : ∀ (d i k : Nat), i + d = l.length → d < k → slices_Index_int64_int64.l0 k l v (l.length : Int) (i : Int) = some (one (ixF (fun x => decide (v = x)) (l.drop i) i)) := by
  intro d
  induction d with
  | zero =>
    intro i k hi hk
    obtain rfl : i = l.length := by omega
    obtain ⟨k, rfl⟩ : ∃ j, k = j + 1 := ⟨k - 1, by omega⟩
    rw [List.drop_length]
    show slices_Index_int64_int64.l0_ k (slices_Index_int64_int64.l0 k) l v _ _ = _
    unfold slices_Index_int64_int64.l0_
    rw [head_end]; rfl
  | succ d ih =>
    intro i k hi hk
    have hlt : i < l.length := by omega
    obtain ⟨k, rfl⟩ : ∃ j, k = j + 1 := ⟨k - 1, by omega⟩
    rw [List.drop_eq_getElem_cons hlt]
    show slices_Index_int64_int64.l0_ k (slices_Index_int64_int64.l0 k) l v _ _ = _
    unfold slices_Index_int64_int64.l0_ ixF
    simp only [head_in hlt, head_0, Bool.and_self, cond_true, get_in hlt, wrap_nat (show i < 9223372036854775807 by omega)]
    cases decide (v = l[i]) with
    | true => rfl
    | false => exact ih (i + 1) k (by omega) (by omega)
theorem implIs (k : Nat) (l : List Int) (v : Int) (h : l.length ≤ 1000) (hk : l.length < k) : impl_is.f k v l = some (one (memB l v)) := by
  unfold impl_is.f slices_Contains_int64_int64.f slices_Index_int64_int64.f
  have := isL l v h l.length 0 k (by omega) hk
  rw [show ((0 : Nat) : Int) = 0 from rfl, List.drop_zero] at this
  rw [this]
  show some (((decide (0 ≤ ixF (fun x => decide (v = x)) l 0), ()), ()), ()) = _
  rw [ixF_any]; rfl
/-! ### two numbers, not both known -/
def twoF (i : tInstD) (a : Int) (x : Bool) (b : Int) (y : Bool) : tInstD :=
  bif y && (decide (b = 0) && memB [1, 2, 9, 10, 11, 12, 13] i.1) then copyI (widthI i) i.2.2.1 else
  bif x && (decide (a = 0) && memB [1, 9, 10] i.1) then copyI (widthI i) i.2.2.2.1 else
  bif y && (decide (b = 1) && memB [3, 4] i.1) then copyI (widthI i) i.2.2.1 else
  bif x && (decide (a = 1) && decide (i.1 = 3)) then copyI (widthI i) i.2.2.2.1 else
  bif ((x && decide (a = 0)) || (y && decide (b = 0))) && memB [3, 8] i.1 then constI (widthI i) 0 else
  bif !decide (i.2.2.1 = i.2.2.2.1) then i else
  bif memB [2, 10, 15, 16, 17] i.1 then constI (widthI i) 0 else
  bif decide (i.1 = 14) then constI (widthI i) 1 else
  bif memB [8, 9] i.1 then copyI (widthI i) i.2.2.1 else i
theorem in1113 (n : Int) : inB 11 13 n = (decide (n = 11) || (decide (n = 12) || decide (n = 13))) := by
  rw [Bool.eq_iff_iff]
  simp only [inB, Bool.and_eq_true, Bool.or_eq_true, decide_eq_true_eq]
  omega
section
variable (k : Nat) (op a b : Int) (x y : Bool)
theorem j1 : (bif y then (bif decide (b = 0) then (bif decide (op = 1) then (some true) else (bif decide (op = 2) then (some true) else (bif decide (op = 9) then (some true) else (bif decide (op = 10) then (some true) else (Option.bind (spec_l1In.f k op 11 13) fun r2 => some r2.1.1.1))))) else (some false)) else (some false)) = some (y && (decide (b = 0) && memB [1, 2, 9, 10, 11, 12, 13] op)) := by
  rw [specIn, Option.bind_some]
  show (bif y then (bif decide (b = 0) then (bif decide (op = 1) then (some true) else (bif decide (op = 2) then (some true) else (bif decide (op = 9) then (some true) else (bif decide (op = 10) then (some true) else some (inB 11 13 op))))) else (some false)) else (some false)) = _
  rw [in1113]
  unfold memB
  simp only [List.any_cons, List.any_nil, Bool.or_false]
  cases y
  · rfl
  · cases decide (b = 0)
    · rfl
    · cases decide (op = 1) <;> cases decide (op = 2) <;> cases decide (op = 9) <;> cases decide (op = 10) <;> rfl
theorem j2 : (bif x then (bif decide (a = 0) then (bif decide (op = 1) then (some true) else (bif decide (op = 9) then (some true) else (some (decide (op = 10))))) else (some false)) else (some false)) = some (x && (decide (a = 0) && memB [1, 9, 10] op)) := by
  unfold memB
  simp only [List.any_cons, List.any_nil, Bool.or_false]
  cases x
  · rfl
  · cases decide (a = 0)
    · rfl
    · cases decide (op = 1) <;> cases decide (op = 9) <;> rfl
theorem j3 : (bif y then (bif decide (b = 1) then (bif decide (op = 3) then (some true) else (some (decide (op = 4)))) else (some false)) else (some false)) = some (y && (decide (b = 1) && memB [3, 4] op)) := by
  unfold memB
  simp only [List.any_cons, List.any_nil, Bool.or_false]
  cases y
  · rfl
  · cases decide (b = 1)
    · rfl
    · cases decide (op = 3) <;> rfl
theorem j4 : (bif x then (bif decide (a = 1) then (some (decide (op = 3))) else (some false)) else (some false)) = some (x && (decide (a = 1) && decide (op = 3))) := by
  cases x
  · rfl
  · cases decide (a = 1) <;> rfl
theorem j5 : (bif decide (op = 3) then (bif x then (bif decide (a = 0) then (some true) else (bif y then (some (decide (b = 0))) else (some false))) else (bif y then (some (decide (b = 0))) else (some false))) else (bif decide (op = 8) then (bif x then (bif decide (a = 0) then (some true) else (bif y then (some (decide (b = 0))) else (some false))) else (bif y then (some (decide (b = 0))) else (some false))) else (some false))) = some (((x && decide (a = 0)) || (y && decide (b = 0))) && memB [3, 8] op) := by
  unfold memB
  simp only [List.any_cons, List.any_nil, Bool.or_false]
  cases x <;> cases decide (a = 0) <;> cases y <;> cases decide (b = 0) <;> cases decide (op = 3) <;> cases decide (op = 8) <;> rfl
theorem j6 : (bif decide (op = 2) then (some true) else (bif decide (op = 10) then (some true) else (bif decide (op = 15) then (some true) else (bif decide (op = 16) then (some true) else (some (decide (op = 17))))))) = some (memB [2, 10, 15, 16, 17] op) := by
  unfold memB
  simp only [List.any_cons, List.any_nil, Bool.or_false]
  cases decide (op = 2) <;> cases decide (op = 10) <;> cases decide (op = 15) <;> cases decide (op = 16) <;> rfl
theorem j7 : (bif decide (op = 8) then (some true) else (some (decide (op = 9)))) = some (memB [8, 9] op) := by
  unfold memB
  simp only [List.any_cons, List.any_nil, Bool.or_false]
  cases decide (op = 8) <;> rfl
/-! the program's -/
theorem i1 (l : List Int) (m : Int) (h : l.length ≤ 1000) (hk : l.length < k) : (bif y then (bif decide (b = m) then (Option.bind (impl_is.f k op l) fun r5 => some r5.1.1.1) else (some false)) else (some false)) = some (y && (decide (b = m) && memB l op)) := by
  rw [implIs k l op h hk]
  cases y
  · rfl
  · cases decide (b = m) <;> rfl
theorem i5 (hk : 10 < k) : (bif x then (bif decide (a = 0) then (Option.bind (impl_is.f k op [3, 8]) fun r16 => some r16.1.1.1) else (bif y then (bif decide (b = 0) then (Option.bind (impl_is.f k op [3, 8]) fun r17 => some r17.1.1.1) else (some false)) else (some false))) else (bif y then (bif decide (b = 0) then (Option.bind (impl_is.f k op [3, 8]) fun r18 => some r18.1.1.1) else (some false)) else (some false))) = some (((x && decide (a = 0)) || (y && decide (b = 0))) && memB [3, 8] op) := by
  rw [implIs k [3, 8] op (by decide) (by simp; omega)]
  cases x <;> cases decide (a = 0) <;> cases y <;> cases decide (b = 0) <;> rfl
end
theorem bif_rI {c : Bool} {p q : tInstD} : (bif c then some (rI p) else some (rI q)) = some (rI (bif c then p else q)) := by cases c <;> rfl
theorem specTwo (k : Nat) {i : tInstD} (h : i.2.2.2.2.2.2.1.length ≤ 1048576) (a : Int) (x : Bool) (b : Int) (y : Bool) : spec_l9Two.f k i a x b y = some (rI (twoF i a x b y)) := by
  unfold spec_l9Two.f
  rw [specWidth, Option.bind_some]
  simp only [j1, j2, j3, j4, j5, j6, j7, Option.bind_some, specConstI, specCopyI, specKeep k h]
  show (bif _ then some (rI (copyI (widthI i) i.2.2.1)) else bif _ then some (rI (copyI (widthI i) i.2.2.2.1)) else bif _ then some (rI (copyI (widthI i) i.2.2.1)) else bif _ then some (rI (copyI (widthI i) i.2.2.2.1)) else bif _ then some (rI (constI (widthI i) 0)) else bif _ then some (rI i) else bif _ then some (rI (constI (widthI i) 0)) else bif _ then some (rI (constI (widthI i) 1)) else bif _ then some (rI (copyI (widthI i) i.2.2.1)) else some (rI i)) = _
  simp only [bif_rI]
  rfl
noncomputable def binR (op w a b : Int) : Int × Int := (binary_one op w a b 0).choose
theorem specBinR (k : Nat) (op w a b : Int) : spec_Binary.f k op w a b = some (IIQ (binR op w a b)) := (binary_one op w a b 0).choose_spec.1
theorem implBinR (k : Nat) (op w a b : Int) : impl_Binary.f k op w a b = some (IIQ (binR op w a b)) := (binary_one op w a b 0).choose_spec.2
noncomputable def castR (op t w v : Int) : Int × Bool := (casted_one op t w v 0).choose
theorem specCastR (k : Nat) (op t w v : Int) : spec_Casted.f k op t w v = some (IBQ (castR op t w v)) := (casted_one op t w v 0).choose_spec.1
theorem implCastR (k : Nat) (op t w v : Int) : impl_Casted.f k op t w v = some (IBQ (castR op t w v)) := (casted_one op t w v 0).choose_spec.2
noncomputable def binF (i : tInstD) (p q : Int × Bool) : tInstD :=
  bif p.2 && q.2 then (bif decide ((binR i.1 i.2.1 p.1 q.1).2 = 0) then constI (widthI i) (binR i.1 i.2.1 p.1 q.1).1 else i) else twoF i p.1 p.2 q.1 q.2
noncomputable def foldF (f : tFuncD) (i : tInstD) : tInstD :=
  bif inB 1 17 i.1 then binF i (constP f i.2.2.1) (constP f i.2.2.2.1) else
  bif inB 18 20 i.1 && (constP f i.2.2.1).2 then (bif (castR i.1 (typeOf f i.2.2.1) i.2.1 (constP f i.2.2.1).1).2 then constI i.2.1 (castR i.1 (typeOf f i.2.2.1) i.2.1 (constP f i.2.2.1).1).1 else i) else
  bif decide (i.1 = 22) && (((constP f i.2.2.1).2 && decide ((constP f i.2.2.1).1 = 1)) || decide (i.2.2.2.1 = i.2.2.2.2.1)) then copyI i.2.1 i.2.2.2.1 else
  bif decide (i.1 = 22) && (constP f i.2.2.1).2 then copyI i.2.1 i.2.2.2.2.1 else
  bif decide (i.1 = 27) && ((constP f i.2.2.1).2 && valB i.2.1 (constP f i.2.2.1).1) then constI i.2.1 (constP f i.2.2.1).1 else i
abbrev rJ (i : tInstD) : ((tInstD × Unit) × Unit) := ((i, ()), ())
theorem bif_rJ {c : Bool} {p q : tInstD} : (bif c then some (rJ p) else some (rJ q)) = some (rJ (bif c then p else q)) := by cases c <;> rfl
section
variable {funcs : Int} {f : tFuncD} {i : tInstD}
theorem inst_a (hf : Fm funcs f) {n : Int} (h : instB (cntB f) n i = true) : 0 ≤ i.2.2.1 ∧ i.2.2.1 ≤ 100 := by
  have h60 := hf.cnt
  simp only [instB, Bool.and_eq_true, List.all_eq_true] at h
  have hops := h.1.1.1.2
  have hz := h.1.1.2
  have key : opsB i = [] ∨ i.2.2.1 ∈ opsB i ∨ i.1 = 26 := by
    by_cases h26 : i.1 = 26
    · exact .inr (.inr h26)
    · unfold opsB
      rw [dneg h26]
      cases inB 1 17 i.1 <;> cases decide (i.1 = 24) <;> cases inB 18 20 i.1 <;> cases decide (i.1 = 23) <;> cases decide (i.1 = 25) <;> cases decide (i.1 = 27) <;> cases decide (i.1 = 22) <;> simp
  have zero : named i = 0 → 0 ≤ i.2.2.1 ∧ i.2.2.1 ≤ 100 := fun hn => by
    unfold zerosB at hz
    rw [hn] at hz
    simp only [List.drop_zero, List.all_cons, Bool.and_eq_true, decide_eq_true_eq] at hz
    omega
  by_cases h26 : i.1 = 26
  · exact zero (by unfold named; rw [dpos h26]; rfl)
  · rcases key with h | h | h
    · exact zero (by unfold named; rw [dneg h26, h]; rfl)
    · have := vid_of (f := f) (hops _ h)
      exact ⟨this.1, by have := this.2; omega⟩
    · exact (h26 h).elim
theorem inst_b (hf : Fm funcs f) {n : Int} (h : instB (cntB f) n i = true) (h17 : inB 1 17 i.1 = true) : 0 ≤ i.2.2.2.1 ∧ i.2.2.2.1 ≤ 100 := by
  have h60 := hf.cnt
  simp only [instB, Bool.and_eq_true, List.all_eq_true] at h
  have := vid_of (f := f) (h.1.1.1.2 i.2.2.2.1 (by unfold opsB; rw [h17]; simp))
  exact ⟨this.1, by have := this.2; omega⟩
theorem inst_c (h : instB (cntB f) funcs i = true) (h20 : inB 18 20 i.1 = true) : vid f i.2.2.1 := by
  simp only [instB, Bool.and_eq_true, List.all_eq_true] at h
  have hr := inB_iff.1 h20
  refine vid_of (h.1.1.1.2 i.2.2.1 ?_)
  unfold opsB
  rw [show inB 1 17 i.1 = false by unfold inB; rw [dneg (show ¬ i.1 ≤ 17 by omega), Bool.and_false], dneg (show ¬ i.1 = 24 by omega), h20]
  simp
theorem inst_len {count n : Int} (h : instB count n i = true) : i.2.2.2.2.2.2.1.length ≤ 1048576 := by
  simp only [instB, Bool.and_eq_true, decide_eq_true_eq] at h
  have := h.1.1.1.1.1.2
  omega
theorem wid_not (h : inB 1 17 i.1 = false) : widthI i = i.2.1 := by unfold widthI; rw [h]; rfl
theorem specFold (hf : Fm funcs f) {n : Int} (h : instB (cntB f) n i = true) : Ev (fun k => spec_l9Fold.f k f i) (rI (foldF f i)) := by
  have hl := inst_len h
  obtain ⟨a0, a1⟩ := inst_a hf h
  unfold spec_l9Fold.f foldF
  refine Ev.bind (specConst hf a0 a1) (Ev.bind (Ev.all fun k => specIn k _ _ _) ?_)
  generalize constP f i.2.2.1 = p
  cases h17 : inB 1 17 i.1 with
  | true =>
    obtain ⟨b0, b1⟩ := inst_b hf h h17
    refine Ev.pos rfl (Ev.bind (specConst hf b0 b1) ?_)
    generalize constP f i.2.2.2.1 = q
    refine Ev.all fun k => ?_
    simp only [specTwo k hl, specBinR, specWidth, specConstI, specKeep k hl, Option.bind_some, constQ, cond_true]
    unfold binF
    cases p.2 with
    | false => rfl
    | true =>
      cases q.2 with
      | false => rfl
      | true =>
        show (bif decide ((binR i.1 i.2.1 p.1 q.1).2 = 0) then some (rI _) else some (rI _)) = _
        cases decide ((binR i.1 i.2.1 p.1 q.1).2 = 0) <;> rfl
  | false =>
    refine Ev.neg rfl ?_
    cases h20 : inB 18 20 i.1 with
    | true =>
      have v := inst_c h h20
      have hT := specType hf v.1 v.2
      have h22 : decide (i.1 = 22) = false := dneg (by have := inB_iff.1 h20; omega)
      have h27 : decide (i.1 = 27) = false := dneg (by have := inB_iff.1 h20; omega)
      cases hp : p.2 with
      | true =>
        refine Ev.bind (a := true) (Ev.all fun k => ?_) (Ev.pos rfl (Ev.bind hT (Ev.all fun k => ?_)))
        · simp only [specIn, h20, Option.bind_some, cond_true]
          show some p.2 = _
          rw [hp]
        · simp only [specCastR, specConstI, specKeep k hl, Option.bind_some, constQ, cond_false, Bool.and_true, cond_true]
          cases (castR i.1 (typeOf f i.2.2.1) i.2.1 p.1).2 <;> rfl
      | false =>
        refine Ev.bind (a := false) (Ev.all fun k => ?_) (Ev.neg rfl (Ev.all fun k => ?_))
        · simp only [specIn, h20, Option.bind_some, cond_true]
          show some p.2 = _
          rw [hp]
        · simp only [h22, h27, cond_false, Option.bind_some, constQ, hp, specKeep k hl]
          rfl
    | false =>
      refine Ev.bind (a := false) (Ev.all fun k => by simp only [specIn, h20, Option.bind_some, cond_false]) (Ev.neg rfl (Ev.all fun k => ?_))
      rw [show decide (p.1 = 1) = decide ((constQ p).1.1.1 = 1) from rfl]
      generalize decide ((constQ p).1.1.1 = 1) = x1
      dsimp only [constQ]
      simp only [specVal, specConstI, specCopyI, specKeep k hl, Option.bind_some]
      cases decide (i.1 = 22) <;> cases p.2 <;> cases x1 <;> cases decide (i.2.2.2.1 = i.2.2.2.2.1) <;> cases decide (i.1 = 27) <;> cases valB i.2.1 p.1 <;> rfl
theorem implBinF (hs : Small tFunc f) (hf : Fm funcs f) {n : Int} (h : instB (cntB f) n i = true) (h17 : inB 1 17 i.1 = true) : Ev (fun k => impl_foldedBinary.f k f i) (rJ (binF i (constP f i.2.2.1) (constP f i.2.2.2.1))) := by
  have hv := instB_void h
  obtain ⟨a0, a1⟩ := inst_a hf h
  obtain ⟨b0, b1⟩ := inst_b hf h h17
  unfold impl_foldedBinary.f
  refine Ev.bind (implConst hs hf a0 a1) (Ev.bind (implConst hs hf b0 b1) ?_)
  generalize constP f i.2.2.1 = p
  generalize constP f i.2.2.2.1 = q
  obtain ⟨p1, px⟩ := p
  obtain ⟨q1, qx⟩ := q
  refine ⟨20, fun k hk => ?_⟩
  simp only [implConstI k hv, implCopyI k hv, implBinR, Option.bind_some, i1 k _ _ _ [1, 2, 9, 10, 11, 12, 13] _ (by decide) (show (7 : Nat) < k by omega), i1 k _ _ _ [1, 9, 10] _ (by decide) (show (3 : Nat) < k by omega), i1 k _ _ _ [3, 4] _ (by decide) (show (2 : Nat) < k by omega), j4, i5 k _ _ _ _ _ (show 10 < k by omega), implIs k [2, 10, 15, 16, 17] _ (by decide) (show (5 : Nat) < k by omega), implIs k [8, 9] _ (by decide) (show (2 : Nat) < k by omega)]
  have two : ∀ x y : Bool, (bif y && (decide (q1 = 0) && memB [1, 2, 9, 10, 11, 12, 13] i.1) then some (rJ (copyI (widthI i) i.2.2.1)) else
      bif x && (decide (p1 = 0) && memB [1, 9, 10] i.1) then some (rJ (copyI (widthI i) i.2.2.2.1)) else
      bif y && (decide (q1 = 1) && memB [3, 4] i.1) then some (rJ (copyI (widthI i) i.2.2.1)) else
      bif x && (decide (p1 = 1) && decide (i.1 = 3)) then some (rJ (copyI (widthI i) i.2.2.2.1)) else
      bif ((x && decide (p1 = 0)) || (y && decide (q1 = 0))) && memB [3, 8] i.1 then some (rJ (constI (widthI i) 0)) else
      bif !decide (i.2.2.1 = i.2.2.2.1) then some (rJ i) else
      bif memB [2, 10, 15, 16, 17] i.1 then some (rJ (constI (widthI i) 0)) else
      bif decide (i.1 = 14) then some (rJ (constI (widthI i) 1)) else
      bif memB [8, 9] i.1 then some (rJ (copyI (widthI i) i.2.2.1)) else some (rJ i)) = some (rJ (twoF i p1 x q1 y)) := fun x y => by
    simp only [bif_rJ]
    rfl
  unfold binF
  cases px with
  | false => exact two false qx
  | true =>
    cases qx with
    | false => exact two true false
    | true =>
      show (bif decide ((binR i.1 i.2.1 p1 q1).2 = 0) then some (rJ _) else some (rJ _)) = _
      cases decide ((binR i.1 i.2.1 p1 q1).2 = 0) <;> rfl
theorem implFold (hs : Small tFunc f) (hf : Fm funcs f) {n : Int} (h : instB (cntB f) n i = true) : Ev (fun k => impl_folded.f k f i) (rJ (foldF f i)) := by
  have hv := instB_void h
  obtain ⟨a0, a1⟩ := inst_a hf h
  unfold impl_folded.f foldF
  refine Ev.bind (implConst hs hf a0 a1) (Ev.bind (Ev.all fun k => implBin k _) ?_)
  cases h17 : inB 1 17 i.1 with
  | true => exact Ev.pos rfl (Ev.bind (implBinF hs hf h h17) (Ev.cst rfl))
  | false =>
    have hw := wid_not h17
    generalize constP f i.2.2.1 = p
    refine Ev.neg rfl ?_
    cases h20 : inB 18 20 i.1 with
    | true =>
      have v := inst_c h h20
      have hT := implType hs hf v.1 v.2
      have h22 : decide (i.1 = 22) = false := dneg (by have := inB_iff.1 h20; omega)
      have h27 : decide (i.1 = 27) = false := dneg (by have := inB_iff.1 h20; omega)
      cases hp : p.2 with
      | true =>
        refine Ev.bind (a := true) (Ev.all fun k => ?_) (Ev.pos rfl (Ev.bind hT (Ev.all fun k => ?_)))
        · simp only [implCast, h20, Option.bind_some, cond_true]
          show some p.2 = _
          rw [hp]
        · simp only [implCastR, implConstI k hv, Option.bind_some, constQ, cond_false, Bool.and_true, cond_true, hw]
          cases (castR i.1 (typeOf f i.2.2.1) i.2.1 p.1).2 <;> rfl
      | false =>
        refine Ev.bind (a := false) (Ev.all fun k => ?_) (Ev.neg rfl (Ev.all fun k => ?_))
        · simp only [implCast, h20, Option.bind_some, cond_true]
          show some p.2 = _
          rw [hp]
        · simp only [h22, h27, cond_false, Option.bind_some, constQ, hp]
          rfl
    | false =>
      refine Ev.bind (a := false) (Ev.all fun k => by simp only [implCast, h20, Option.bind_some, cond_false]) (Ev.neg rfl (Ev.all fun k => ?_))
      rw [show decide (p.1 = 1) = decide ((constQ p).1.1.1 = 1) from rfl]
      generalize decide ((constQ p).1.1.1 = 1) = x1
      dsimp only [constQ]
      simp only [implVal, implConstI k hv, implCopyI k hv, Option.bind_some, hw]
      cases decide (i.1 = 22) <;> cases p.2 <;> cases x1 <;> cases decide (i.2.2.2.1 = i.2.2.2.2.1) <;> cases decide (i.1 = 27) <;> cases valB i.2.1 p.1 <;> rfl
end
end Go.Proofs.YtkfehogikjcgkaaGreat.V
namespace Go.Proofs.YtkfehogikjcgkaaGreat.V
open Go
set_option linter.unusedVariables false
set_option linter.unusedSimpArgs false
def lenI (i : tInstD) : Prop := i.2.2.2.2.2.2.1.length ≤ 1048576
theorem lenI_bif {c : Bool} {p q : tInstD} (h : lenI p) (h' : lenI q) : lenI (bif c then p else q) := by cases c <;> assumption
theorem lenI_const (w v : Int) : lenI (constI w v) := by show (0 : Nat) ≤ _; omega
theorem lenI_copy (w v : Int) : lenI (copyI w v) := by show (0 : Nat) ≤ _; omega
theorem foldF_len (f : tFuncD) {i : tInstD} (h : lenI i) : lenI (foldF f i) := by
  unfold foldF binF twoF
  repeat' apply lenI_bif
  all_goals first | exact h | exact lenI_const _ _ | exact lenI_copy _ _
noncomputable def foldedF (f : tFuncD) (i : tInstD) : tInstD := bif funcB 3 f && instB (cntB f) 3 i then foldF f i else tInstZ
theorem foldedF_len (f : tFuncD) {i : tInstD} (h : lenI i) : lenI (foldedF f i) := by
  unfold foldedF
  exact lenI_bif (foldF_len f h) (by show (0 : Nat) ≤ _; omega)
section
variable {f : tFuncD} {i : tInstD}
theorem specFolded (hs : Small tFunc f) (hi : Small tInst i) : Ev (fun k => spec_FoldedInst.f k f i) (rI (foldedF f i)) := by
  obtain ⟨c0, c1⟩ := cntB_le hs
  unfold spec_FoldedInst.f foldedF
  refine Ev.bind (specFunc hs (by omega) (by omega)) ?_
  cases h : funcB 3 f with
  | false => exact Ev.pos rfl (Ev.cst rfl)
  | true =>
    refine Ev.neg rfl (Ev.bind (specCount hs) (Ev.bind (specInst (i := i) (count := cntB f) hi.2.2.2.2.2.2.1.1 c0 (by omega) (by omega) (by omega)) ?_))
    cases hb : instB (cntB f) 3 i with
    | false => exact Ev.pos rfl (Ev.cst rfl)
    | true => exact Ev.neg rfl (Ev.bind (specFold (Fm.of h) hb) (Ev.cst rfl))
theorem implFolded (hs : Small tFunc f) (hi : Small tInst i) : Ev (fun k => impl_FoldedInst.f k f i) (rI (foldedF f i)) := by
  obtain ⟨c0, c1⟩ := cntB_le hs
  have hl : lenI (foldF f i) := foldF_len f hi.2.2.2.2.2.2.1.1
  unfold impl_FoldedInst.f foldedF
  refine Ev.bind (a := one (funcB 3 f)) (Ev.bind (implFunc hs (by omega) (by omega)) (Ev.cst rfl)) ?_
  cases h : funcB 3 f with
  | false => exact Ev.pos rfl (Ev.cst rfl)
  | true =>
    refine Ev.neg rfl (Ev.bind (implCount hs) (Ev.bind (implInst (i := i) (count := cntB f) hi.2.2.2.2.2.2.1.1 c0 (by omega) (by omega) (by omega)) ?_))
    cases hb : instB (cntB f) 3 i with
    | false => exact Ev.pos rfl (Ev.cst rfl)
    | true =>
      refine Ev.neg rfl (Ev.bind (implFold hs (Fm.of h) hb) (Ev.bind (a := rI (foldF f i)) (Ev.all fun k => ?_) (Ev.cst rfl)))
      unfold impl_ownInst.f
      show Option.bind (slices_Clone_int64_int64.f k (foldF f i).2.2.2.2.2.2.1) _ = _
      rw [implClone k hl]; rfl
end
end Go.Proofs.YtkfehogikjcgkaaGreat.V
namespace Go.Proofs.YtkfehogikjcgkaaGreat.V
open Go
theorem PureFnExactFoldedInst : ∀ (a0 : tFuncD) (a1 : tInstD), Wf tFunc a0 → Wf tInst a1 → ∃ k, laws_FnExactFoldedInst.f k a0 a1 = some (((true, ()), ()), ()) := by
  intro a i hw hwi
  refine Ev.ex (g := fun k => laws_FnExactFoldedInst.f k a i) ?_
  obtain ⟨s, e, _, s2, c⟩ := szFunc a hw 1048576 (by omega) (by omega)
  unfold laws_FnExactFoldedInst.f
  refine Ev.bind e ?_
  by_cases hs : s < 0
  · exact Ev.pos (dpos hs) (Ev.cst rfl)
  have h := c (by omega)
  obtain ⟨t, e', _, t2, c'⟩ := szInst i hwi s (by omega) (by omega)
  refine Ev.neg (dneg hs) (Ev.bind e' ?_)
  by_cases ht : t < 0
  · exact Ev.pos (dpos ht) (Ev.cst rfl)
  have hi := c' (by omega)
  have hil : i.2.2.2.2.2.2.1.length ≤ 1048576 := hi.2.2.2.2.2.2.1.1
  have hgl : (foldedF a i).2.2.2.2.2.2.1.length ≤ 1048576 := foldedF_len a hil
  have hg : Small tInst (foldedF a i) := ⟨trivial, trivial, trivial, trivial, trivial, trivial, ⟨hgl, fun _ _ => trivial⟩, trivial⟩
  obtain ⟨n1, p1, b1, em, hn1, hn2⟩ := markFunc a.2.1 h.1 h.2.2.1
  have hmi := markInts i.2.2.2.2.2.2.1 n1 hil hn1 (by omega)
  have hmg := markInts (foldedF a i).2.2.2.2.2.2.1 1 hgl (by omega) (by omega)
  have hh := heldInts 1 (foldedF a i).2.2.2.2.2.2.1.length hgl (by omega) (by omega)
  have heq : (!decide ((1 : Int) + (foldedF a i).2.2.2.2.2.2.1.length = 1 + (foldedF a i).2.2.2.2.2.2.1.length)) = false := by simp
  have hpos : ¬ (1 : Int) + (foldedF a i).2.2.2.2.2.2.1.length < 0 := by omega
  have held : ∀ (x0 x1 x2 x3 x4 x5 : Int) (u : Unit), Ev (fun k => laws_heldInst.f k (x0, x1, x2, x3, x4, x5, upFrom 1 (foldedF a i).2.2.2.2.2.2.1.length, u) 1) (one ((1 : Int) + (foldedF a i).2.2.2.2.2.2.1.length)) := fun x0 x1 x2 x3 x4 x5 u => by
    unfold laws_heldInst.f
    exact Ev.bind hh (Ev.dn hpos (Ev.cst rfl))
  refine Ev.neg (dneg ht) (Ev.bind (toFunc h) (Ev.bind (toInst hi) (Ev.bind (specFolded h hi) (Ev.bind (toFunc h) (Ev.bind (toInst hi) (Ev.bind (implFolded h hi) (Ev.yes (eqInst hg) (Ev.bind (toFunc h) (Ev.yes (eqFunc h) (Ev.bind (toInst hi) (Ev.yes (eqInst hi) (Ev.bind em ?_))))))))))))
  refine Ev.bind (a := mkr (n1 + (i.2.2.2.2.2.2.1.length : Int)) (upFrom n1 i.2.2.2.2.2.2.1.length)) (Ev.bind hmi (Ev.cst rfl)) (Ev.dn (show ¬ n1 + (i.2.2.2.2.2.2.1.length : Int) < 0 by omega) (Ev.yes (eqInst hg) ?_))
  refine Ev.bind (a := mkr ((1 : Int) + ((foldedF a i).2.2.2.2.2.2.1.length : Int)) (upFrom 1 (foldedF a i).2.2.2.2.2.2.1.length)) (Ev.bind hmg (Ev.cst rfl)) (Ev.bind (held _ _ _ _ _ _ _) (Ev.dn hpos (Ev.neg heq ?_)))
  exact Ev.bind (toFunc h) (Ev.bind (toInst hi) (Ev.bind (implFolded h hi) (Ev.yes (eqInst hg) (Ev.bind (held _ _ _ _ _ _ _) (Ev.dn hpos (Ev.neg heq (Ev.cst rfl)))))))
end Go.Proofs.YtkfehogikjcgkaaGreat.V
