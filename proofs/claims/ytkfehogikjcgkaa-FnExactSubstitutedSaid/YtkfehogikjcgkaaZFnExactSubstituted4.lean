/- PROVED HERE: what the functions that the law FnExactSubstituted reaches do in memory, each as a plain Lean function, and what these tell: part 5 of 6 of the proof of that law; no condition beyond those written out at each theorem. -/
import Derived.Test.YtkfehogikjcgkaaZFnExactSubstituted2
import Derived.Test.YtkfehogikjcgkaaZFnExactSubstituted3
namespace Go.Proofs.Ytkfehogikjcgkaa.V
open Go
set_option linter.unusedVariables false
set_option linter.unusedSimpArgs false
def inB (lo hi x : Int) : Bool := decide (lo ≤ x) && decide (x ≤ hi)
def wOk (w : Int) : Bool := decide (w = 1) || decide (w = 8) || decide (w = 16) || decide (w = 32)
def opsB (i : tInstD) : List Int :=
  bif inB 1 17 i.1 then [i.2.2.1, i.2.2.2.1] else bif decide (i.1 = 24) then [i.2.2.1, i.2.2.2.1] else bif inB 18 20 i.1 then [i.2.2.1] else bif decide (i.1 = 23) then [i.2.2.1] else bif decide (i.1 = 25) then [i.2.2.1] else bif decide (i.1 = 27) then [i.2.2.1] else
  bif decide (i.1 = 22) then [i.2.2.1, i.2.2.2.1, i.2.2.2.2.1] else bif decide (i.1 = 26) then i.2.2.2.2.2.2.1 else []
theorem specIn (k : Nat) (a lo hi : Int) : spec_l1In.f k a lo hi = some (one (inB lo hi a)) := by
  unfold spec_l1In.f inB
  cases decide (lo ≤ a) <;> rfl
theorem implIn (k : Nat) (a lo hi : Int) : impl_within.f k a lo hi = some (one (inB lo hi a)) := by
  unfold impl_within.f inB
  cases decide (lo ≤ a) <;> rfl
theorem specW (k : Nat) (a : Int) : spec_WidthOk.f k a = some (one (wOk a)) := by
  unfold spec_WidthOk.f wOk
  cases decide (a = 1) <;> cases decide (a = 8) <;> cases decide (a = 16) <;> rfl
theorem implW (k : Nat) (a : Int) : impl_WidthOk.f k a = some (one (wOk a)) := by
  unfold impl_WidthOk.f wOk
  cases decide (a = 1) <;> cases decide (a = 8) <;> cases decide (a = 16) <;> rfl
theorem specCopy (k : Nat) {l : List Int} (h : l.length ≤ 1048576) : spec_l1Copy.f k l = some (rowR l) := by
  unfold spec_l1Copy.f
  rw [dpos (by simp; omega)]; rfl
theorem implClone (k : Nat) {l : List Int} (h : l.length ≤ 1048576) : slices_Clone_int64_int64.f k l = some (rowR l) := by
  unfold slices_Clone_int64_int64.f cloneF
  rw [dpos (by omega)]; rfl
theorem specOps (k : Nat) {i : tInstD} (h : i.2.2.2.2.2.2.1.length ≤ 1048576) : spec_l2Operands.f k i = some (rowR (opsB i)) := by
  unfold spec_l2Operands.f opsB
  simp only [specIn, specCopy k h, Option.bind_some]
  cases inB 1 17 i.1
  · cases decide (i.1 = 24)
    · cases inB 18 20 i.1
      · cases decide (i.1 = 23)
        · cases decide (i.1 = 25)
          · cases decide (i.1 = 27)
            · cases decide (i.1 = 22)
              · cases decide (i.1 = 26) <;> rfl
              · rfl
            · rfl
          · rfl
        · rfl
      · rfl
    · rfl
  · rfl
theorem implBin (k : Nat) (a : Int) : impl_isBinary.f k a = some (one (inB 1 17 a)) := by
  unfold impl_isBinary.f
  rw [implIn]; rfl
theorem implCast (k : Nat) (a : Int) : impl_isCast.f k a = some (one (inB 18 20 a)) := by
  unfold impl_isCast.f
  rw [implIn]; rfl
theorem implOps (k : Nat) {i : tInstD} (h : i.2.2.2.2.2.2.1.length ≤ 1048576) : impl_OperandsOf.f k i = some (rowR (opsB i)) := by
  unfold impl_OperandsOf.f opsB
  simp only [implBin, implCast, implClone k h, Option.bind_some]
  cases inB 1 17 i.1
  · cases decide (i.1 = 24)
    · cases inB 18 20 i.1
      · cases decide (i.1 = 23)
        · cases decide (i.1 = 25)
          · cases decide (i.1 = 27)
            · cases decide (i.1 = 22)
              · cases decide (i.1 = 26) <;> rfl
              · rfl
            · rfl
          · rfl
        · rfl
      · rfl
    · rfl
  · rfl
/-! ### instructions -/
def topOf (w : Int) : Int := bif decide (w = 1) then 1 else bif decide (w = 8) then 255 else bif decide (w = 16) then 65535 else 4294967295
def valB (w x : Int) : Bool := wOk w && inB 0 (topOf w) x
theorem wOk_cases {w : Int} (h : wOk w = true) : w = 1 ∨ w = 8 ∨ w = 16 ∨ w = 32 := by
  simp only [wOk, Bool.or_eq_true, decide_eq_true_eq] at h
  omega
theorem specVal (k : Nat) (w x : Int) : spec_l1Value.f k w x = some (one (valB w x)) := by
  unfold spec_l1Value.f valB
  simp only [specW, Option.bind_some]
  cases h : wOk w with
  | false => rfl
  | true => rcases wOk_cases h with rfl | rfl | rfl | rfl <;> (unfold spec_l1Top.f; simp only [specIn]; rfl)
theorem implVal (k : Nat) (w x : Int) : impl_isValue.f k w x = some (one (valB w x)) := by
  unfold impl_isValue.f valB
  simp only [implW, Option.bind_some]
  cases h : wOk w with
  | false => rfl
  | true => rcases wOk_cases h with rfl | rfl | rfl | rfl <;> (unfold impl_mask.f; simp only [implIn]; rfl)
def widB (i : tInstD) : Bool := bif decide (i.1 = 24) || decide (i.1 = 25) then decide (i.2.1 = 0) else bif decide (i.1 = 23) then decide (i.2.1 = 8) else wOk i.2.1
def immB (i : tInstD) (funcs : Int) : Bool := bif decide (i.1 = 21) then valB i.2.1 i.2.2.2.2.2.1 else bif decide (i.1 = 26) then inB 0 (funcs - 1) i.2.2.2.2.2.1 else decide (i.2.2.2.2.2.1 = 0)
def named (i : tInstD) : Nat := bif decide (i.1 = 26) then 0 else (opsB i).length
def zerosB (i : tInstD) : Bool := ([i.2.2.1, i.2.2.2.1, i.2.2.2.2.1].drop (named i)).all fun n => decide (n = 0)
def instB (count funcs : Int) (i : tInstD) : Bool :=
  inB 1 27 i.1 && decide (i.2.2.2.2.2.2.1.length ≤ 4) && (decide (i.2.2.2.2.2.2.1.length = 0) || decide (i.1 = 26)) && (opsB i).all (inB 0 (count - 1)) && zerosB i && widB i && immB i funcs
theorem implWid (k : Nat) (i : tInstD) : impl_isWidth.f k i = some (one (widB i)) := by
  unfold impl_isWidth.f widB
  simp only [implW, Option.bind_some]
  by_cases h : i.1 = 24
  · simp [h]
  · by_cases h2 : i.1 = 25
    · simp [h2]
    · simp only [dneg h, dneg h2, cond_false, Bool.or_self]
      cases decide (i.1 = 23) <;> rfl
theorem implImm (k : Nat) (i : tInstD) {funcs : Int} (h0 : 0 ≤ funcs) (h1 : funcs ≤ 9223372036854775807) : impl_isImm.f k i funcs = some (one (immB i funcs)) := by
  unfold impl_isImm.f immB
  simp only [implVal, implIn, Option.bind_some, wrap_id (show -9223372036854775808 ≤ funcs - 1 by omega) (show funcs - 1 ≤ 9223372036854775807 by omega)]
  cases decide (i.1 = 21) <;> cases decide (i.1 = 26) <;> rfl
/-! ### ends -/
def termB (count blocks : Int) (t : tTermD) : Bool :=
  bif decide (t.1 = 1) then inB 0 (count - 1) t.2.1 && decide (t.2.2.1 = 0) && decide (t.2.2.2.1 = 0) else
  bif decide (t.1 = 2) then decide (t.2.1 = 0) && inB 0 (blocks - 1) t.2.2.1 && decide (t.2.2.2.1 = 0) else
  bif decide (t.1 = 3) then inB 0 (count - 1) t.2.1 && inB 0 (blocks - 1) t.2.2.1 && inB 0 (blocks - 1) t.2.2.2.1 && !decide (t.2.2.1 = t.2.2.2.1) else
  decide (t.1 = 4) && decide (t.2.1 = 0) && decide (t.2.2.1 = 0) && decide (t.2.2.2.1 = 0)
theorem specTerm (k : Nat) (t : tTermD) {count blocks : Int} (h0 : 0 ≤ count) (h1 : count ≤ 9223372036854775807) (h2 : 0 ≤ blocks) (h3 : blocks ≤ 9223372036854775807) : spec_l2Term.f k t count blocks = some (one (termB count blocks t)) := by
  unfold spec_l2Term.f termB
  simp only [specIn, Option.bind_some, wrap_id (show -9223372036854775808 ≤ count - 1 by omega) (show count - 1 ≤ 9223372036854775807 by omega), wrap_id (show -9223372036854775808 ≤ blocks - 1 by omega) (show blocks - 1 ≤ 9223372036854775807 by omega)]
  cases decide (t.1 = 1)
  · cases decide (t.1 = 2)
    · cases decide (t.1 = 3)
      · cases decide (t.1 = 4) <;> cases decide (t.2.1 = 0) <;> cases decide (t.2.2.1 = 0) <;> rfl
      · cases inB 0 (count - 1) t.2.1 <;> cases inB 0 (blocks - 1) t.2.2.1 <;> cases inB 0 (blocks - 1) t.2.2.2.1 <;> rfl
    · cases decide (t.2.1 = 0) <;> cases inB 0 (blocks - 1) t.2.2.1 <;> rfl
  · cases inB 0 (count - 1) t.2.1 <;> cases decide (t.2.2.1 = 0) <;> rfl
theorem implTerm1 (k : Nat) (a : Int) {f : tFuncD} (h : f.2.2.1.length ≤ 1048576) : impl_isTerm_1.f k a f = some (one (inB 0 ((f.2.2.1.length : Int) - 1) a)) := by
  unfold impl_isTerm_1.f
  rw [implIn, wrap_id (by omega) (by omega)]; rfl
theorem implTerm (k : Nat) (t : tTermD) {f : tFuncD} (h : f.2.2.1.length ≤ 1048576) {count : Int} (h0 : 0 ≤ count) (h1 : count ≤ 9223372036854775807) : impl_isTerm.f k f t count = some (one (termB count (f.2.2.1.length : Int) t)) := by
  unfold impl_isTerm.f termB
  simp only [implIn, implTerm1 k _ h, Option.bind_some, wrap_id (show -9223372036854775808 ≤ count - 1 by omega) (show count - 1 ≤ 9223372036854775807 by omega)]
  generalize (f.2.2.1.length : Int) = blocks
  cases decide (t.1 = 1)
  · cases decide (t.1 = 2)
    · cases decide (t.1 = 3)
      · cases decide (t.1 = 4) <;> cases decide (t.2.1 = 0) <;> cases decide (t.2.2.1 = 0) <;> rfl
      · cases inB 0 (count - 1) t.2.1 <;> cases inB 0 (blocks - 1) t.2.2.1 <;> cases inB 0 (blocks - 1) t.2.2.2.1 <;> rfl
    · cases decide (t.2.1 = 0) <;> cases inB 0 (blocks - 1) t.2.2.1 <;> rfl
  · cases inB 0 (count - 1) t.2.1 <;> cases decide (t.2.2.1 = 0) <;> rfl
end Go.Proofs.Ytkfehogikjcgkaa.V
namespace Go.Proofs.Ytkfehogikjcgkaa.V
open Go
set_option linter.unusedVariables false
set_option linter.unusedSimpArgs false
theorem any_not {α : Type} {p : α → Bool} : ∀ {l : List α}, (l.any fun x => !p x) = !l.all p
  | [] => rfl
  | x :: l => by simp only [List.any_cons, List.all_cons, any_not (l := l), Bool.not_and]
theorem implIn1 {l : List Int} (h : l.length ≤ 1048576) {count : Int} (h0 : 0 ≤ count) (h1 : count ≤ 9223372036854775807) : Ev (fun k => slices_ContainsFunc_int64_int64_3.f k l count) (one (!l.all (inB 0 (count - 1)))) := by
  rw [← any_not]
  exact index_ev (z := 0) (L := fun k b a => slices_IndexFunc_int64_int64_3.l0 k l b a count) (q := fun k x => impl_isInst_1.f k x count) (by omega) (fun k b a => rfl) fun x _ => Ev.all fun k => by
    unfold impl_isInst_1.f
    rw [implIn, wrap_id (by omega) (by omega)]; rfl
theorem implZero {l : List Int} (h : l.length ≤ 1048576) : Ev (fun k => slices_ContainsFunc_int64_int64_4.f k l) (one (!l.all fun n => decide (n = 0))) := by
  rw [← any_not]
  exact index_ev (z := 0) (L := fun k b a => slices_IndexFunc_int64_int64_4.l0 k l b a) (q := fun k x => impl_isInst_2.f k x) (by omega) (fun k b a => rfl) fun x _ => Ev.all fun k => rfl
theorem opsB_len {i : tInstD} (h : i.2.2.2.2.2.2.1.length ≤ 1048576) : (opsB i).length ≤ 1048576 := by
  unfold opsB
  cases inB 1 17 i.1 <;> cases decide (i.1 = 24) <;> cases inB 18 20 i.1 <;> cases decide (i.1 = 23) <;> cases decide (i.1 = 25) <;> cases decide (i.1 = 27) <;> cases decide (i.1 = 22) <;> cases decide (i.1 = 26) <;> simp only [cond_true, cond_false, List.length_cons, List.length_nil] <;> omega
theorem opsB_few {i : tInstD} (h : i.1 ≠ 26) : (opsB i).length ≤ 3 := by
  unfold opsB
  rw [dneg h]
  cases inB 1 17 i.1 <;> cases decide (i.1 = 24) <;> cases inB 18 20 i.1 <;> cases decide (i.1 = 23) <;> cases decide (i.1 = 25) <;> cases decide (i.1 = 27) <;> cases decide (i.1 = 22) <;> simp
theorem ev_and {g : Nat → Option BR} {b c : Bool} (h : Ev g (one c)) : Ev (fun k => bif !b then some (one false) else g k) (one (b && c)) := by
  cases b with
  | true => exact Ev.neg rfl h
  | false => exact Ev.pos rfl (Ev.cst rfl)
theorem ev_and' {g : Nat → Option BR} {b c : Bool} (h : Ev g (one c)) : Ev (fun k => bif b then some (one false) else g k) (one (!b && c)) := by
  cases b with
  | true => exact Ev.pos rfl (Ev.cst rfl)
  | false => exact Ev.neg rfl h
/-- What comes behind the operands, in the program. -/
theorem implTail {i : tInstD} {l : List Int} (hl : l.length ≤ 1048576) {funcs : Int} (h0 : 0 ≤ funcs) (h1 : funcs ≤ 9223372036854775807) : Ev (fun k => Option.bind (slices_ContainsFunc_int64_int64_4.f k l) fun r4 => bif r4.1.1.1 then some (((false, ()), ()), ()) else Option.bind (impl_isWidth.f k i) fun r5 => bif r5.1.1.1 then Option.bind (impl_isImm.f k i funcs) fun r6 => some (((r6.1.1.1, ()), ()), ()) else some (((false, ()), ()), ())) (one ((l.all fun n => decide (n = 0)) && widB i && immB i funcs)) := by
  refine Ev.bind (implZero hl) ?_
  cases l.all fun n => decide (n = 0) with
  | false => exact Ev.cst rfl
  | true =>
    refine Ev.all fun k => ?_
    simp only [implWid, implImm k i h0 h1, Option.bind_some]
    cases widB i <;> cases immB i funcs <;> rfl
theorem implInst {i : tInstD} (hs : i.2.2.2.2.2.2.1.length ≤ 1048576) {count funcs : Int} (h0 : 0 ≤ count) (h1 : count ≤ 9223372036854775807) (h2 : 0 ≤ funcs) (h3 : funcs ≤ 9223372036854775807) : Ev (fun k => impl_isInst.f k i count funcs) (one (instB count funcs i)) := by
  have rest : i.1 = 26 ∨ i.1 ≠ 26 → Ev (fun k => Option.bind (impl_OperandsOf.f k i) fun r2 => Option.bind (slices_ContainsFunc_int64_int64_3.f k r2.2.1 count) fun r3 => bif r3.1.1.1 then some (((false, ()), ()), ()) else
      bif decide (i.1 = 26) then (bif (decide ((0 : Int) ≤ 0)) && (decide ((0 : Int) ≤ ((List.length [i.2.2.1, i.2.2.2.1, i.2.2.2.2.1] : Nat) : Int))) then (Option.bind (slices_ContainsFunc_int64_int64_4.f k [i.2.2.1, i.2.2.2.1, i.2.2.2.2.1]) fun r4 => bif r4.1.1.1 then some (((false, ()), ()), ()) else Option.bind (impl_isWidth.f k i) fun r5 => bif r5.1.1.1 then Option.bind (impl_isImm.f k i funcs) fun r6 => some (((r6.1.1.1, ()), ()), ()) else some (((false, ()), ()), ())) else none)
      else (bif (decide (0 ≤ ((List.length r2.2.1 : Nat) : Int))) && (decide (((List.length r2.2.1 : Nat) : Int) ≤ ((List.length [i.2.2.1, i.2.2.2.1, i.2.2.2.2.1] : Nat) : Int))) then (Option.bind (slices_ContainsFunc_int64_int64_4.f k (List.drop (Int.toNat ((List.length r2.2.1 : Nat) : Int)) [i.2.2.1, i.2.2.2.1, i.2.2.2.2.1])) fun r4 => bif r4.1.1.1 then some (((false, ()), ()), ()) else Option.bind (impl_isWidth.f k i) fun r5 => bif r5.1.1.1 then Option.bind (impl_isImm.f k i funcs) fun r6 => some (((r6.1.1.1, ()), ()), ()) else some (((false, ()), ()), ())) else none))
      (one ((opsB i).all (inB 0 (count - 1)) && (zerosB i && widB i && immB i funcs))) := by
    intro hd
    refine Ev.bind (Ev.all fun k => implOps k hs) (Ev.bind (implIn1 (opsB_len hs) h0 h1) ?_)
    cases (opsB i).all (inB 0 (count - 1)) with
    | false => exact Ev.cst rfl
    | true =>
      rcases hd with hd | hd
      · refine Ev.neg rfl (Ev.pos (dpos hd) (Ev.pos rfl ?_))
        have := implTail (i := i) (l := [i.2.2.1, i.2.2.2.1, i.2.2.2.2.1]) (by simp) h2 h3
        refine this.rw ?_
        unfold zerosB named
        rw [dpos hd]; rfl
      · refine Ev.neg rfl (Ev.neg (dneg hd) (Ev.pos ?_ ?_))
        · have := opsB_few hd
          show (decide (0 ≤ ((opsB i).length : Int)) && decide (((opsB i).length : Int) ≤ 3)) = true
          rw [dpos (by omega), dpos (by omega)]; rfl
        · have := implTail (i := i) (l := List.drop (opsB i).length [i.2.2.1, i.2.2.2.1, i.2.2.2.2.1]) (by simp; omega) h2 h3
          refine this.rw ?_
          unfold zerosB named
          rw [dneg hd]; rfl
  have rest := rest (Decidable.em _)
  unfold impl_isInst.f
  refine Ev.bind (Ev.all fun k => implIn k _ _ _) ?_
  unfold instB
  generalize hz : ((opsB i).all (inB 0 (count - 1)) && (zerosB i && widB i && immB i funcs)) = zz at rest
  have hzz : ∀ b c d : Bool, (b && c && d && (opsB i).all (inB 0 (count - 1)) && zerosB i && widB i && immB i funcs) = (b && c && d && zz) := fun b c d => by rw [← hz]; simp only [Bool.and_assoc]
  rw [hzz]
  cases inB 1 27 i.1 with
  | false => exact Ev.pos rfl (Ev.cst rfl)
  | true =>
    refine Ev.neg rfl ?_
    by_cases h4 : 4 < ((i.2.2.2.2.2.2.1.length : Nat) : Int)
    · refine Ev.pos (dpos h4) (Ev.cst ?_)
      rw [dneg (show ¬ i.2.2.2.2.2.2.1.length ≤ 4 by omega)]; rfl
    · refine Ev.neg (dneg h4) ?_
      rw [dpos (show i.2.2.2.2.2.2.1.length ≤ 4 by omega)]
      by_cases h5 : 0 < ((i.2.2.2.2.2.2.1.length : Nat) : Int)
      · refine Ev.pos (dpos h5) ?_
        rw [dneg (show ¬ i.2.2.2.2.2.2.1.length = 0 by omega)]
        by_cases h6 : i.1 = 26
        · exact Ev.neg (by rw [dpos h6]; rfl) (rest.rw (by rw [dpos h6]; rfl))
        · exact Ev.pos (by rw [dneg h6]; rfl) (Ev.cst (by rw [dneg h6]; rfl))
      · refine Ev.neg (dneg h5) (rest.rw ?_)
        rw [dpos (show i.2.2.2.2.2.2.1.length = 0 by omega)]; rfl
/-! ### the specification's -/
theorem zeros_at {a b c : Int} : ∀ n : Nat, ([a, b, c].drop n).all (fun n => decide (n = 0)) = ((bif decide ((n : Int) < 1) then decide (a = 0) else true) && (bif decide ((n : Int) < 2) then decide (b = 0) else true) && (bif decide ((n : Int) < 3) then decide (c = 0) else true))
  | 0 => by simp [Bool.and_assoc]
  | 1 => by simp
  | 2 => by simp
  | n + 3 => by
    rw [dneg (show ¬ (((n + 3 : Nat) : Int) < 1) by omega), dneg (show ¬ (((n + 3 : Nat) : Int) < 2) by omega), dneg (show ¬ (((n + 3 : Nat) : Int) < 3) by omega)]
    simp
set_option synthInstance.maxHeartbeats 400000 in
set_option synthInstance.maxSize 100000 in
theorem specInst0 {i : tInstD} {ids : List Int} (hl : ids.length ≤ 1048576) {count funcs : Int} (h0 : 0 ≤ count) (h1 : count ≤ 9223372036854775807) (h2 : 0 ≤ funcs) (h3 : funcs ≤ 9223372036854775807) (hn : named i = bif decide (i.1 = 26) then 0 else ids.length) :
    Ev (fun k => spec_l2Inst.l0 k count funcs 0 i ids) (one (ids.all (inB 0 (count - 1)) && (decide (i.2.2.2.2.2.2.1.length ≤ 4) && zerosB i && widB i && immB i funcs))) := by
  refine each_ev (z := 0) (L := fun k a => spec_l2Inst.l0 k count funcs a i ids) (V := fun m => one (m.all (inB 0 (count - 1)) && (decide (i.2.2.2.2.2.2.1.length ≤ 4) && zerosB i && widB i && immB i funcs))) (q := fun k x g => Option.bind (spec_l1In.f k x 0 (IntKind.wrap .i64 (count - 1))) fun r1 => bif !r1.1.1.1 then some (((false, ()), ()), ()) else g k) (by omega) (fun k a => rfl) ?_ ?_
  · refine Ev.all fun k => ?_
    have hz : zerosB i = ((bif decide (((named i : Nat) : Int) < 1) then decide (i.2.2.1 = 0) else true) && (bif decide (((named i : Nat) : Int) < 2) then decide (i.2.2.2.1 = 0) else true) && (bif decide (((named i : Nat) : Int) < 3) then decide (i.2.2.2.2.1 = 0) else true)) := zeros_at _
    rw [hz, hn]
    simp only [specVal, specIn, specW, Option.bind_some, wrap_id (show -9223372036854775808 ≤ funcs - 1 by omega) (show funcs - 1 ≤ 9223372036854775807 by omega), List.all_nil, Bool.true_and]
    have h4 : decide (i.2.2.2.2.2.2.1.length ≤ 4) = !decide (4 < ((List.length i.2.2.2.2.2.2.1 : Nat) : Int)) := by
      by_cases h : 4 < ((List.length i.2.2.2.2.2.2.1 : Nat) : Int)
      · rw [dpos h, dneg (by omega)]; rfl
      · rw [dneg h, dpos (by omega)]; rfl
    rw [h4]
    unfold widB immB
    have fin : ∀ (o24 o25 o26 o21 o23 w0 w8 wk : Bool), decide (i.1 = 24) = o24 → decide (i.1 = 25) = o25 → decide (i.1 = 26) = o26 → decide (i.1 = 21) = o21 → decide (i.1 = 23) = o23 → decide (i.2.1 = 0) = w0 → decide (i.2.1 = 8) = w8 → wOk i.2.1 = wk →
        (o24 = true ∧ o25 = false ∧ o26 = false ∧ o21 = false ∧ o23 = false ∨ o24 = false ∧ o25 = true ∧ o26 = false ∧ o21 = false ∧ o23 = false ∨ o24 = false ∧ o25 = false ∧ o26 = true ∧ o21 = false ∧ o23 = false ∨ o24 = false ∧ o25 = false ∧ o26 = false ∧ o21 = true ∧ o23 = false ∨ o24 = false ∧ o25 = false ∧ o26 = false ∧ o21 = false ∧ o23 = true ∨ o24 = false ∧ o25 = false ∧ o26 = false ∧ o21 = false ∧ o23 = false) ∧
        (w0 = true ∧ w8 = false ∧ wk = false ∨ w0 = false ∧ w8 = true ∧ wk = true ∨ w0 = false ∧ w8 = false) := by
      rintro _ _ _ _ _ _ _ _ rfl rfl rfl rfl rfl rfl rfl rfl
      simp only [decide_eq_true_eq, decide_eq_false_iff_not]
      refine ⟨by omega, ?_⟩
      by_cases h : i.2.1 = 0
      · exact .inl ⟨h, by omega, by rw [h]; rfl⟩
      · by_cases h' : i.2.1 = 8
        · exact .inr (.inl ⟨h, h', by rw [h']; rfl⟩)
        · exact .inr (.inr ⟨h, h'⟩)
    have fin := fin _ _ _ _ _ _ _ _ rfl rfl rfl rfl rfl rfl rfl rfl
    clear hz h4 hn
    generalize decide (i.1 = 24) = o24 at fin ⊢
    generalize decide (i.1 = 25) = o25 at fin ⊢
    generalize decide (i.1 = 26) = o26 at fin ⊢
    generalize decide (i.1 = 21) = o21 at fin ⊢
    generalize decide (i.1 = 23) = o23 at fin ⊢
    generalize decide (i.2.1 = 0) = w0 at fin ⊢
    generalize decide (i.2.1 = 8) = w8 at fin ⊢
    generalize wOk i.2.1 = wk at fin ⊢
    have z1 : decide (((0 : Nat) : Int) < 1) = true := rfl
    have z2 : decide (((0 : Nat) : Int) < 2) = true := rfl
    have z3 : decide (((0 : Nat) : Int) < 3) = true := rfl
    have y1 : decide ((0 : Int) < 1) = true := rfl
    have y2 : decide ((0 : Int) < 2) = true := rfl
    have y3 : decide ((0 : Int) < 3) = true := rfl
    obtain ⟨f1, f2⟩ := fin
    rcases f1 with ⟨rfl, rfl, rfl, rfl, rfl⟩ | ⟨rfl, rfl, rfl, rfl, rfl⟩ | ⟨rfl, rfl, rfl, rfl, rfl⟩ | ⟨rfl, rfl, rfl, rfl, rfl⟩ | ⟨rfl, rfl, rfl, rfl, rfl⟩ | ⟨rfl, rfl, rfl, rfl, rfl⟩ <;> rcases f2 with ⟨rfl, rfl, rfl⟩ | ⟨rfl, rfl, rfl⟩ | ⟨rfl, rfl⟩ <;>
      simp only [cond_true, cond_false, z1, z2, z3, y1, y2, y3, beq_self_eq_true, Bool.not_true, Bool.not_false, Bool.or_true, Bool.or_false, Bool.and_false, Bool.false_and, Bool.true_and, Bool.and_true, show (true == false) = false from rfl, show (false == true) = false from rfl, Int.reduceLT, decide_true, decide_false] <;>
      generalize decide (4 < ((List.length i.2.2.2.2.2.2.1 : Nat) : Int)) = l4 <;>
      generalize decide (((ids.length : Nat) : Int) < 1) = n1 <;> generalize decide (((ids.length : Nat) : Int) < 2) = n2 <;> generalize decide (((ids.length : Nat) : Int) < 3) = n3 <;>
      generalize decide (i.2.2.1 = 0) = a <;> generalize decide (i.2.2.2.1 = 0) = b <;> generalize decide (i.2.2.2.2.1 = 0) = c <;> generalize decide (i.2.2.2.2.2.1 = 0) = m <;>
      generalize valB i.2.1 i.2.2.2.2.2.1 = va <;> generalize inB 0 (funcs - 1) i.2.2.2.2.2.1 = vb <;> revert l4 n1 n2 n3 a b c m va vb <;> (try revert wk) <;> decide +kernel
  · intro x m g hx hg
    refine Ev.bind (Ev.all fun k => specIn k _ _ _) ?_
    rw [wrap_id (by omega) (by omega), List.all_cons, Bool.and_assoc]
    exact ev_and hg
end Go.Proofs.Ytkfehogikjcgkaa.V
namespace Go.Proofs.Ytkfehogikjcgkaa.V
open Go
set_option linter.unusedVariables false
set_option linter.unusedSimpArgs false
theorem specInst {i : tInstD} (hs : i.2.2.2.2.2.2.1.length ≤ 1048576) {count funcs : Int} (h0 : 0 ≤ count) (h1 : count ≤ 9223372036854775807) (h2 : 0 ≤ funcs) (h3 : funcs ≤ 9223372036854775807) : Ev (fun k => spec_l2Inst.f k i count funcs) (one (instB count funcs i)) := by
  have hn : named i = bif decide (i.1 = 26) then 0 else (opsB i).length := rfl
  have l0 := specInst0 (opsB_len hs) h0 h1 h2 h3 hn
  unfold spec_l2Inst.f
  refine Ev.bind (Ev.all fun k => specIn k _ _ _) ?_
  unfold instB
  generalize hz : ((opsB i).all (inB 0 (count - 1))) = za at l0 ⊢
  cases inB 1 27 i.1 with
  | false => exact Ev.pos rfl (Ev.cst rfl)
  | true =>
    refine Ev.neg rfl ?_
    have done : ∀ b : Bool, b = true → Ev (fun k => Option.bind (spec_l2Operands.f k i) fun r3 => spec_l2Inst.l0 k count funcs 0 i r3.2.1) (one (true && decide (i.2.2.2.2.2.2.1.length ≤ 4) && b && za && zerosB i && widB i && immB i funcs)) := by
      rintro _ rfl
      refine (Ev.bind (f := fun k r3 => spec_l2Inst.l0 k count funcs 0 i r3.2.1) (Ev.all fun k => specOps k hs) l0).rw ?_
      generalize decide (i.2.2.2.2.2.2.1.length ≤ 4) = z4
      generalize zerosB i = z5
      generalize widB i = z6
      generalize immB i funcs = z7
      clear l0 hz
      revert za z4 z5 z6 z7
      decide
    by_cases h6 : i.1 = 26
    · exact Ev.neg (by rw [dpos h6]; rfl) (done _ (by rw [dpos h6, Bool.or_true]))
    · refine Ev.pos (by rw [dneg h6]; rfl) ?_
      by_cases h5 : 0 < ((i.2.2.2.2.2.2.1.length : Nat) : Int)
      · refine Ev.pos (dpos h5) (Ev.cst ?_)
        rw [dneg (show ¬ i.2.2.2.2.2.2.1.length = 0 by omega), dneg h6]
        simp
      · exact Ev.neg (dneg h5) (done _ (by rw [dpos (show i.2.2.2.2.2.2.1.length = 0 by omega), Bool.true_or]))
/-! ### how many ids -/
def sumB {α : Type} (w : α → Int) : List α → Int
  | [] => 0
  | x :: l => w x + sumB w l
theorem sumB_le {α : Type} {w : α → Int} {m : Int} : ∀ {l : List α}, (∀ x ∈ l, 0 ≤ w x ∧ w x ≤ m) → 0 ≤ sumB w l ∧ sumB w l ≤ l.length * m
  | [], _ => by simp [sumB]
  | x :: l, h => by
    obtain ⟨a, b⟩ := sumB_le (l := l) fun y hy => h y (by simp [hy])
    obtain ⟨c, d⟩ := h x (by simp)
    simp only [sumB, List.length_cons]
    have : ((l.length + 1 : Nat) : Int) * m = l.length * m + m := by
      rw [Int.natCast_add, Int.add_mul]; simp
    omega
theorem acc_ev {α : Type} {l : List α} {w : α → Int} {L : Nat → Int → Int → Option IR} (hw : ∀ x ∈ l, 0 ≤ w x ∧ w x ≤ 2097152) (hlen : l.length ≤ 1048576)
    (h1 : ∀ k a (i : Nat) (h : i < l.length), L (k + 1) a (i : Int) = L k (IntKind.wrap .i64 (a + IntKind.wrap .i64 (w l[i]))) ((i + 1 : Nat) : Int)) (h2 : ∀ k a, L (k + 1) a (l.length : Int) = some (one a)) {a : Int} (ha : 0 ≤ a) (ha' : a ≤ 1048576) : Ev (fun k => L k a 0) (one (a + sumB w l)) := by
  have key : ∀ (d i : Nat) (a : Int), i + d = l.length → 0 ≤ a → a ≤ 1048576 + i * 2097152 → Ev (fun k => L k a (i : Int)) (one (a + sumB w (l.drop i))) := by
    intro d
    induction d with
    | zero =>
      intro i a hi h0 h3
      have hi' : i = l.length := by omega
      subst hi'
      rw [List.drop_length]
      exact Ev.step (g' := fun _ => some (one a)) (Ev.cst (by simp [sumB])) fun k => h2 k a
    | succ d ih =>
      intro i a hi h0 h3
      have hi' : i < l.length := by omega
      obtain ⟨w0, w1⟩ := hw l[i] (List.getElem_mem hi')
      have := ih (i + 1) (a + w l[i]) (by omega) (by omega) (by omega)
      refine (Ev.step this fun k => ?_).rw ?_
      · show L (k + 1) a (i : Int) = _
        rw [h1 k a i hi', wrap_id (x := w l[i]) (by omega) (by omega), wrap_id (by omega) (by omega)]
      · rw [List.drop_eq_getElem_cons hi']
        simp only [sumB]
        rw [Int.add_assoc]
  have := key l.length 0 a (by omega) ha (by omega)
  simpa using this
def cntB (f : tFuncD) : Int := (f.1.length : Int) + sumB (fun x : tBlockD => ((x.1.length : Nat) : Int) + ((x.2.1.length : Nat) : Int)) f.2.2.1
theorem blk_small {f : tFuncD} (h : Small tFunc f) : ∀ x ∈ f.2.2.1, x.1.length ≤ 1048576 ∧ x.2.1.length ≤ 1048576 := fun x hx => by
  have := h.2.2.1.2 x hx
  exact ⟨this.1.1, this.2.1.1⟩
theorem cntB_le {f : tFuncD} (h : Small tFunc f) : 0 ≤ cntB f ∧ cntB f ≤ 1048576 + 1048576 * 2097152 := by
  have h1 : f.1.length ≤ 1048576 := h.1.1
  have h2 : f.2.2.1.length ≤ 1048576 := h.2.2.1.1
  have := sumB_le (w := fun x : tBlockD => ((x.1.length : Nat) : Int) + ((x.2.1.length : Nat) : Int)) (m := 2097152) (l := f.2.2.1) fun x hx => by
    have := blk_small h x hx
    omega
  unfold cntB
  omega
theorem specCount {f : tFuncD} (h : Small tFunc f) : Ev (fun k => spec_CountOf.f k f) (one (cntB f)) := by
  have h1 : f.1.length ≤ 1048576 := h.1.1
  exact acc_ev (L := fun k a i => spec_CountOf.l0 k a i f) (l := f.2.2.1) (w := fun x : tBlockD => ((x.1.length : Nat) : Int) + ((x.2.1.length : Nat) : Int)) (fun x hx => by have := blk_small h x hx; omega) h.2.2.1.1 (fun k a i hi => by
      show spec_CountOf.l0_ k (spec_CountOf.l0 k) a i f = _
      unfold spec_CountOf.l0_
      have hlen : f.2.2.1.length ≤ 1048576 := h.2.2.1.1
      simp only [head_in hi, head_0, Bool.and_self, cond_true, get_in hi, wrap_nat (show i < 9223372036854775807 by omega)]) (fun k a => by
      show spec_CountOf.l0_ k (spec_CountOf.l0 k) a _ f = _
      unfold spec_CountOf.l0_
      simp only [head_end, cond_false]) (by omega) (by omega)
theorem implCount {f : tFuncD} (h : Small tFunc f) : Ev (fun k => impl_CountOf.f k f) (one (cntB f)) := by
  have h1 : f.1.length ≤ 1048576 := h.1.1
  exact acc_ev (L := fun k a i => impl_CountOf.l0 k a f.2.2.1 ((List.length f.2.2.1 : Nat) : Int) i) (l := f.2.2.1) (w := fun x : tBlockD => ((x.1.length : Nat) : Int) + ((x.2.1.length : Nat) : Int)) (fun x hx => by have := blk_small h x hx; omega) h.2.2.1.1 (fun k a i hi => by
      show impl_CountOf.l0_ k (impl_CountOf.l0 k) a f.2.2.1 _ i = _
      unfold impl_CountOf.l0_
      have hlen : f.2.2.1.length ≤ 1048576 := h.2.2.1.1
      simp only [head_in hi, head_0, Bool.and_self, cond_true, get_in hi, wrap_nat (show i < 9223372036854775807 by omega)]) (fun k a => by
      show impl_CountOf.l0_ k (impl_CountOf.l0 k) a f.2.2.1 _ _ = _
      unfold impl_CountOf.l0_
      simp only [head_end, cond_false]) (by omega) (by omega)
/-! ### functions -/
def phiB (count : Int) (p : tPhiD) : Bool := wOk p.1 && decide (p.2.1.length ≤ 10) && p.2.1.all (inB 0 (count - 1))
def blockB (count funcs blocks : Int) (b : tBlockD) : Bool := b.1.all (phiB count) && b.2.1.all (instB count funcs) && termB count blocks b.2.2
def funcB (funcs : Int) (f : tFuncD) : Bool :=
  decide (f.1.length ≤ 4) && wOk f.2.1 && inB 1 10 (f.2.2.1.length : Int) && decide (cntB f ≤ 60) && f.1.all wOk && f.2.2.1.all (blockB (cntB f) funcs (f.2.2.1.length : Int))
section
variable {f : tFuncD} {funcs count blocks : Int}
theorem specFunc4 {x : tBlockD} (hx : Small tBlock x) (h0 : 0 ≤ count) (h1 : count ≤ 9223372036854775807) (h2 : 0 ≤ funcs) (h3 : funcs ≤ 9223372036854775807) (h4 : 0 ≤ blocks) (h5 : blocks ≤ 9223372036854775807) {j : Nat} (hj : j < 9223372036854775807) {r : Bool}
    (hr : Ev (fun k => spec_l2Func.l1 k funcs count blocks ((j + 1 : Nat) : Int) f) (one r)) : Ev (fun k => spec_l2Func.l4 k funcs count blocks j 0 f x) (one (x.2.1.all (instB count funcs) && (termB count blocks x.2.2 && r))) := by
  have hs := hx.2.1
  refine each_ev (z := tInstZ) (l := x.2.1) (L := fun k a => spec_l2Func.l4 k funcs count blocks j a f x) (V := fun m => one (m.all (instB count funcs) && (termB count blocks x.2.2 && r))) (q := fun k y g => Option.bind (spec_l2Inst.f k y count funcs) fun r1 => bif !r1.1.1.1 then some (((false, ()), ()), ()) else g k)
    (by have := hs.1; show List.length (α := tInstD) x.2.1 ≤ _; have : List.length (α := tInstD) x.2.1 ≤ 1048576 := this; omega) (fun k a => rfl) ?_ ?_
  · refine Ev.bind (Ev.all fun k => specTerm k x.2.2 h0 h1 h4 h5) ?_
    rw [wrap_nat hj, List.all_nil, Bool.true_and]
    exact ev_and hr
  · intro y m g hy hg
    refine Ev.bind (specInst (i := y) ((hs.2 y hy).2.2.2.2.2.2.1.1) h0 h1 h2 h3) ?_
    rw [List.all_cons, Bool.and_assoc]
    exact ev_and hg
theorem specFunc2 {x : tBlockD} (hx : Small tBlock x) (h0 : 0 ≤ count) (h1 : count ≤ 9223372036854775807) (h2 : 0 ≤ funcs) (h3 : funcs ≤ 9223372036854775807) (h4 : 0 ≤ blocks) (h5 : blocks ≤ 9223372036854775807) {j : Nat} (hj : j < 9223372036854775807) {r : Bool}
    (hr : Ev (fun k => spec_l2Func.l1 k funcs count blocks ((j + 1 : Nat) : Int) f) (one r)) : Ev (fun k => spec_l2Func.l2 k funcs count blocks j 0 f x) (one (blockB count funcs blocks x && r)) := by
  have hs := hx.1
  have hlen : x.1.length ≤ 1048576 := hs.1
  have tail := specFunc4 (f := f) hx h0 h1 h2 h3 h4 h5 hj hr
  have key := Ev.down (G := fun i k => spec_l2Func.l2 k funcs count blocks j (i : Int) f x) (V := fun i => one ((x.1.drop i).all (phiB count) && (x.2.1.all (instB count funcs) && (termB count blocks x.2.2 && r)))) x.1.length ?_ ?_ 0 (Nat.zero_le _)
  · refine key.rw ?_
    unfold blockB
    rw [List.drop_zero, Bool.and_assoc, Bool.and_assoc]
  · rw [List.drop_length]
    refine tail.step fun k => ?_
    show spec_l2Func.l2_ k (spec_l2Func.l0 k) (spec_l2Func.l1 k) (spec_l2Func.l2 k) (spec_l2Func.l3 k) (spec_l2Func.l4 k) funcs count blocks j _ f x = _
    unfold spec_l2Func.l2_
    simp only [head_end, cond_false]
  · intro i hi ih
    have hp := hs.2 x.1[i] (List.getElem_mem hi)
    have hpl : x.1[i].2.1.length ≤ 1048576 := hp.2.1.1
    -- the inner loop
    have inner := Ev.down (G := fun q k => spec_l2Func.l3 k funcs count blocks j i (q : Int) f x) (V := fun q => one ((x.1[i].2.1.drop q).all (inB 0 (count - 1)) && ((x.1.drop (i + 1)).all (phiB count) && (x.2.1.all (instB count funcs) && (termB count blocks x.2.2 && r))))) x.1[i].2.1.length ?_ ?_ 0 (Nat.zero_le _)
    · rw [List.drop_eq_getElem_cons hi, List.all_cons]
      refine Ev.step (g' := fun k => Option.bind (spec_WidthOk.f k x.1[i].1) fun r1 => bif !r1.1.1.1 then some (((false, ()), ()), ()) else bif decide (10 < ((List.length x.1[i].2.1 : Nat) : Int)) then some (((false, ()), ()), ()) else spec_l2Func.l3 k funcs count blocks j i 0 f x) ?_ fun k => ?_
      · refine Ev.bind (Ev.all fun k => specW k _) ?_
        have e1 : ∀ R, (phiB count x.1[i] && R) = (wOk x.1[i].1 && (!decide (10 < ((List.length x.1[i].2.1 : Nat) : Int)) && (x.1[i].2.1.all (inB 0 (count - 1)) && R))) := fun R => by
          have e : decide (x.1[i].2.1.length ≤ 10) = !decide (10 < ((List.length x.1[i].2.1 : Nat) : Int)) := by
            by_cases h : 10 < ((List.length x.1[i].2.1 : Nat) : Int)
            · rw [dpos h, dneg (by omega)]; rfl
            · rw [dneg h, dpos (by omega)]; rfl
          unfold phiB
          rw [e, Bool.and_assoc, Bool.and_assoc]
        rw [Bool.and_assoc, e1]
        refine ev_and ?_
        exact ev_and' inner
      · show spec_l2Func.l2_ k (spec_l2Func.l0 k) (spec_l2Func.l1 k) (spec_l2Func.l2 k) (spec_l2Func.l3 k) (spec_l2Func.l4 k) funcs count blocks j _ f x = _
        unfold spec_l2Func.l2_
        simp only [head_in hi, head_0, Bool.and_self, cond_true, get_in hi]
    · rw [List.drop_length, List.all_nil, Bool.true_and]
      refine ih.step fun k => ?_
      show spec_l2Func.l3_ k (spec_l2Func.l0 k) (spec_l2Func.l1 k) (spec_l2Func.l2 k) (spec_l2Func.l3 k) (spec_l2Func.l4 k) funcs count blocks j _ _ f x = _
      unfold spec_l2Func.l3_
      simp only [head_in hi, head_0, Bool.and_self, cond_true, get_in hi, head_end, cond_false, wrap_nat (show i < 9223372036854775807 by omega)]
    · intro q hq ihq
      rw [List.drop_eq_getElem_cons hq, List.all_cons, Bool.and_assoc]
      refine Ev.step (g' := fun k => Option.bind (spec_l1In.f k x.1[i].2.1[q] 0 (IntKind.wrap .i64 (count - 1))) fun r1 => bif !r1.1.1.1 then some (((false, ()), ()), ()) else spec_l2Func.l3 k funcs count blocks j i ((q + 1 : Nat) : Int) f x) ?_ fun k => ?_
      · rw [wrap_id (by omega) (by omega)]
        exact Ev.bind (Ev.all fun k => specIn k _ _ _) (ev_and ihq)
      · show spec_l2Func.l3_ k (spec_l2Func.l0 k) (spec_l2Func.l1 k) (spec_l2Func.l2 k) (spec_l2Func.l3 k) (spec_l2Func.l4 k) funcs count blocks j _ _ f x = _
        unfold spec_l2Func.l3_
        simp only [head_in hi, head_0, Bool.and_self, cond_true, get_in hi, head_in hq, get_in hq, wrap_nat (show q < 9223372036854775807 by omega)]
theorem specFunc1 (hf : Small tFunc f) (h0 : 0 ≤ count) (h1 : count ≤ 9223372036854775807) (h2 : 0 ≤ funcs) (h3 : funcs ≤ 9223372036854775807) (h4 : 0 ≤ blocks) (h5 : blocks ≤ 9223372036854775807) : Ev (fun k => spec_l2Func.l1 k funcs count blocks 0 f) (one (f.2.2.1.all (blockB count funcs blocks))) := by
  have hs := hf.2.2.1
  have hlen : f.2.2.1.length ≤ 1048576 := hs.1
  have key := Ev.down (G := fun i k => spec_l2Func.l1 k funcs count blocks (i : Int) f) (V := fun i => one ((f.2.2.1.drop i).all (blockB count funcs blocks))) f.2.2.1.length ?_ ?_ 0 (Nat.zero_le _)
  · exact key
  · rw [List.drop_length]
    refine Ev.step (g' := fun _ => some (one true)) (Ev.cst rfl) fun k => ?_
    show spec_l2Func.l1_ k (spec_l2Func.l0 k) (spec_l2Func.l1 k) (spec_l2Func.l2 k) (spec_l2Func.l3 k) (spec_l2Func.l4 k) funcs count blocks _ f = _
    unfold spec_l2Func.l1_
    simp only [head_end, cond_false]
  · intro i hi ih
    rw [List.drop_eq_getElem_cons hi, List.all_cons]
    refine (specFunc2 (f := f) (x := f.2.2.1[i]) (hs.2 _ (List.getElem_mem hi)) h0 h1 h2 h3 h4 h5 (show i < 9223372036854775807 by omega) ih).step fun k => ?_
    show spec_l2Func.l1_ k (spec_l2Func.l0 k) (spec_l2Func.l1 k) (spec_l2Func.l2 k) (spec_l2Func.l3 k) (spec_l2Func.l4 k) funcs count blocks _ f = _
    unfold spec_l2Func.l1_
    simp only [head_in hi, head_0, Bool.and_self, cond_true, get_in hi]
theorem le_not {a b : Int} : decide (a ≤ b) = !decide (b < a) := by
  by_cases h : b < a
  · rw [dpos h, dneg (by omega)]; rfl
  · rw [dneg h, dpos (by omega)]; rfl
theorem len_not {n m : Nat} : decide (n ≤ m) = !decide ((m : Int) < (n : Int)) := by
  by_cases h : (m : Int) < (n : Int)
  · rw [dpos h, dneg (by omega)]; rfl
  · rw [dneg h, dpos (by omega)]; rfl
theorem specFunc (hf : Small tFunc f) (h2 : 0 ≤ funcs) (h3 : funcs ≤ 9223372036854775807) : Ev (fun k => spec_l2Func.f k f funcs) (one (funcB funcs f)) := by
  have hs := hf.2.2.1
  have hlen : f.2.2.1.length ≤ 1048576 := hs.1
  have hpl : f.1.length ≤ 1048576 := hf.1.1
  obtain ⟨c0, c1⟩ := cntB_le hf
  unfold spec_l2Func.f funcB
  simp only [Bool.and_assoc]
  refine Ev.bind (specCount hf) ?_
  rw [len_not]
  refine ev_and' (Ev.bind (Ev.all fun k => specW k _) (ev_and (Ev.bind (Ev.all fun k => specIn k _ _ _) (ev_and ?_))))
  rw [le_not]
  refine ev_and' ?_
  exact each_ev (z := 0) (l := f.1) (L := fun k a => spec_l2Func.l0 k funcs (cntB f) (f.2.2.1.length : Int) a f) (V := fun m => one (m.all wOk && f.2.2.1.all (blockB (cntB f) funcs (f.2.2.1.length : Int)))) (q := fun k y g => Option.bind (spec_WidthOk.f k y) fun r1 => bif !r1.1.1.1 then some (((false, ()), ()), ()) else g k)
    (by omega) (fun k a => rfl) (specFunc1 hf c0 (by omega) h2 h3 (by omega) (by omega)) fun y m g hy hg => by
      refine Ev.bind (Ev.all fun k => specW k _) ?_
      rw [List.all_cons, Bool.and_assoc]
      exact ev_and hg
end
end Go.Proofs.Ytkfehogikjcgkaa.V
namespace Go.Proofs.Ytkfehogikjcgkaa.V
open Go
set_option linter.unusedVariables false
set_option linter.unusedSimpArgs false
theorem implWs {l : List Int} (h : l.length ≤ 1048576) : Ev (fun k => slices_ContainsFunc_int64_int64.f k l) (one (!l.all wOk)) := by
  rw [← any_not]
  exact index_ev (z := 0) (L := fun k b a => slices_IndexFunc_int64_int64.l0 k l b a) (q := fun k x => impl_isFunc_1.f k x) (by omega) (fun k b a => rfl) fun x _ => Ev.all fun k => by
    unfold impl_isFunc_1.f
    rw [implW]; rfl
theorem implIds {l : List Int} (h : l.length ≤ 1048576) {count : Int} (h0 : 0 ≤ count) (h1 : count ≤ 9223372036854775807) : Ev (fun k => slices_ContainsFunc_int64_int64_2.f k l count) (one (!l.all (inB 0 (count - 1)))) := by
  rw [← any_not]
  exact index_ev (z := 0) (L := fun k b a => slices_IndexFunc_int64_int64_2.l0 k l b a count) (q := fun k x => impl_isFunc_2_1.f k x count) (by omega) (fun k b a => rfl) fun x _ => Ev.all fun k => by
    unfold impl_isFunc_2_1.f
    rw [implIn, wrap_id (by omega) (by omega)]; rfl
theorem ev_nt {g : Nat → Option BR} {b c : Bool} (h : Ev g (one (!c))) : Ev (fun k => bif !b then some (one true) else g k) (one (!(b && c))) := by
  cases b with
  | true => exact Ev.neg rfl h
  | false => exact Ev.pos rfl (Ev.cst rfl)
theorem ev_nt' {g : Nat → Option BR} {b c : Bool} (h : Ev g (one (!c))) : Ev (fun k => bif b then some (one true) else g k) (one (!(!b && c))) := by
  cases b with
  | true => exact Ev.pos rfl (Ev.cst rfl)
  | false => exact Ev.neg rfl h
theorem implPhi {p : tPhiD} (hp : Small tPhi p) {count : Int} (h0 : 0 ≤ count) (h1 : count ≤ 9223372036854775807) : Ev (fun k => impl_isFunc_2.f k p count) (one (!phiB count p)) := by
  have hl : p.2.1.length ≤ 1048576 := hp.2.1.1
  unfold impl_isFunc_2.f phiB
  rw [Bool.and_assoc, len_not]
  exact Ev.bind (Ev.all fun k => implW k _) (ev_nt (ev_nt' (Ev.bind (implIds hl h0 h1) (Ev.cst rfl))))
theorem implPhis {l : List tPhiD} (hs : Small (.list tPhi) l) {count : Int} (h0 : 0 ≤ count) (h1 : count ≤ 9223372036854775807) : Ev (fun k => slices_ContainsFunc_impl_Phi_impl_Phi.f k l count) (one (!l.all (phiB count))) := by
  have hl : l.length ≤ 1048576 := hs.1
  rw [← any_not]
  exact index_ev (z := tPhiZ) (L := fun k b a => slices_IndexFunc_impl_Phi_impl_Phi.l0 k l b a count) (q := fun k x => impl_isFunc_2.f k x count) (by omega) (fun k b a => rfl) fun x hx => implPhi (hs.2 x hx) h0 h1
theorem implInsts {l : List tInstD} (hs : Small (.list tInst) l) {count funcs : Int} (h0 : 0 ≤ count) (h1 : count ≤ 9223372036854775807) (h2 : 0 ≤ funcs) (h3 : funcs ≤ 9223372036854775807) : Ev (fun k => slices_ContainsFunc_impl_Inst_impl_Inst.f k l count funcs) (one (!l.all (instB count funcs))) := by
  have hl : l.length ≤ 1048576 := hs.1
  rw [← any_not]
  refine index_ev (z := tInstZ) (L := fun k b a => slices_IndexFunc_impl_Inst_impl_Inst.l0 k l b a count funcs) (q := fun k x => impl_isFunc_3.f k x count funcs) (by omega) (fun k b a => rfl) fun x hx => ?_
  exact Ev.bind (implInst (i := x) ((hs.2 x hx).2.2.2.2.2.2.1.1) h0 h1 h2 h3) (Ev.cst rfl)
theorem implFunc {f : tFuncD} (hf : Small tFunc f) {funcs : Int} (h2 : 0 ≤ funcs) (h3 : funcs ≤ 9223372036854775807) : Ev (fun k => impl_isFunc.f k f funcs) (one (funcB funcs f)) := by
  have hs := hf.2.2.1
  have hlen : f.2.2.1.length ≤ 1048576 := hs.1
  have hpl : f.1.length ≤ 1048576 := hf.1.1
  obtain ⟨c0, c1⟩ := cntB_le hf
  have c1 : cntB f ≤ 9223372036854775807 := by omega
  have hord : funcB funcs f = (!decide (((4 : Nat) : Int) < ((f.1.length : Nat) : Int)) && (wOk f.2.1 && (inB 1 10 (f.2.2.1.length : Int) && (f.1.all wOk && (!decide (60 < cntB f) && f.2.2.1.all (blockB (cntB f) funcs (f.2.2.1.length : Int))))))) := by
    unfold funcB
    rw [len_not, le_not]
    generalize decide (((4 : Nat) : Int) < ((f.1.length : Nat) : Int)) = a
    generalize decide (60 < cntB f) = b
    generalize f.1.all wOk = c
    cases a <;> cases b <;> cases c <;> simp [Bool.and_assoc]
  rw [hord]
  unfold impl_isFunc.f
  refine ev_and' (Ev.bind (Ev.all fun k => implW k _) (ev_and (Ev.bind (Ev.all fun k => implIn k _ _ _) (ev_and (Ev.bind (implWs hpl) ?_)))))
  have inner : Ev (fun k => Option.bind (impl_CountOf.f k f) fun r4 => bif decide (60 < r4.1.1.1) then some (((false, ()), ()), ()) else impl_isFunc.l0 k f.2.2.1 ((List.length f.2.2.1 : Nat) : Int) 0 f funcs r4.1.1.1) (one (!decide (60 < cntB f) && f.2.2.1.all (blockB (cntB f) funcs (f.2.2.1.length : Int)))) := by
    refine Ev.bind (implCount hf) (ev_and' ?_)
    refine each_ev (z := tBlockZ) (l := f.2.2.1) (L := fun k a => impl_isFunc.l0 k f.2.2.1 ((List.length f.2.2.1 : Nat) : Int) a f funcs (cntB f)) (V := fun m => one (m.all (blockB (cntB f) funcs (f.2.2.1.length : Int))))
      (q := fun k x g => Option.bind (slices_ContainsFunc_impl_Phi_impl_Phi.f k x.1 (cntB f)) fun r1 => bif r1.1.1.1 then some (((false, ()), ()), ()) else Option.bind (slices_ContainsFunc_impl_Inst_impl_Inst.f k x.2.1 (cntB f) funcs) fun r2 => bif r2.1.1.1 then some (((false, ()), ()), ()) else Option.bind (impl_isTerm.f k f x.2.2 (cntB f)) fun r3 => bif !r3.1.1.1 then some (((false, ()), ()), ()) else g k)
      (by omega) (fun k a => rfl) (Ev.cst rfl) fun x m g hx hg => ?_
    have hx' := hs.2 x hx
    have hb : (blockB (cntB f) funcs (f.2.2.1.length : Int) x && m.all (blockB (cntB f) funcs (f.2.2.1.length : Int))) = (!(!x.1.all (phiB (cntB f))) && (!(!x.2.1.all (instB (cntB f) funcs)) && (termB (cntB f) (f.2.2.1.length : Int) x.2.2 && m.all (blockB (cntB f) funcs (f.2.2.1.length : Int))))) := by
      have e : blockB (cntB f) funcs (f.2.2.1.length : Int) x = (x.1.all (phiB (cntB f)) && x.2.1.all (instB (cntB f) funcs) && termB (cntB f) (f.2.2.1.length : Int) x.2.2) := rfl
      rw [e, Bool.not_not, Bool.not_not, Bool.and_assoc, Bool.and_assoc]
    rw [List.all_cons, hb]
    exact Ev.bind (implPhis hx'.1 c0 c1) (ev_and' (Ev.bind (implInsts hx'.2.1 c0 c1 h2 h3) (ev_and' (Ev.bind (Ev.all fun k => implTerm k x.2.2 hlen c0 c1) (ev_and hg)))))
  have := ev_and' (b := !f.1.all wOk) inner
  rw [Bool.not_not] at this
  exact this
end Go.Proofs.Ytkfehogikjcgkaa.V
namespace Go.Proofs.Ytkfehogikjcgkaa.V
open Go
set_option linter.unusedVariables false
set_option linter.unusedSimpArgs false
structure Fm (funcs : Int) (f : tFuncD) : Prop where
  p4 : f.1.length ≤ 4
  b1 : 1 ≤ f.2.2.1.length
  b10 : f.2.2.1.length ≤ 10
  cnt : cntB f ≤ 60
  pw : ∀ w ∈ f.1, wOk w = true
  ph : ∀ x ∈ f.2.2.1, ∀ p ∈ x.1, phiB (cntB f) p = true
  ins : ∀ x ∈ f.2.2.1, ∀ i ∈ x.2.1, instB (cntB f) funcs i = true
  tm : ∀ x ∈ f.2.2.1, termB (cntB f) (f.2.2.1.length : Int) x.2.2 = true
theorem inB_iff {lo hi x : Int} : inB lo hi x = true ↔ lo ≤ x ∧ x ≤ hi := by simp [inB]
theorem Fm.of {funcs : Int} {f : tFuncD} (h : funcB funcs f = true) : Fm funcs f := by
  simp only [funcB, Bool.and_eq_true, decide_eq_true_eq, List.all_eq_true, inB_iff, blockB] at h
  obtain ⟨⟨⟨⟨⟨h1, h2⟩, h3⟩, h4⟩, h5⟩, h6⟩ := h
  exact ⟨h1, by omega, by omega, h4, h5, fun x hx => (h6 x hx).1.1, fun x hx => (h6 x hx).1.2, fun x hx => (h6 x hx).2⟩
/-- How many ids a block gives. -/
def wB (x : tBlockD) : Int := ((x.1.length : Nat) : Int) + ((x.2.1.length : Nat) : Int)
theorem wB_nonneg (x : tBlockD) : 0 ≤ wB x := by unfold wB; omega
theorem cntB_eq (f : tFuncD) : cntB f = (f.1.length : Int) + sumB wB f.2.2.1 := rfl
theorem sumB_nonneg {α : Type} {w : α → Int} : ∀ {l : List α}, (∀ x ∈ l, 0 ≤ w x) → 0 ≤ sumB w l
  | [], _ => Int.le_refl _
  | x :: l, h => by
    have := h x (by simp)
    have := sumB_nonneg (l := l) fun y hy => h y (by simp [hy])
    simp only [sumB]; omega
theorem le_sumB {α : Type} {w : α → Int} {l : List α} (h : ∀ x ∈ l, 0 ≤ w x) {x : α} (hx : x ∈ l) : w x ≤ sumB w l := by
  induction l with
  | nil => cases hx
  | cons y l ih =>
    have hn := sumB_nonneg (l := l) fun z hz => h z (by simp [hz])
    simp only [sumB]
    rcases List.mem_cons.1 hx with rfl | hx
    · omega
    · have := ih (fun z hz => h z (by simp [hz])) hx
      have := h y (by simp)
      omega
theorem Fm.w60 {funcs : Int} {f : tFuncD} (h : Fm funcs f) {x : tBlockD} (hx : x ∈ f.2.2.1) : wB x ≤ 60 := by
  have := le_sumB (w := wB) (fun y _ => wB_nonneg y) hx
  have := h.cnt
  rw [cntB_eq] at this
  omega
theorem Fm.phis {funcs : Int} {f : tFuncD} (h : Fm funcs f) {x : tBlockD} (hx : x ∈ f.2.2.1) : x.1.length ≤ 60 ∧ x.2.1.length ≤ 60 := by
  have := h.w60 hx
  unfold wB at this
  omega
end Go.Proofs.Ytkfehogikjcgkaa.V
namespace Go.Proofs.Ytkfehogikjcgkaa.V
open Go
set_option linter.unusedVariables false
set_option linter.unusedSimpArgs false
section
variable {funcs : Int} {f : tFuncD}
def vid (f : tFuncD) (id : Int) : Prop := 0 ≤ id ∧ id < cntB f
theorem vid_of {id : Int} (h : inB 0 (cntB f - 1) id = true) : vid f id := by
  have := inB_iff.1 h
  exact ⟨this.1, by omega⟩
theorem Fm.vt (hf : Fm funcs f) {x : tBlockD} (hx : x ∈ f.2.2.1) (h : x.2.2.1 = 1 ∨ x.2.2.1 = 3) : vid f x.2.2.2.1 := by
  have := hf.tm x hx
  unfold termB at this
  rcases h with h | h <;> rw [h] at this
  · have h2 : (inB 0 (cntB f - 1) x.2.2.2.1 && decide (x.2.2.2.2.1 = 0) && decide (x.2.2.2.2.2.1 = 0)) = true := this
    simp only [Bool.and_eq_true] at h2
    exact vid_of h2.1.1
  · have h2 : (inB 0 (cntB f - 1) x.2.2.2.1 && inB 0 ((f.2.2.1.length : Int) - 1) x.2.2.2.2.1 && inB 0 ((f.2.2.1.length : Int) - 1) x.2.2.2.2.2.1 && !decide (x.2.2.2.2.1 = x.2.2.2.2.2.1)) = true := this
    simp only [Bool.and_eq_true] at h2
    exact vid_of h2.1.1.1
theorem Fm.vp (hf : Fm funcs f) {x : tBlockD} (hx : x ∈ f.2.2.1) {p : tPhiD} (hp : p ∈ x.1) {id : Int} (h : id ∈ p.2.1) : vid f id := by
  have := hf.ph x hx p hp
  simp only [phiB, Bool.and_eq_true, List.all_eq_true] at this
  exact vid_of (this.2 id h)
theorem Fm.vo (hf : Fm funcs f) {x : tBlockD} (hx : x ∈ f.2.2.1) {i : tInstD} (hi : i ∈ x.2.1) : i.2.2.2.2.2.2.1.length ≤ 4 ∧ ∀ id ∈ opsB i, vid f id := by
  have hin := hf.ins x hx i hi
  simp only [instB, Bool.and_eq_true, decide_eq_true_eq, List.all_eq_true] at hin
  exact ⟨hin.1.1.1.1.1.2, fun id h => vid_of (hin.1.1.1.2 id h)⟩
end
end Go.Proofs.Ytkfehogikjcgkaa.V
namespace Go.Proofs.Ytkfehogikjcgkaa.V
open Go
set_option linter.unusedVariables false
set_option linter.unusedSimpArgs false
theorem Ev.sk1 {R : Type} {g : Nat → Option R} {r : R} (h : Ev (fun k => g (k + 1)) r) : Ev g r := Ev.step h fun _ => rfl
/-- A loop whose state is known at each place. -/
theorem st_loop {σ R : Type} {n0 : Nat} {L : Nat → Int → σ → Option R} {T : Nat → σ → Option R} (S : Nat → σ)
    (hend : ∀ r, Ev (fun k => T k (S n0)) r → Ev (fun k => L k (n0 : Int) (S n0)) r)
    (hstep : ∀ i r, i < n0 → Ev (fun k => L k ((i + 1 : Nat) : Int) (S (i + 1))) r → Ev (fun k => L k (i : Int) (S i)) r) {r : R} (h : Ev (fun k => T k (S n0)) r) : Ev (fun k => L k 0 (S 0)) r :=
  Ev.down (G := fun i k => L k (i : Int) (S i)) (V := fun _ => r) n0 (hend r h) (fun i hi e => hstep i r hi e) 0 (Nat.zero_le _)
section
variable {α : Type}
theorem take_push {l : List α} {i : Nat} (h : i < l.length) : l.take i ++ [l[i]] = l.take (i + 1) := (List.take_succ_eq_append_getElem h).symm
theorem len_push {l : List α} {i : Nat} {x : α} (b : Nat) (hb : b ≤ 100) (h : l.length ≤ 1048576) : (List.length (l.take i) + List.length [x]) * b ≤ 140737488355328 := by
  have h1 : List.length (l.take i) + List.length [x] ≤ 1048577 := by simp only [List.length_take, List.length_cons, List.length_nil]; omega
  exact Nat.le_trans (Nat.mul_le_mul h1 hb) (by decide)
def updS (g : α → α) (l : List α) (i : Nat) : List α := (l.take i).map g ++ l.drop i
theorem updS_len (g : α → α) (l : List α) (i : Nat) : (updS g l i).length = l.length := by
  unfold updS
  simp only [List.length_append, List.length_map, List.length_take, List.length_drop]; omega
theorem updS_get (g : α → α) {l : List α} {i : Nat} (z : α) (h : i < l.length) : (updS g l i).getD i z = l[i] := by
  unfold updS
  have e : ((l.take i).map g).length = i := by simp only [List.length_map, List.length_take]; omega
  rw [List.getD_eq_getElem?_getD, List.getElem?_append_right (by omega), e, Nat.sub_self, List.getElem?_drop, Nat.add_zero, List.getElem?_eq_getElem h]; rfl
theorem updS_set (g : α → α) {l : List α} {i : Nat} (h : i < l.length) : (updS g l i).set i (g l[i]) = updS g l (i + 1) := by
  unfold updS
  have e : ((l.take i).map g).length = i := by simp only [List.length_map, List.length_take]; omega
  rw [List.set_append_right _ _ (by omega), e, Nat.sub_self, List.drop_eq_getElem_cons h, List.set_cons_zero, ← take_push h, List.map_append, List.append_assoc]; rfl
theorem updS_end (g : α → α) (l : List α) : updS g l l.length = l.map g := by
  unfold updS
  rw [List.take_length, List.drop_length, List.append_nil]
end
/-! ### copies -/
theorem specCopyInst (k : Nat) {i : tInstD} (h : i.2.2.2.2.2.2.1.length ≤ 1048576) : spec_l2CopyInst.f k i = some (((i.1, i.2.1, i.2.2.1, i.2.2.2.1, i.2.2.2.2.1, i.2.2.2.2.2.1, (), ()), ()), (i.2.2.2.2.2.2.1, ())) := by
  unfold spec_l2CopyInst.f
  rw [specCopy k h]; rfl
theorem specCopyBlock {x : tBlockD} (h : Small tBlock x) : Ev (fun k => spec_l2CopyBlock.f k x) ((((), (), x.2.2.1, x.2.2.2.1, x.2.2.2.2.1, x.2.2.2.2.2.1, ()), ()), (x.1, x.2.1, ())) := by
  have hp : x.1.length ≤ 1048576 := h.1.1
  have hi : x.2.1.length ≤ 1048576 := h.2.1.1
  unfold spec_l2CopyBlock.f
  refine st_loop (n0 := x.1.length) (L := fun k a s => spec_l2CopyBlock.l0 k a x 0 0 0 0 [] [] x.2.2.1 x.2.2.2.1 x.2.2.2.2.1 x.2.2.2.2.2.1 s []) (T := fun k s => spec_l2CopyBlock.l1 k 0 x 0 0 0 0 [] [] x.2.2.1 x.2.2.2.1 x.2.2.2.2.1 x.2.2.2.2.2.1 s []) (fun i => x.1.take i) (fun r e => Ev.sk1 ?_) (fun i r hlt e => Ev.sk1 ?_) ?_
  · show Ev (fun k => spec_l2CopyBlock.l0_ k (spec_l2CopyBlock.l0 k) (spec_l2CopyBlock.l1 k) _ _ _ _ _ _ _ _ _ _ _ _ _ _) _
    simp only [spec_l2CopyBlock.l0_, head_end, cond_false]
    exact e
  · show Ev (fun k => spec_l2CopyBlock.l0_ k (spec_l2CopyBlock.l0 k) (spec_l2CopyBlock.l1 k) _ _ _ _ _ _ _ _ _ _ _ _ _ _) _
    simp only [spec_l2CopyBlock.l0_, head_in hlt, head_0, Bool.and_self, cond_true, Int.toNat_natCast, getD_at _ _ _ hlt, wrap_nat (show i < 9223372036854775807 by omega)]
    refine Ev.bind (Ev.all fun k => specCopy k (h.1.2 _ (List.getElem_mem hlt)).2.1.1) (Ev.dp (len_push 32 (by decide) hp) ?_)
    simp only [← take_push hlt] at e
    exact e
  · simp only [List.take_length]
    refine (st_loop (n0 := x.2.1.length) (L := fun k a s => spec_l2CopyBlock.l1 k a x 0 0 0 0 [] [] x.2.2.1 x.2.2.2.1 x.2.2.2.2.1 x.2.2.2.2.2.1 x.1 s) (T := fun k s => some ((((), (), x.2.2.1, x.2.2.2.1, x.2.2.2.2.1, x.2.2.2.2.2.1, ()), ()), (x.1, s, ()))) (fun i => x.2.1.take i) (fun r e => Ev.sk1 ?_) (fun i r hlt e => Ev.sk1 ?_) (r := ((((), (), x.2.2.1, x.2.2.2.1, x.2.2.2.2.1, x.2.2.2.2.2.1, ()), ()), (x.1, x.2.1, ()))) ?_)
    · show Ev (fun k => spec_l2CopyBlock.l1_ k (spec_l2CopyBlock.l0 k) (spec_l2CopyBlock.l1 k) _ _ _ _ _ _ _ _ _ _ _ _ _ _) _
      simp only [spec_l2CopyBlock.l1_, head_end, cond_false]
      exact e
    · show Ev (fun k => spec_l2CopyBlock.l1_ k (spec_l2CopyBlock.l0 k) (spec_l2CopyBlock.l1 k) _ _ _ _ _ _ _ _ _ _ _ _ _ _) _
      simp only [spec_l2CopyBlock.l1_, head_in hlt, head_0, Bool.and_self, cond_true, Int.toNat_natCast, getD_at _ _ _ hlt, wrap_nat (show i < 9223372036854775807 by omega)]
      refine Ev.bind (Ev.all fun k => specCopyInst k (h.2.1.2 _ (List.getElem_mem hlt)).2.2.2.2.2.2.1.1) (Ev.dp (len_push 72 (by decide) hi) ?_)
      simp only [← take_push hlt] at e
      exact e
    · simp only [List.take_length]
      exact Ev.cst rfl
theorem specCopyFunc {f : tFuncD} (h : Small tFunc f) : Ev (fun k => spec_l2CopyFunc.f k f) ((((), f.2.1, (), ()), ()), (f.1, f.2.2.1, ())) := by
  have hb : f.2.2.1.length ≤ 1048576 := h.2.2.1.1
  unfold spec_l2CopyFunc.f
  refine Ev.bind (Ev.all fun k => specCopy k h.1.1) ?_
  refine (st_loop (n0 := f.2.2.1.length) (L := fun k a s => spec_l2CopyFunc.l0 k a f 0 [] [] f.2.1 f.1 s) (T := fun k s => some ((((), f.2.1, (), ()), ()), (f.1, s, ()))) (fun i => f.2.2.1.take i) (fun r e => Ev.sk1 ?_) (fun i r hlt e => Ev.sk1 ?_) ?_)
  · show Ev (fun k => spec_l2CopyFunc.l0_ k (spec_l2CopyFunc.l0 k) _ _ _ _ _ _ _ _) _
    simp only [spec_l2CopyFunc.l0_, head_end, cond_false]
    exact e
  · show Ev (fun k => spec_l2CopyFunc.l0_ k (spec_l2CopyFunc.l0 k) _ _ _ _ _ _ _ _) _
    simp only [spec_l2CopyFunc.l0_, head_in hlt, head_0, Bool.and_self, cond_true, Int.toNat_natCast, getD_at _ _ _ hlt, wrap_nat (show i < 9223372036854775807 by omega)]
    refine Ev.bind (specCopyBlock (h.2.2.1.2 _ (List.getElem_mem hlt))) (Ev.dp (len_push 80 (by decide) hb) ?_)
    simp only [← take_push hlt] at e
    exact e
  · simp only [List.take_length]
    exact Ev.cst rfl
/-! ### other ids -/
def okI (to : List Int) (i : Int) : Prop := 0 ≤ i ∧ i < (to.length : Int)
def subI (to : List Int) (i : Int) : Int := to.getD i.toNat 0
def subPhi (to : List Int) (p : tPhiD) : tPhiD := (p.1, p.2.1.map (subI to), ())
def subInst (to : List Int) (i : tInstD) : tInstD :=
  bif decide (i.1 = 26) then (i.1, i.2.1, i.2.2.1, i.2.2.2.1, i.2.2.2.2.1, i.2.2.2.2.2.1, i.2.2.2.2.2.2.1.map (subI to), ())
  else (i.1, i.2.1, bif decide (0 < (opsB i).length) then subI to i.2.2.1 else i.2.2.1, bif decide (1 < (opsB i).length) then subI to i.2.2.2.1 else i.2.2.2.1, bif decide (2 < (opsB i).length) then subI to i.2.2.2.2.1 else i.2.2.2.2.1, i.2.2.2.2.2.1, i.2.2.2.2.2.2.1, ())
def subTerm (to : List Int) (t : tTermD) : tTermD := bif decide (t.1 = 1) || decide (t.1 = 3) then (t.1, subI to t.2.1, t.2.2.1, t.2.2.2.1, ()) else t
def subB (to : List Int) (x : tBlockD) : tBlockD := (x.1.map (subPhi to), x.2.1.map (subInst to), subTerm to x.2.2)
def subF (to : List Int) (f : tFuncD) : tFuncD := (f.1, f.2.1, f.2.2.1.map (subB to), ())
def SubB (to : List Int) (x : tBlockD) : Prop := Small tBlock x ∧ (∀ p ∈ x.1, ∀ id ∈ p.2.1, okI to id) ∧ (∀ i ∈ x.2.1, ∀ id ∈ opsB i, okI to id) ∧ (x.2.2.1 = 1 ∨ x.2.2.1 = 3 → okI to x.2.2.2.1)
structure SubOK (to : List Int) (f : tFuncD) : Prop where
  sm : Small tFunc f
  bl : ∀ x ∈ f.2.2.1, SubB to x
abbrev instR (y : tInstD) : ((Int × Int × Int × Int × Int × Int × Unit × Unit) × Unit) × ((List Int) × Unit) := (((y.1, y.2.1, y.2.2.1, y.2.2.2.1, y.2.2.2.2.1, y.2.2.2.2.2.1, (), ()), ()), (y.2.2.2.2.2.2.1, ()))
theorem ops_forms {i : tInstD} (h : i.1 ≠ 26) : opsB i = [] ∨ opsB i = [i.2.2.1] ∨ opsB i = [i.2.2.1, i.2.2.2.1] ∨ opsB i = [i.2.2.1, i.2.2.2.1, i.2.2.2.2.1] := by
  unfold opsB
  rw [dneg h]
  cases inB 1 17 i.1 <;> cases decide (i.1 = 24) <;> cases inB 18 20 i.1 <;> cases decide (i.1 = 23) <;> cases decide (i.1 = 25) <;> cases decide (i.1 = 27) <;> cases decide (i.1 = 22) <;> simp
theorem okI_dec {to : List Int} {i : Int} (h : okI to i) : (decide (0 ≤ i) && decide (i < (to.length : Int))) = true := by rw [dpos h.1, dpos h.2]; rfl
theorem specSubInst {to : List Int} {i : tInstD} (hs : i.2.2.2.2.2.2.1.length ≤ 1048576) (ho : ∀ id ∈ opsB i, okI to id) : Ev (fun k => spec_l8Inst.f k i to) (instR (subInst to i)) := by
  unfold spec_l8Inst.f
  refine Ev.bind (Ev.all fun k => specCopyInst k hs) (Ev.bind (Ev.all fun k => specOps k hs) ?_)
  by_cases h26 : i.1 = 26
  · refine Ev.dp h26 ?_
    have ho' : ∀ id ∈ i.2.2.2.2.2.2.1, okI to id := by
      have : opsB i = i.2.2.2.2.2.2.1 := by unfold opsB inB; rw [h26]; rfl
      rw [← this]; exact ho
    have e : instR (subInst to i) = (((i.1, i.2.1, i.2.2.1, i.2.2.2.1, i.2.2.2.2.1, i.2.2.2.2.2.1, (), ()), ()), (i.2.2.2.2.2.2.1.map (subI to), ())) := by unfold subInst; rw [dpos h26]; rfl
    rw [e]
    refine st_loop (n0 := i.2.2.2.2.2.2.1.length) (L := fun k a s => spec_l8Inst.l0 k to a i 0 0 0 0 0 0 [] i.1 i.2.1 i.2.2.1 i.2.2.2.1 i.2.2.2.2.1 i.2.2.2.2.2.1 s) (T := fun k s => some (((i.1, i.2.1, i.2.2.1, i.2.2.2.1, i.2.2.2.2.1, i.2.2.2.2.2.1, (), ()), ()), (s, ()))) (updS (subI to) i.2.2.2.2.2.2.1) (fun r e => Ev.sk1 ?_) (fun j r hlt e => Ev.sk1 ?_) ?_
    · show Ev (fun k => spec_l8Inst.l0_ k (spec_l8Inst.l0 k) _ _ _ _ _ _ _ _ _ _ _ _ _ _ _ _ _) _
      simp only [spec_l8Inst.l0_, updS_len, head_end, cond_false]
      exact e
    · show Ev (fun k => spec_l8Inst.l0_ k (spec_l8Inst.l0 k) _ _ _ _ _ _ _ _ _ _ _ _ _ _ _ _ _) _
      simp only [spec_l8Inst.l0_, updS_len, head_in hlt, head_0, Bool.and_self, cond_true, Int.toNat_natCast, getD_at _ _ _ hlt, wrap_nat (show j < 9223372036854775807 by omega), okI_dec (ho' _ (List.getElem_mem hlt))]
      simp only [← updS_set (subI to) hlt] at e
      exact e
    · rw [updS_end]; exact Ev.cst rfl
  · refine Ev.dn h26 ?_
    have e : subInst to i = (i.1, i.2.1, bif decide (0 < (opsB i).length) then subI to i.2.2.1 else i.2.2.1, bif decide (1 < (opsB i).length) then subI to i.2.2.2.1 else i.2.2.2.1, bif decide (2 < (opsB i).length) then subI to i.2.2.2.2.1 else i.2.2.2.2.1, i.2.2.2.2.2.1, i.2.2.2.2.2.2.1, ()) := by unfold subInst; rw [dneg h26]; rfl
    rw [e]
    rcases ops_forms h26 with h | h | h | h <;> rw [h] at ho ⊢
    · exact Ev.cst rfl
    · exact Ev.dp (by simp) (Ev.pos (okI_dec (ho _ (by simp))) (Ev.cst rfl))
    · exact Ev.dp (by simp) (Ev.pos (okI_dec (ho i.2.2.1 (by simp))) (Ev.dp (by simp) (Ev.pos (okI_dec (ho i.2.2.2.1 (by simp))) (Ev.cst rfl))))
    · exact Ev.dp (by simp) (Ev.pos (okI_dec (ho i.2.2.1 (by simp))) (Ev.dp (by simp) (Ev.pos (okI_dec (ho i.2.2.2.1 (by simp))) (Ev.dp (by simp) (Ev.pos (okI_dec (ho i.2.2.2.2.1 (by simp))) (Ev.cst rfl))))))
theorem specSubTerm {to : List Int} {t : tTermD} (h : t.1 = 1 ∨ t.1 = 3 → okI to t.2.1) : Ev (fun k => spec_l8Term.f k t to) (((subTerm to t, ()), ())) := by
  unfold spec_l8Term.f subTerm
  by_cases h1 : t.1 = 1
  · rw [dpos h1]
    exact Ev.pos rfl (Ev.pos (okI_dec (h (Or.inl h1))) (Ev.cst rfl))
  · rw [dneg h1]
    by_cases h3 : t.1 = 3
    · rw [dpos h3]
      exact Ev.neg rfl (Ev.pos rfl (Ev.pos (okI_dec (h (Or.inr h3))) (Ev.cst rfl)))
    · rw [dneg h3]
      exact Ev.neg rfl (Ev.neg rfl (Ev.cst rfl))
/-! ### l8Subst -/
section
variable {to : List Int} {r : spec_l8Subst.R} {b : Int} {f : tFuncD} {a4 : Int} {a5 : List Int} {a6 : List tBlockD} {a7 : Int} {a8 : List Int} {a9 : List tBlockD} {a10 : Nat} {a11 a12 a13 a14 : Int}
theorem specPhiLoop {p : Nat} {phis : List tPhiD} (hp : p < phis.length) {w : Int} {ins : List Int} {insts : List tInstD} {t1 t2 t3 t4 : Int} (hl : ins.length ≤ 1048576) (ho : ∀ id ∈ ins, okI to id) (hpl : phis.length ≤ 1048576)
    (e : Ev (fun k => spec_l8Subst.l1 k to b ((p + 1 : Nat) : Int) f a4 a5 a6 a7 a8 a9 a10 a11 a12 a13 a14 (phis.set p (w, ins.map (subI to), ())) insts t1 t2 t3 t4) r) :
    Ev (fun k => spec_l8Subst.l2 k to b (p : Int) 0 f a4 a5 a6 a7 a8 a9 a10 a11 a12 a13 a14 phis p w ins insts t1 t2 t3 t4) r := by
  refine st_loop (n0 := ins.length) (L := fun k a s => spec_l8Subst.l2 k to b (p : Int) a f a4 a5 a6 a7 a8 a9 a10 a11 a12 a13 a14 phis p w s insts t1 t2 t3 t4) (T := fun k s => spec_l8Subst.l1 k to b ((p + 1 : Nat) : Int) f a4 a5 a6 a7 a8 a9 a10 a11 a12 a13 a14 (phis.set p (w, s, ())) insts t1 t2 t3 t4) (updS (subI to) ins) (fun r e => Ev.sk1 ?_) (fun j r hlt e => Ev.sk1 ?_) ?_
  · show Ev (fun k => spec_l8Subst.l2_ k (spec_l8Subst.l0 k) (spec_l8Subst.l1 k) (spec_l8Subst.l2 k) (spec_l8Subst.l3 k) _ _ _ _ _ _ _ _ _ _ _ _ _ _ _ _ _ _ _ _ _ _ _ _ _) _
    simp only [spec_l8Subst.l2_, updS_len, head_in hp, head_0, head_end, Bool.and_self, cond_true, cond_false, Int.toNat_natCast, decide_true, wrap_nat (show p < 9223372036854775807 by omega)]
    exact e
  · show Ev (fun k => spec_l8Subst.l2_ k (spec_l8Subst.l0 k) (spec_l8Subst.l1 k) (spec_l8Subst.l2 k) (spec_l8Subst.l3 k) _ _ _ _ _ _ _ _ _ _ _ _ _ _ _ _ _ _ _ _ _ _ _ _ _) _
    simp only [spec_l8Subst.l2_, updS_len, head_in hp, head_in hlt, head_0, Bool.and_self, cond_true, Int.toNat_natCast, decide_true, updS_get (subI to) 0 hlt, wrap_nat (show j < 9223372036854775807 by omega), okI_dec (ho _ (List.getElem_mem hlt))]
    simp only [← updS_set (subI to) hlt] at e
    exact e
  · rw [updS_end]; exact e
theorem specPhis {phis : List tPhiD} {insts : List tInstD} {t1 t2 t3 t4 : Int} (hl : Small (.list tPhi) phis) (ho : ∀ p ∈ phis, ∀ id ∈ p.2.1, okI to id)
    (e : Ev (fun k => spec_l8Subst.l3 k to b 0 f a4 a5 a6 a7 a8 a9 a10 a11 a12 a13 a14 (phis.map (subPhi to)) insts t1 t2 t3 t4) r) :
    Ev (fun k => spec_l8Subst.l1 k to b 0 f a4 a5 a6 a7 a8 a9 a10 a11 a12 a13 a14 phis insts t1 t2 t3 t4) r := by
  have hl1 : phis.length ≤ 1048576 := hl.1
  refine st_loop (n0 := phis.length) (L := fun k a s => spec_l8Subst.l1 k to b a f a4 a5 a6 a7 a8 a9 a10 a11 a12 a13 a14 s insts t1 t2 t3 t4) (T := fun k s => spec_l8Subst.l3 k to b 0 f a4 a5 a6 a7 a8 a9 a10 a11 a12 a13 a14 s insts t1 t2 t3 t4) (updS (subPhi to) phis) (fun r e => Ev.sk1 ?_) (fun j r hlt e => Ev.sk1 ?_) ?_
  · show Ev (fun k => spec_l8Subst.l1_ k (spec_l8Subst.l0 k) (spec_l8Subst.l1 k) (spec_l8Subst.l2 k) (spec_l8Subst.l3 k) _ _ _ _ _ _ _ _ _ _ _ _ _ _ _ _ _ _ _ _ _) _
    simp only [spec_l8Subst.l1_, updS_len, head_end, cond_false]
    exact e
  · show Ev (fun k => spec_l8Subst.l1_ k (spec_l8Subst.l0 k) (spec_l8Subst.l1 k) (spec_l8Subst.l2 k) (spec_l8Subst.l3 k) _ _ _ _ _ _ _ _ _ _ _ _ _ _ _ _ _ _ _ _ _) _
    simp only [spec_l8Subst.l1_, updS_len, head_in hlt, head_0, Bool.and_self, cond_true, Int.toNat_natCast, updS_get (subPhi to) _ hlt]
    refine specPhiLoop (by rw [updS_len]; exact hlt) (hl.2 _ (List.getElem_mem hlt)).2.1.1 (ho _ (List.getElem_mem hlt)) (by rw [updS_len]; exact hl1) ?_
    simp only [← updS_set (subPhi to) hlt] at e
    exact e
  · rw [updS_end]; exact e
theorem specInsts {i : Nat} {phis : List tPhiD} {insts : List tInstD} {t : tTermD} (hi : i < a9.length) (h9 : a9.length ≤ 1048576) (hl : Small (.list tInst) insts) (ho : ∀ x ∈ insts, ∀ id ∈ opsB x, okI to id) (ht : t.1 = 1 ∨ t.1 = 3 → okI to t.2.1)
    (e : Ev (fun k => spec_l8Subst.l0 k to ((i + 1 : Nat) : Int) f a4 a5 a6 a7 a8 (a9.set i (phis, insts.map (subInst to), subTerm to t))) r) :
    Ev (fun k => spec_l8Subst.l3 k to (i : Int) 0 f a4 a5 a6 a7 a8 a9 i a11 a12 a13 a14 phis insts t.1 t.2.1 t.2.2.1 t.2.2.2.1) r := by
  have hl1 : insts.length ≤ 1048576 := hl.1
  refine st_loop (n0 := insts.length) (L := fun k a s => spec_l8Subst.l3 k to (i : Int) a f a4 a5 a6 a7 a8 a9 i a11 a12 a13 a14 phis s t.1 t.2.1 t.2.2.1 t.2.2.2.1) (T := fun k s => spec_l8Subst.l0 k to ((i + 1 : Nat) : Int) f a4 a5 a6 a7 a8 (a9.set i (phis, s, subTerm to t))) (updS (subInst to) insts) (fun r e => Ev.sk1 ?_) (fun j r hlt e => Ev.sk1 ?_) ?_
  · show Ev (fun k => spec_l8Subst.l3_ k (spec_l8Subst.l0 k) (spec_l8Subst.l1 k) (spec_l8Subst.l2 k) (spec_l8Subst.l3 k) _ _ _ _ _ _ _ _ _ _ _ _ _ _ _ _ _ _ _ _ _) _
    simp only [spec_l8Subst.l3_, updS_len, head_end, cond_false]
    refine Ev.bind (specSubTerm (t := t) ht) ?_
    simp only [head_in hi, head_0, Bool.and_self, cond_true, Int.toNat_natCast, decide_true, wrap_nat (show i < 9223372036854775807 by omega)]
    exact e
  · show Ev (fun k => spec_l8Subst.l3_ k (spec_l8Subst.l0 k) (spec_l8Subst.l1 k) (spec_l8Subst.l2 k) (spec_l8Subst.l3 k) _ _ _ _ _ _ _ _ _ _ _ _ _ _ _ _ _ _ _ _ _) _
    simp only [spec_l8Subst.l3_, updS_len, head_in hlt, head_0, Bool.and_self, cond_true, Int.toNat_natCast, decide_true, updS_get (subInst to) _ hlt, wrap_nat (show j < 9223372036854775807 by omega)]
    refine Ev.bind (specSubInst (hl.2 _ (List.getElem_mem hlt)).2.2.2.2.2.2.1.1 (ho _ (List.getElem_mem hlt))) ?_
    simp only [← updS_set (subInst to) hlt] at e
    exact e
  · rw [updS_end]; exact e
end
theorem specSubst {to : List Int} {f : tFuncD} (h : SubOK to f) : Ev (fun k => spec_l8Subst.f k f to) ((((), f.2.1, (), ()), ()), (f.1, f.2.2.1.map (subB to), ())) := by
  have hb : f.2.2.1.length ≤ 1048576 := h.sm.2.2.1.1
  unfold spec_l8Subst.f
  refine Ev.bind (specCopyFunc h.sm) ?_
  refine st_loop (n0 := f.2.2.1.length) (L := fun k a s => spec_l8Subst.l0 k to a f 0 [] [] f.2.1 f.1 s) (T := fun k s => some ((((), f.2.1, (), ()), ()), (f.1, s, ()))) (updS (subB to) f.2.2.1) (fun r e => Ev.sk1 ?_) (fun j r hlt e => Ev.sk1 ?_) ?_
  · show Ev (fun k => spec_l8Subst.l0_ k (spec_l8Subst.l0 k) (spec_l8Subst.l1 k) (spec_l8Subst.l2 k) (spec_l8Subst.l3 k) _ _ _ _ _ _ _ _ _) _
    simp only [spec_l8Subst.l0_, head_end, cond_false]
    exact e
  · show Ev (fun k => spec_l8Subst.l0_ k (spec_l8Subst.l0 k) (spec_l8Subst.l1 k) (spec_l8Subst.l2 k) (spec_l8Subst.l3 k) _ _ _ _ _ _ _ _ _) _
    simp only [spec_l8Subst.l0_, updS_len, head_in hlt, head_0, Bool.and_self, cond_true, Int.toNat_natCast, decide_true, updS_get (subB to) _ hlt]
    obtain ⟨q1, q2, q3, q4⟩ := h.bl _ (List.getElem_mem hlt)
    refine specPhis q1.1 q2 (specInsts (t := (f.2.2.1[j]).2.2) (by rw [updS_len]; exact hlt) (by rw [updS_len]; exact hb) q1.2.1 q3 q4 ?_)
    simp only [← updS_set (subB to) hlt] at e
    exact e
  · rw [updS_end]; exact Ev.cst rfl
end Go.Proofs.Ytkfehogikjcgkaa.V
namespace Go.Proofs.Ytkfehogikjcgkaa.V
open Go
set_option linter.unusedVariables false
set_option linter.unusedSimpArgs false
theorem implOwnInst (k : Nat) {i : tInstD} (h : i.2.2.2.2.2.2.1.length ≤ 1048576) : impl_ownInst.f k i = some (((i.1, i.2.1, i.2.2.1, i.2.2.2.1, i.2.2.2.2.1, i.2.2.2.2.2.1, (), ()), ()), (i.2.2.2.2.2.2.1, ())) := by
  unfold impl_ownInst.f
  rw [implClone k h]; rfl
theorem implOwnBlock {x : tBlockD} (h : Small tBlock x) : Ev (fun k => impl_ownBlock.f k x) ((((), (), x.2.2.1, x.2.2.2.1, x.2.2.2.2.1, x.2.2.2.2.2.1, ()), ()), (x.1, x.2.1, ())) := by
  have hp : x.1.length ≤ 1048576 := h.1.1
  have hi : x.2.1.length ≤ 1048576 := h.2.1.1
  unfold impl_ownBlock.f
  refine st_loop (n0 := x.1.length) (L := fun k a s => impl_ownBlock.l0 k x.1 (x.1.length : Int) a x 0 0 0 0 [] [] x.2.2.1 x.2.2.2.1 x.2.2.2.2.1 x.2.2.2.2.2.1 s []) (T := fun k s => impl_ownBlock.l1 k x.2.1 (x.2.1.length : Int) 0 0 0 0 0 [] [] x.2.2.1 x.2.2.2.1 x.2.2.2.2.1 x.2.2.2.2.2.1 s []) (fun i => x.1.take i) (fun r e => Ev.sk1 ?_) (fun i r hlt e => Ev.sk1 ?_) ?_
  · show Ev (fun k => impl_ownBlock.l0_ k (impl_ownBlock.l0 k) (impl_ownBlock.l1 k) _ _ _ _ _ _ _ _ _ _ _ _ _ _ _ _) _
    simp only [impl_ownBlock.l0_, head_end, cond_false]
    exact e
  · show Ev (fun k => impl_ownBlock.l0_ k (impl_ownBlock.l0 k) (impl_ownBlock.l1 k) _ _ _ _ _ _ _ _ _ _ _ _ _ _ _ _) _
    simp only [impl_ownBlock.l0_, head_in hlt, head_0, Bool.and_self, cond_true, Int.toNat_natCast, getD_at _ _ _ hlt, wrap_nat (show i < 9223372036854775807 by omega)]
    refine Ev.bind (Ev.all fun k => implClone k (h.1.2 _ (List.getElem_mem hlt)).2.1.1) (Ev.dp (len_push 32 (by decide) hp) ?_)
    simp only [← take_push hlt] at e
    exact e
  · simp only [List.take_length]
    refine (st_loop (n0 := x.2.1.length) (L := fun k a s => impl_ownBlock.l1 k x.2.1 (x.2.1.length : Int) a 0 0 0 0 [] [] x.2.2.1 x.2.2.2.1 x.2.2.2.2.1 x.2.2.2.2.2.1 x.1 s) (T := fun k s => some ((((), (), x.2.2.1, x.2.2.2.1, x.2.2.2.2.1, x.2.2.2.2.2.1, ()), ()), (x.1, s, ()))) (fun i => x.2.1.take i) (fun r e => Ev.sk1 ?_) (fun i r hlt e => Ev.sk1 ?_) (r := ((((), (), x.2.2.1, x.2.2.2.1, x.2.2.2.2.1, x.2.2.2.2.2.1, ()), ()), (x.1, x.2.1, ()))) ?_)
    · show Ev (fun k => impl_ownBlock.l1_ k (impl_ownBlock.l0 k) (impl_ownBlock.l1 k) _ _ _ _ _ _ _ _ _ _ _ _ _ _ _) _
      simp only [impl_ownBlock.l1_, head_end, cond_false]
      exact e
    · show Ev (fun k => impl_ownBlock.l1_ k (impl_ownBlock.l0 k) (impl_ownBlock.l1 k) _ _ _ _ _ _ _ _ _ _ _ _ _ _ _) _
      simp only [impl_ownBlock.l1_, head_in hlt, head_0, Bool.and_self, cond_true, Int.toNat_natCast, getD_at _ _ _ hlt, wrap_nat (show i < 9223372036854775807 by omega)]
      refine Ev.bind (Ev.all fun k => implOwnInst k (h.2.1.2 _ (List.getElem_mem hlt)).2.2.2.2.2.2.1.1) (Ev.dp (len_push 72 (by decide) hi) ?_)
      simp only [← take_push hlt] at e
      exact e
    · simp only [List.take_length]
      exact Ev.cst rfl
theorem implOwnFunc {f : tFuncD} (h : Small tFunc f) : Ev (fun k => impl_ownFunc.f k f) ((((), f.2.1, (), ()), ()), (f.1, f.2.2.1, ())) := by
  have hb : f.2.2.1.length ≤ 1048576 := h.2.2.1.1
  unfold impl_ownFunc.f
  refine Ev.bind (Ev.all fun k => implClone k h.1.1) ?_
  refine (st_loop (n0 := f.2.2.1.length) (L := fun k a s => impl_ownFunc.l0 k f.2.2.1 (f.2.2.1.length : Int) a 0 [] [] f.2.1 f.1 s) (T := fun k s => some ((((), f.2.1, (), ()), ()), (f.1, s, ()))) (fun i => f.2.2.1.take i) (fun r e => Ev.sk1 ?_) (fun i r hlt e => Ev.sk1 ?_) ?_)
  · show Ev (fun k => impl_ownFunc.l0_ k (impl_ownFunc.l0 k) _ _ _ _ _ _ _ _ _) _
    simp only [impl_ownFunc.l0_, head_end, cond_false]
    exact e
  · show Ev (fun k => impl_ownFunc.l0_ k (impl_ownFunc.l0 k) _ _ _ _ _ _ _ _ _) _
    simp only [impl_ownFunc.l0_, head_in hlt, head_0, Bool.and_self, cond_true, Int.toNat_natCast, getD_at _ _ _ hlt, wrap_nat (show i < 9223372036854775807 by omega)]
    refine Ev.bind (implOwnBlock (h.2.2.1.2 _ (List.getElem_mem hlt))) (Ev.dp (len_push 80 (by decide) hb) ?_)
    simp only [← take_push hlt] at e
    exact e
  · simp only [List.take_length]
    exact Ev.cst rfl
theorem closI (k : Nat) {to : List Int} {i : Int} (h : okI to i) : impl_Substituted_2.f k i to = some (one (subI to i)) := by
  unfold impl_Substituted_2.f
  rw [okI_dec h]; rfl
theorem implEnd {to : List Int} {t : tTermD} (h : t.1 = 1 ∨ t.1 = 3 → okI to t.2.1) : Ev (fun k => impl_endRenamed.f k t to) (((subTerm to t, ()), ())) := by
  unfold impl_endRenamed.f subTerm impl_endNames.f
  by_cases h1 : t.1 = 1
  · rw [dpos h1]
    exact Ev.bind (Ev.cst rfl) (Ev.dp (by simp) (Ev.bind (Ev.all fun k => closI k (h (Or.inl h1))) (Ev.cst rfl)))
  · rw [dneg h1]
    by_cases h3 : t.1 = 3
    · rw [dpos h3]
      exact Ev.bind (Ev.cst rfl) (Ev.dp (by simp) (Ev.bind (Ev.all fun k => closI k (h (Or.inr h3))) (Ev.cst rfl)))
    · rw [dneg h3]
      exact Ev.bind (Ev.cst rfl) (Ev.dn (by simp) (Ev.cst rfl))
section
variable {to : List Int} {a3 a4 a5 a6 a7 a8 : Int} {a9 : List Int} {o w A B C m : Int} {args : List Int} {ops : List Int} {r : impl_renamed.R}
theorem ren_end (e : r = ((((o, w, A, B, C, m, (), ()), ()), (args, ())) : impl_renamed.R)) : Ev (fun k => impl_renamed.l1 k (ops.length : Int) (ops.length : Int) to a3 a4 a5 a6 a7 a8 a9 o w A B C m args ops) r := by
  refine Ev.sk1 ?_
  show Ev (fun k => impl_renamed.l1_ k (impl_renamed.l0 k) (impl_renamed.l1 k) _ _ _ _ _ _ _ _ _ _ _ _ _ _ _ _ _ _) _
  simp only [impl_renamed.l1_, head_end, cond_false]
  rw [e]; exact Ev.cst rfl
theorem ren_0 (h0 : 0 < ops.length) (ho : okI to (ops.getD 0 0)) (e : Ev (fun k => impl_renamed.l1 k (ops.length : Int) 1 to a3 a4 a5 a6 a7 a8 a9 o w (subI to (ops.getD 0 0)) B C m args ops) r) : Ev (fun k => impl_renamed.l1 k (ops.length : Int) 0 to a3 a4 a5 a6 a7 a8 a9 o w A B C m args ops) r := by
  refine Ev.sk1 ?_
  show Ev (fun k => impl_renamed.l1_ k (impl_renamed.l0 k) (impl_renamed.l1 k) _ _ _ _ _ _ _ _ _ _ _ _ _ _ _ _ _ _) _
  unfold impl_renamed.l1_
  exact Ev.dp (by omega) (Ev.dd (by omega) (by omega) (Ev.dd (by omega) (by decide) (Ev.dp (by decide) (Ev.bind (Ev.all fun k => closI k ho) e))))
theorem ren_1 (h0 : 1 < ops.length) (ho : okI to (ops.getD 1 0)) (e : Ev (fun k => impl_renamed.l1 k (ops.length : Int) 2 to a3 a4 a5 a6 a7 a8 a9 o w A (subI to (ops.getD 1 0)) C m args ops) r) : Ev (fun k => impl_renamed.l1 k (ops.length : Int) 1 to a3 a4 a5 a6 a7 a8 a9 o w A B C m args ops) r := by
  refine Ev.sk1 ?_
  show Ev (fun k => impl_renamed.l1_ k (impl_renamed.l0 k) (impl_renamed.l1 k) _ _ _ _ _ _ _ _ _ _ _ _ _ _ _ _ _ _) _
  unfold impl_renamed.l1_
  exact Ev.dp (by omega) (Ev.dd (by omega) (by omega) (Ev.dd (by omega) (by decide) (Ev.dn (by decide) (Ev.dp (by decide) (Ev.bind (Ev.all fun k => closI k ho) e)))))
theorem ren_2 (h0 : 2 < ops.length) (ho : okI to (ops.getD 2 0)) (e : Ev (fun k => impl_renamed.l1 k (ops.length : Int) 3 to a3 a4 a5 a6 a7 a8 a9 o w A B (subI to (ops.getD 2 0)) m args ops) r) : Ev (fun k => impl_renamed.l1 k (ops.length : Int) 2 to a3 a4 a5 a6 a7 a8 a9 o w A B C m args ops) r := by
  refine Ev.sk1 ?_
  show Ev (fun k => impl_renamed.l1_ k (impl_renamed.l0 k) (impl_renamed.l1 k) _ _ _ _ _ _ _ _ _ _ _ _ _ _ _ _ _ _) _
  unfold impl_renamed.l1_
  exact Ev.dp (by omega) (Ev.dd (by omega) (by omega) (Ev.dd (by omega) (by decide) (Ev.dn (by decide) (Ev.dn (by decide) (Ev.dp (by decide) (Ev.bind (Ev.all fun k => closI k ho) e))))))
end
theorem implRen {to : List Int} {i : tInstD} (hs : i.2.2.2.2.2.2.1.length ≤ 1048576) (ho : ∀ id ∈ opsB i, okI to id) : Ev (fun k => impl_renamed.f k i to) (instR (subInst to i)) := by
  unfold impl_renamed.f
  refine Ev.bind (Ev.all fun k => implOwnInst k hs) ?_
  by_cases h26 : i.1 = 26
  · refine Ev.dp h26 ?_
    have ho' : ∀ id ∈ i.2.2.2.2.2.2.1, okI to id := by
      have : opsB i = i.2.2.2.2.2.2.1 := by unfold opsB inB; rw [h26]; rfl
      rw [← this]; exact ho
    have e : instR (subInst to i) = (((i.1, i.2.1, i.2.2.1, i.2.2.2.1, i.2.2.2.2.1, i.2.2.2.2.2.1, (), ()), ()), (i.2.2.2.2.2.2.1.map (subI to), ())) := by unfold subInst; rw [dpos h26]; rfl
    rw [e]
    refine st_loop (n0 := i.2.2.2.2.2.2.1.length) (L := fun k a s => impl_renamed.l0 k i.2.2.2.2.2.2.1 (i.2.2.2.2.2.2.1.length : Int) a to 0 0 0 0 0 0 [] i.1 i.2.1 i.2.2.1 i.2.2.2.1 i.2.2.2.2.1 i.2.2.2.2.2.1 s) (T := fun k s => some (((i.1, i.2.1, i.2.2.1, i.2.2.2.1, i.2.2.2.2.1, i.2.2.2.2.2.1, (), ()), ()), (s, ()))) (updS (subI to) i.2.2.2.2.2.2.1) (fun r e => Ev.sk1 ?_) (fun j r hlt e => Ev.sk1 ?_) ?_
    · show Ev (fun k => impl_renamed.l0_ k (impl_renamed.l0 k) (impl_renamed.l1 k) _ _ _ _ _ _ _ _ _ _ _ _ _ _ _ _ _ _) _
      simp only [impl_renamed.l0_, head_end, cond_false]
      exact e
    · show Ev (fun k => impl_renamed.l0_ k (impl_renamed.l0 k) (impl_renamed.l1 k) _ _ _ _ _ _ _ _ _ _ _ _ _ _ _ _ _ _) _
      simp only [impl_renamed.l0_, updS_len, head_in hlt, head_0, Bool.and_self, cond_true, Int.toNat_natCast, getD_at _ _ _ hlt, wrap_nat (show j < 9223372036854775807 by omega), fun k => closI k (ho' _ (List.getElem_mem hlt)), Option.bind_some]
      simp only [← updS_set (subI to) hlt] at e
      exact e
    · rw [updS_end]; exact Ev.cst rfl
  · refine Ev.dn h26 (Ev.bind (Ev.all fun k => implOps k hs) ?_)
    have e : subInst to i = (i.1, i.2.1, bif decide (0 < (opsB i).length) then subI to i.2.2.1 else i.2.2.1, bif decide (1 < (opsB i).length) then subI to i.2.2.2.1 else i.2.2.2.1, bif decide (2 < (opsB i).length) then subI to i.2.2.2.2.1 else i.2.2.2.2.1, i.2.2.2.2.2.1, i.2.2.2.2.2.2.1, ()) := by unfold subInst; rw [dneg h26]; rfl
    rw [e]
    rcases ops_forms h26 with h | h | h | h <;> rw [h] at ho ⊢
    · exact ren_end (ops := []) rfl
    · exact ren_0 (ops := [i.2.2.1]) (by simp) (ho _ (by simp)) (ren_end (ops := [i.2.2.1]) rfl)
    · exact ren_0 (ops := [i.2.2.1, i.2.2.2.1]) (by simp) (ho _ (by simp)) (ren_1 (ops := [i.2.2.1, i.2.2.2.1]) (by simp) (ho _ (by simp)) (ren_end (ops := [i.2.2.1, i.2.2.2.1]) rfl))
    · exact ren_0 (ops := [i.2.2.1, i.2.2.2.1, i.2.2.2.2.1]) (by simp) (ho _ (by simp)) (ren_1 (ops := [i.2.2.1, i.2.2.2.1, i.2.2.2.2.1]) (by simp) (ho _ (by simp)) (ren_2 (ops := [i.2.2.1, i.2.2.2.1, i.2.2.2.2.1]) (by simp) (ho _ (by simp)) (ren_end (ops := [i.2.2.1, i.2.2.2.1, i.2.2.2.2.1]) rfl)))
/-! ### substituted -/
def subB1 (to : List Int) (x : tBlockD) : tBlockD := (x.1.map (subPhi to), x.2.1.map (subInst to), x.2.2)
def subB2 (to : List Int) (x : tBlockD) : tBlockD := (x.1, x.2.1, subTerm to x.2.2)
section
variable {to : List Int} {r : impl_substituted.R} {a0 b n : Int} {a5 : Int} {a6 : List Int} {a7 : List tBlockD} {a8 : Int} {a9 : List Int} {a10 : List tBlockD} {a11 : Nat} {a12 a13 a14 a15 : Int}
theorem implPhiLoop {p : Nat} {phis : List tPhiD} {w w' : Int} {ins : List Int} {insts : List tInstD} {t1 t2 t3 t4 : Int} (hp : p ≤ 1048576) (hl : ins.length ≤ 1048576) (ho : ∀ id ∈ ins, okI to id)
    (e : Ev (fun k => impl_substituted.l1 k a0 b n ((p + 1 : Nat) : Int) to a5 a6 a7 a8 a9 a10 a11 a12 a13 a14 a15 (phis.set p (w, ins.map (subI to), ())) insts t1 t2 t3 t4) r) :
    Ev (fun k => impl_substituted.l2 k a0 b n (p : Int) (ins.length : Int) 0 to a5 a6 a7 a8 a9 a10 a11 a12 a13 a14 a15 phis p w ins insts t1 t2 t3 t4 w') r := by
  refine st_loop (n0 := ins.length) (L := fun k a s => impl_substituted.l2 k a0 b n (p : Int) (ins.length : Int) a to a5 a6 a7 a8 a9 a10 a11 a12 a13 a14 a15 phis p w s insts t1 t2 t3 t4 w') (T := fun k s => impl_substituted.l1 k a0 b n ((p + 1 : Nat) : Int) to a5 a6 a7 a8 a9 a10 a11 a12 a13 a14 a15 (phis.set p (w, s, ())) insts t1 t2 t3 t4) (updS (subI to) ins) (fun r e => Ev.sk1 ?_) (fun j r hlt e => Ev.sk1 ?_) ?_
  · show Ev (fun k => impl_substituted.l2_ k (impl_substituted.l0 k) (impl_substituted.l1 k) (impl_substituted.l2 k) (impl_substituted.l3 k) (impl_substituted.l4 k) _ _ _ _ _ _ _ _ _ _ _ _ _ _ _ _ _ _ _ _ _ _ _ _ _ _ _ _) _
    simp only [impl_substituted.l2_, head_end, cond_false, wrap_nat (show p < 9223372036854775807 by omega)]
    exact e
  · show Ev (fun k => impl_substituted.l2_ k (impl_substituted.l0 k) (impl_substituted.l1 k) (impl_substituted.l2 k) (impl_substituted.l3 k) (impl_substituted.l4 k) _ _ _ _ _ _ _ _ _ _ _ _ _ _ _ _ _ _ _ _ _ _ _ _ _ _ _ _) _
    simp only [impl_substituted.l2_, updS_len, head_in hlt, head_0, Bool.and_self, cond_true, Int.toNat_natCast, decide_true, updS_get (subI to) 0 hlt, wrap_nat (show j < 9223372036854775807 by omega), fun k => closI k (ho _ (List.getElem_mem hlt)), Option.bind_some]
    simp only [← updS_set (subI to) hlt] at e
    exact e
  · rw [updS_end]; exact e
theorem implPhisS {phis : List tPhiD} {insts : List tInstD} {t1 t2 t3 t4 : Int} (hl : Small (.list tPhi) phis) (ho : ∀ p ∈ phis, ∀ id ∈ p.2.1, okI to id)
    (e : Ev (fun k => impl_substituted.l3 k a0 b (insts.length : Int) 0 to a5 a6 a7 a8 a9 a10 a11 a12 a13 a14 a15 (phis.map (subPhi to)) insts t1 t2 t3 t4) r) :
    Ev (fun k => impl_substituted.l1 k a0 b (phis.length : Int) 0 to a5 a6 a7 a8 a9 a10 a11 a12 a13 a14 a15 phis insts t1 t2 t3 t4) r := by
  have hl1 : phis.length ≤ 1048576 := hl.1
  refine st_loop (n0 := phis.length) (L := fun k a s => impl_substituted.l1 k a0 b (phis.length : Int) a to a5 a6 a7 a8 a9 a10 a11 a12 a13 a14 a15 s insts t1 t2 t3 t4) (T := fun k s => impl_substituted.l3 k a0 b (insts.length : Int) 0 to a5 a6 a7 a8 a9 a10 a11 a12 a13 a14 a15 s insts t1 t2 t3 t4) (updS (subPhi to) phis) (fun r e => Ev.sk1 ?_) (fun j r hlt e => Ev.sk1 ?_) ?_
  · show Ev (fun k => impl_substituted.l1_ k (impl_substituted.l0 k) (impl_substituted.l1 k) (impl_substituted.l2 k) (impl_substituted.l3 k) (impl_substituted.l4 k) _ _ _ _ _ _ _ _ _ _ _ _ _ _ _ _ _ _ _ _ _ _) _
    simp only [impl_substituted.l1_, head_end, cond_false]
    exact e
  · show Ev (fun k => impl_substituted.l1_ k (impl_substituted.l0 k) (impl_substituted.l1 k) (impl_substituted.l2 k) (impl_substituted.l3 k) (impl_substituted.l4 k) _ _ _ _ _ _ _ _ _ _ _ _ _ _ _ _ _ _ _ _ _ _) _
    simp only [impl_substituted.l1_, updS_len, head_in hlt, head_0, Bool.and_self, cond_true, Int.toNat_natCast, decide_true, updS_get (subPhi to) _ hlt]
    refine implPhiLoop (by omega) (hl.2 _ (List.getElem_mem hlt)).2.1.1 (ho _ (List.getElem_mem hlt)) ?_
    simp only [← updS_set (subPhi to) hlt] at e
    exact e
  · rw [updS_end]; exact e
theorem implInstsS {i : Nat} {phis : List tPhiD} {insts : List tInstD} {t1 t2 t3 t4 : Int} (hi : i ≤ 1048576) (hl : Small (.list tInst) insts) (ho : ∀ x ∈ insts, ∀ id ∈ opsB x, okI to id)
    (e : Ev (fun k => impl_substituted.l0 k a0 ((i + 1 : Nat) : Int) to a5 a6 a7 a8 a9 (a10.set i (phis, insts.map (subInst to), a12, a13, a14, a15, ()))) r) :
    Ev (fun k => impl_substituted.l3 k a0 (i : Int) (insts.length : Int) 0 to a5 a6 a7 a8 a9 a10 i a12 a13 a14 a15 phis insts t1 t2 t3 t4) r := by
  have hl1 : insts.length ≤ 1048576 := hl.1
  refine st_loop (n0 := insts.length) (L := fun k a s => impl_substituted.l3 k a0 (i : Int) (insts.length : Int) a to a5 a6 a7 a8 a9 a10 i a12 a13 a14 a15 phis s t1 t2 t3 t4) (T := fun k s => impl_substituted.l0 k a0 ((i + 1 : Nat) : Int) to a5 a6 a7 a8 a9 (a10.set i (phis, s, a12, a13, a14, a15, ()))) (updS (subInst to) insts) (fun r e => Ev.sk1 ?_) (fun j r hlt e => Ev.sk1 ?_) ?_
  · show Ev (fun k => impl_substituted.l3_ k (impl_substituted.l0 k) (impl_substituted.l1 k) (impl_substituted.l2 k) (impl_substituted.l3 k) (impl_substituted.l4 k) _ _ _ _ _ _ _ _ _ _ _ _ _ _ _ _ _ _ _ _ _ _) _
    simp only [impl_substituted.l3_, head_end, cond_false, wrap_nat (show i < 9223372036854775807 by omega)]
    exact e
  · show Ev (fun k => impl_substituted.l3_ k (impl_substituted.l0 k) (impl_substituted.l1 k) (impl_substituted.l2 k) (impl_substituted.l3 k) (impl_substituted.l4 k) _ _ _ _ _ _ _ _ _ _ _ _ _ _ _ _ _ _ _ _ _ _) _
    simp only [impl_substituted.l3_, updS_len, head_in hlt, head_0, Bool.and_self, cond_true, Int.toNat_natCast, decide_true, updS_get (subInst to) _ hlt, wrap_nat (show j < 9223372036854775807 by omega)]
    refine Ev.bind (implRen (hl.2 _ (List.getElem_mem hlt)).2.2.2.2.2.2.1.1 (ho _ (List.getElem_mem hlt))) ?_
    simp only [← updS_set (subInst to) hlt] at e
    exact e
  · rw [updS_end]; exact e
end
theorem implSubst {to : List Int} {f : tFuncD} (h : SubOK to f) : Ev (fun k => impl_substituted.f k f to) ((((), f.2.1, (), ()), ()), (f.1, f.2.2.1.map (subB to), ())) := by
  have hb : f.2.2.1.length ≤ 1048576 := h.sm.2.2.1.1
  unfold impl_substituted.f
  refine Ev.bind (implOwnFunc h.sm) ?_
  refine st_loop (n0 := f.2.2.1.length) (L := fun k a s => impl_substituted.l0 k (f.2.2.1.length : Int) a to 0 [] [] f.2.1 f.1 s) (T := fun k s => impl_substituted.l4 k (s.length : Int) 0 to 0 [] [] f.2.1 f.1 s) (updS (subB1 to) f.2.2.1) (fun r e => Ev.sk1 ?_) (fun j r hlt e => Ev.sk1 ?_) ?_
  · show Ev (fun k => impl_substituted.l0_ k (impl_substituted.l0 k) (impl_substituted.l1 k) (impl_substituted.l2 k) (impl_substituted.l3 k) (impl_substituted.l4 k) _ _ _ _ _ _ _ _ _) _
    simp only [impl_substituted.l0_, head_end, cond_false]
    exact e
  · show Ev (fun k => impl_substituted.l0_ k (impl_substituted.l0 k) (impl_substituted.l1 k) (impl_substituted.l2 k) (impl_substituted.l3 k) (impl_substituted.l4 k) _ _ _ _ _ _ _ _ _) _
    simp only [impl_substituted.l0_, updS_len, head_in hlt, head_0, Bool.and_self, cond_true, Int.toNat_natCast, decide_true, updS_get (subB1 to) _ hlt]
    obtain ⟨q1, q2, q3, q4⟩ := h.bl _ (List.getElem_mem hlt)
    refine implPhisS q1.1 q2 (implInstsS (by omega) q1.2.1 q3 ?_)
    simp only [← updS_set (subB1 to) hlt] at e
    exact e
  · rw [updS_end]
    have e0 : f.2.2.1.map (subB to) = (f.2.2.1.map (subB1 to)).map (subB2 to) := by rw [List.map_map]; rfl
    have hl : (f.2.2.1.map (subB1 to)).length = f.2.2.1.length := List.length_map _
    have ht : ∀ x ∈ f.2.2.1.map (subB1 to), x.2.2.1 = 1 ∨ x.2.2.1 = 3 → okI to x.2.2.2.1 := fun x hx => by
      obtain ⟨y, hy, rfl⟩ := List.mem_map.1 hx
      exact (h.bl y hy).2.2.2
    rw [e0]
    generalize f.2.2.1.map (subB1 to) = bs at hl ht ⊢
    refine st_loop (n0 := bs.length) (L := fun k a s => impl_substituted.l4 k (bs.length : Int) a to 0 [] [] f.2.1 f.1 s) (T := fun k s => some ((((), f.2.1, (), ()), ()), (f.1, s, ()))) (updS (subB2 to) bs) (fun r e => Ev.sk1 ?_) (fun j r hlt e => Ev.sk1 ?_) ?_
    · show Ev (fun k => impl_substituted.l4_ k (impl_substituted.l0 k) (impl_substituted.l1 k) (impl_substituted.l2 k) (impl_substituted.l3 k) (impl_substituted.l4 k) _ _ _ _ _ _ _ _ _) _
      simp only [impl_substituted.l4_, head_end, cond_false]
      exact e
    · show Ev (fun k => impl_substituted.l4_ k (impl_substituted.l0 k) (impl_substituted.l1 k) (impl_substituted.l2 k) (impl_substituted.l3 k) (impl_substituted.l4 k) _ _ _ _ _ _ _ _ _) _
      simp only [impl_substituted.l4_, updS_len, head_in hlt, head_0, Bool.and_self, cond_true, Int.toNat_natCast, decide_true, updS_get (subB2 to) _ hlt, wrap_nat (show j < 9223372036854775807 by omega)]
      refine Ev.bind (implEnd (ht _ (List.getElem_mem hlt))) ?_
      simp only [← updS_set (subB2 to) hlt] at e
      exact e
    · rw [updS_end]; exact Ev.cst rfl
end Go.Proofs.Ytkfehogikjcgkaa.V
namespace Go.Proofs.Ytkfehogikjcgkaa.V
open Go
set_option linter.unusedVariables false
set_option linter.unusedSimpArgs false
theorem Fm.subOK {funcs : Int} {f : tFuncD} (h : Fm funcs f) (hs : Small tFunc f) {to : List Int} (ht : (to.length : Int) = cntB f) : SubOK to f where
  sm := hs
  bl := fun x hx => ⟨hs.2.2.1.2 x hx, fun p hp id hi => by
      have := h.vp hx hp hi
      exact ⟨this.1, by rw [ht]; exact this.2⟩, fun i hi id ho => by
      have := (h.vo hx hi).2 id ho
      exact ⟨this.1, by rw [ht]; exact this.2⟩, fun ht1 => by
      have := h.vt hx ht1
      exact ⟨this.1, by rw [ht]; exact this.2⟩⟩
theorem subInst_args (to : List Int) (i : tInstD) : (subInst to i).2.2.2.2.2.2.1.length = i.2.2.2.2.2.2.1.length := by
  unfold subInst
  cases decide (i.1 = 26)
  · rfl
  · exact List.length_map _
theorem subB_small {to : List Int} {x : tBlockD} (h : Small tBlock x) : Small tBlock (subB to x) := by
  refine ⟨⟨by show (x.1.map (subPhi to)).length ≤ _; rw [List.length_map]; exact h.1.1, fun p hp => ?_⟩, ⟨by show (x.2.1.map (subInst to)).length ≤ _; rw [List.length_map]; exact h.2.1.1, fun i hi => ?_⟩, h.2.2⟩
  · obtain ⟨q, hq, rfl⟩ := List.mem_map.1 (show p ∈ x.1.map (subPhi to) from hp)
    exact ⟨trivial, ⟨by show (q.2.1.map (subI to)).length ≤ _; rw [List.length_map]; exact (h.1.2 q hq).2.1.1, fun _ _ => trivial⟩, trivial⟩
  · obtain ⟨q, hq, rfl⟩ := List.mem_map.1 (show i ∈ x.2.1.map (subInst to) from hi)
    exact ⟨trivial, trivial, trivial, trivial, trivial, trivial, ⟨by show (subInst to q).2.2.2.2.2.2.1.length ≤ _; rw [subInst_args]; exact (h.2.1.2 q hq).2.2.2.2.2.2.1.1, fun _ _ => trivial⟩, trivial⟩
theorem subF_small {to : List Int} {f : tFuncD} (h : Small tFunc f) : Small tFunc (subF to f) := by
  refine ⟨h.1, trivial, ⟨by show (f.2.2.1.map (subB to)).length ≤ _; rw [List.length_map]; exact h.2.2.1.1, fun x hx => ?_⟩, trivial⟩
  obtain ⟨y, hy, rfl⟩ := List.mem_map.1 (show x ∈ f.2.2.1.map (subB to) from hx)
  exact subB_small (h.2.2.1.2 y hy)
/-- A function and whether there is one, as it is returned. -/
abbrev fR (c : Bool) (g : tFuncD) : (((Unit × Int × Unit × Unit) × (Bool × Unit) × Unit) × ((List Int) × (List tBlockD) × Unit)) := ((((), g.2.1, (), ()), (c, ()), ()), (g.1, g.2.2.1, ()))
def noF : tFuncD := ([], 0, [], ())
theorem noF_small : Small tFunc noF := ⟨⟨by show (0:Nat) ≤ _; omega, fun _ h => by cases h⟩, trivial, ⟨by show (0:Nat) ≤ _; omega, fun _ h => by cases h⟩, trivial⟩
end Go.Proofs.Ytkfehogikjcgkaa.V
namespace Go.Proofs.Ytkfehogikjcgkaa.V
open Go
set_option linter.unusedVariables false
set_option linter.unusedSimpArgs false
def subC (f : tFuncD) (to : List Int) : Bool := funcB 3 f && (decide ((to.length : Int) = cntB f) && to.all (inB 0 (cntB f - 1)))
def subG (f : tFuncD) (to : List Int) : tFuncD := bif subC f to then subF to f else noF
section
variable {f : tFuncD} {to : List Int}
theorem subG_small (h : Small tFunc f) : Small tFunc (subG f to) := by
  unfold subG
  cases subC f to
  · exact noF_small
  · exact subF_small h
theorem specIds (hs : Small tFunc f) (ht : to.length ≤ 1048576) (ho : SubOK to f) : Ev (fun k => spec_Substituted.l0 k to 0 f 0 [] []) (bif to.all (inB 0 (cntB f - 1)) then fR true (subF to f) else fR false noF) := by
  obtain ⟨c0, c1⟩ := cntB_le hs
  refine each_ev (z := 0) (l := to) (V := fun m => bif m.all (inB 0 (cntB f - 1)) then fR true (subF to f) else fR false noF) (L := fun k a => spec_Substituted.l0 k to a f 0 [] []) (q := fun k x g => Option.bind (spec_CountOf.f k f) fun r1 => Option.bind (spec_l1In.f k x 0 (IntKind.wrap .i64 (r1.1.1.1 - 1))) fun r2 => bif !r2.1.1.1 then (some ((((), 0, (), ()), (false, ()), ()), (([] : List Int), ([] : List tBlockD), ()))) else g k) (tail := fun k => Option.bind (spec_l8Subst.f k f to) fun r3 => some ((((), r3.1.1.2.1, (), ()), (true, ()), ()), (r3.2.1, r3.2.2.1, ()))) (by omega) (fun k a => rfl) (Ev.bind (specSubst ho) (Ev.cst rfl)) fun x m g _ hg => ?_
  refine Ev.bind (specCount hs) (Ev.bind (Ev.all fun k => specIn k x 0 _) ?_)
  rw [wrap_id (x := cntB f - 1) (by omega) (by omega)]
  rw [List.all_cons]
  cases hx : inB 0 (cntB f - 1) x with
  | false => exact Ev.pos rfl (Ev.cst rfl)
  | true => exact Ev.neg rfl hg
theorem specSubstituted (hs : Small tFunc f) (ht : to.length ≤ 1048576) : Ev (fun k => spec_Substituted.f k f to) (fR (subC f to) (subG f to)) := by
  unfold spec_Substituted.f subG subC
  refine Ev.bind (specFunc hs (by omega) (by omega)) ?_
  cases hf : funcB 3 f with
  | false => exact Ev.pos rfl (Ev.cst rfl)
  | true =>
    refine Ev.neg rfl (Ev.bind (specCount hs) ?_)
    by_cases hl : (to.length : Int) = cntB f
    · refine Ev.sk hl ?_
      rw [dpos hl]
      refine (specIds hs ht ((Fm.of hf).subOK hs hl)).rw ?_
      cases to.all (inB 0 (cntB f - 1)) <;> rfl
    · refine Ev.pos (by rw [dneg hl]; rfl) ?_
      rw [dneg hl]
      exact Ev.cst rfl
theorem implIdsF (hs : Small tFunc f) (ht : to.length ≤ 1048576) : Ev (fun k => slices_ContainsFunc_int64_int64_5.f k to f) (one (!to.all (inB 0 (cntB f - 1)))) := by
  obtain ⟨c0, c1⟩ := cntB_le hs
  rw [← any_not]
  exact index_ev (z := 0) (L := fun k b a => slices_IndexFunc_int64_int64_5.l0 k to b a f) (q := fun k x => impl_Substituted_1.f k x f) (by omega) (fun k b a => rfl) fun x _ => by
    unfold impl_Substituted_1.f impl_isId.f
    refine Ev.bind (a := one (inB 0 (cntB f - 1) x)) (Ev.bind (implCount hs) (Ev.bind (Ev.all fun k => implIn k x 0 _) (Ev.cst ?_))) (Ev.cst rfl)
    rw [wrap_id (x := cntB f - 1) (by omega) (by omega)]
theorem implSubstituted (hs : Small tFunc f) (ht : to.length ≤ 1048576) : Ev (fun k => impl_Substituted.f k f to) (fR (subC f to) (subG f to)) := by
  unfold impl_Substituted.f subG subC
  refine Ev.bind (a := one (funcB 3 f)) (Ev.bind (implFunc hs (by omega) (by omega)) (Ev.cst rfl)) ?_
  cases hf : funcB 3 f with
  | false => exact Ev.pos rfl (Ev.cst rfl)
  | true =>
    refine Ev.neg rfl (Ev.bind (implCount hs) ?_)
    by_cases hl : (to.length : Int) = cntB f
    · refine Ev.sk hl (Ev.bind (implIdsF hs ht) ?_)
      rw [dpos hl]
      cases to.all (inB 0 (cntB f - 1)) with
      | false => exact Ev.pos rfl (Ev.cst rfl)
      | true => exact Ev.neg rfl (Ev.bind (implSubst ((Fm.of hf).subOK hs hl)) (Ev.cst rfl))
    · refine Ev.pos (by rw [dneg hl]; rfl) ?_
      rw [dneg hl]
      exact Ev.cst rfl
end
end Go.Proofs.Ytkfehogikjcgkaa.V
namespace Go.Proofs.Ytkfehogikjcgkaa.V
open Go
theorem PureFnExactSubstituted : ∀ (a0 : tFuncD) (a1 : List Int), Wf tFunc a0 → Wf (.list (.int .i64)) a1 → ∃ k, laws_FnExactSubstituted.f k a0 a1 = some (((true, ()), ()), ()) := by
  intro a to hw hwt
  refine Ev.ex (g := fun k => laws_FnExactSubstituted.f k a to) ?_
  unfold laws_FnExactSubstituted.f
  by_cases hbig : (1048576 : Int) < (to.length : Int)
  · exact Ev.dp hbig (Ev.cst rfl)
  have ht : to.length ≤ 1048576 := by omega
  have hts : Small (.list (.int .i64)) to := ⟨ht, fun _ _ => trivial⟩
  refine Ev.dn hbig ?_
  obtain ⟨s, e, _, s2, c⟩ := szFunc a hw 1048576 (by omega) (by omega)
  refine Ev.bind e ?_
  by_cases hs : s < 0
  · exact Ev.pos (dpos hs) (Ev.cst rfl)
  have h := c (by omega)
  have hg : Small tFunc (subG a to) := subG_small h
  obtain ⟨n1, p1, b1, em, hn1, hn2, _⟩ := markHeld a.2.1 h.1 h.2.2.1
  obtain ⟨n2, p2, b2, em2, hn3, hn4, eh⟩ := markHeld (subG a to).2.1 hg.1 hg.2.2.1
  have heq : (!decide (n2 = n2)) = false := by simp
  have hb : (!(subC a to == subC a to)) = false := by simp
  refine Ev.neg (dneg hs) (Ev.bind (toFunc h) (Ev.bind (toInts hts) (Ev.bind (specSubstituted h ht) (Ev.bind (toFunc h) (Ev.bind (toInts hts) (Ev.bind (implSubstituted h ht) (Ev.yes (eqFunc hg) (Ev.neg hb (Ev.bind (toFunc h) (Ev.yes (eqFunc h) (Ev.bind (toInts hts) (Ev.yes (eqInts hts) (Ev.bind em ?_)))))))))))))
  refine Ev.bind (markInts to n1 ht hn1 (by omega)) (Ev.dn (show ¬ n1 + (to.length : Int) < 0 by omega) (Ev.yes (eqFunc hg) (Ev.neg hb (Ev.bind em2 (Ev.bind eh (Ev.dn (show ¬ n2 < 0 by omega) (Ev.neg heq ?_)))))))
  exact Ev.bind (toFunc h) (Ev.bind (toInts hts) (Ev.bind (implSubstituted h ht) (Ev.yes (eqFunc hg) (Ev.neg hb (Ev.bind eh (Ev.dn (show ¬ n2 < 0 by omega) (Ev.neg heq (Ev.cst rfl))))))))
end Go.Proofs.Ytkfehogikjcgkaa.V
