/- PROVED HERE: what the functions that the law FnExactReadInst reaches do in memory, each as a plain Lean function, and what these tell: part 4 of 5 of the proof of that law; no condition beyond those written out at each theorem. -/
import Derived.Lib.SplitLaws
import Derived.Lib.ParseIntB
import Derived.Stop.LaidErr
import Derived.Test.YtlledfaplcgmdaaDoorZFnExactReadInst2
namespace Go.Proofs.YtlledfaplcgmdaaDoor.V
open Go
set_option linter.unusedVariables false
set_option linter.unusedSimpArgs false
noncomputable section
theorem Ev.sc {R : Type} {g : Nat → Option R} {r : R} (h : Ev (fun k => g (k + 1)) r) : Ev g r := Ev.step h fun _ => rfl
abbrev MkR (α : Type) := (((Int × Unit) × Unit) × (α × Unit))
abbrev mkr {α : Type} (n : Int) (l : α) : MkR α := (((n, ()), ()), (l, ()))
/-- The numbers n, n + 1, .. -/
def upFrom : Int → Nat → List Int
 | _, 0 => []
 | n, d + 1 => n :: upFrom (n + 1) d
theorem markInts_l : ∀ (d i : Nat) (pre : List Int) (l : List Int) (n : Int), pre.length = i → l.length = d → i + d ≤ 1048576 → 0 ≤ n → n + (d : Int) ≤ 9223372036854775807 → Ev (fun k => U44.l0 k n (i : Int) (pre ++ l)) (mkr (n + (d : Int)) (pre ++ upFrom n d)) := by
 intro d
 induction d with
 | zero =>
  intro i pre l n hi hl h1 h0 hM
  obtain rfl : l = [] := List.eq_nil_of_length_eq_zero hl
  subst hi
  refine Ev.step (g' := fun _ => some (mkr (n + 0) (pre ++ []))) (Ev.cst rfl) fun k => ?_
  show U44.l0_ k (U44.l0 k) n _ (pre ++ []) = _
  unfold U44.l0_
  simp
 | succ d ih =>
  intro i pre l n hi hl h1 h0 hM
  obtain ⟨x, l, rfl⟩ : ∃ x m, l = x :: m := by
   cases l with
   | nil => simp at hl
   | cons x m => exact ⟨x, m, rfl⟩
  subst hi
  have hlt : pre.length < (pre ++ x :: l).length := by simp
  refine Ev.sc ?_
  show Ev (fun k => U44.l0_ k (U44.l0 k) n _ (pre ++ x :: l)) _
  unfold U44.l0_
  simp only [head_in hlt, head_0, Bool.and_self, cond_true, Int.toNat_natCast, wrap_nat (show pre.length < 9223372036854775807 by omega), wrap_id (x := n + 1) (by omega) (by omega)]
  have e : (pre ++ x :: l).set pre.length n = (pre ++ [n]) ++ l := by simp
  rw [e]
  refine (ih (pre.length + 1) (pre ++ [n]) l (n + 1) (by simp) (by simpa using hl) (by omega) (by omega) (by omega)).rw ?_
  have e1 : n + 1 + (d : Int) = n + ((d + 1 : Nat) : Int) := by omega
  simp [upFrom, e1]
theorem markInts (l : List Int) (n : Int) (hl : l.length ≤ 1048576) (h0 : 0 ≤ n) (hM : n + (l.length : Int) ≤ 9223372036854775807) : Ev (fun k => U44.f k n l) (mkr (n + (l.length : Int)) (upFrom n l.length)) :=
 markInts_l l.length 0 [] l n rfl rfl (by omega) h0 hM
theorem heldInts_l : ∀ (d i : Nat) (pre : List Int) (n : Int), pre.length = i → i + d ≤ 1048576 → 0 ≤ n → n + (d : Int) ≤ 9223372036854775807 → Ev (fun k => U46.l0 k (pre ++ upFrom n d) n (i : Int)) (one (n + (d : Int))) := by
 intro d
 induction d with
 | zero =>
  intro i pre n hi h1 h0 hM
  subst hi
  refine Ev.step (g' := fun _ => some (one (n + 0))) (Ev.cst rfl) fun k => ?_
  show U46.l0_ k (U46.l0 k) (pre ++ []) n _ = _
  unfold U46.l0_
  simp
 | succ d ih =>
  intro i pre n hi h1 h0 hM
  subst hi
  have hlt : pre.length < (pre ++ n :: upFrom (n + 1) d).length := by simp
  refine Ev.sc ?_
  show Ev (fun k => U46.l0_ k (U46.l0 k) (pre ++ n :: upFrom (n + 1) d) n _) _
  unfold U46.l0_
  simp only [head_in hlt, head_0, Bool.and_self, cond_true, get_in hlt, wrap_nat (show pre.length < 9223372036854775807 by omega), wrap_id (x := n + 1) (by omega) (by omega)]
  refine Ev.neg (by simp) ?_
  have e : pre ++ n :: upFrom (n + 1) d = (pre ++ [n]) ++ upFrom (n + 1) d := by simp
  rw [e]
  refine (ih (pre.length + 1) (pre ++ [n]) (n + 1) (by simp) (by omega) (by omega) (by omega)).rw ?_
  have e1 : n + 1 + (d : Int) = n + ((d + 1 : Nat) : Int) := by omega
  rw [e1]
theorem heldInts (n : Int) (d : Nat) (hl : d ≤ 1048576) (h0 : 0 ≤ n) (hM : n + (d : Int) ≤ 9223372036854775807) : Ev (fun k => U46.f k (upFrom n d) n) (one (n + (d : Int))) :=
 heldInts_l d 0 [] n rfl (by omega) h0 hM
def inB (lo hi x : Int) : Bool := decide (lo ≤ x) && decide (x ≤ hi)
def wOk (w : Int) : Bool := decide (w = 1) || decide (w = 8) || decide (w = 16) || decide (w = 32)
def opsB (i : tInstD) : List Int :=
 bif inB 1 17 i.1 then [i.2.2.1, i.2.2.2.1] else bif decide (i.1 = 24) then [i.2.2.1, i.2.2.2.1] else bif inB 18 20 i.1 then [i.2.2.1] else bif decide (i.1 = 23) then [i.2.2.1] else bif decide (i.1 = 25) then [i.2.2.1] else bif decide (i.1 = 27) then [i.2.2.1] else
 bif decide (i.1 = 22) then [i.2.2.1, i.2.2.2.1, i.2.2.2.2.1] else bif decide (i.1 = 26) then i.2.2.2.2.2.2.1 else []
theorem specIn (k : Nat) (a lo hi : Int) : U5.f k a lo hi = some (one (inB lo hi a)) := by
 unfold U5.f inB
 cases decide (lo ≤ a) <;> rfl
theorem implIn (k : Nat) (a lo hi : Int) : U22.f k a lo hi = some (one (inB lo hi a)) := by
 unfold U22.f inB
 cases decide (lo ≤ a) <;> rfl
theorem specW (k : Nat) (a : Int) : U8.f k a = some (one (wOk a)) := by
 unfold U8.f wOk
 cases decide (a = 1) <;> cases decide (a = 8) <;> cases decide (a = 16) <;> rfl
theorem implW (k : Nat) (a : Int) : U33.f k a = some (one (wOk a)) := by
 unfold U33.f wOk
 cases decide (a = 1) <;> cases decide (a = 8) <;> cases decide (a = 16) <;> rfl
theorem specCopy (k : Nat) {l : List Int} (h : l.length ≤ 1048576) : U6.f k l = some (rowR l) := by
 unfold U6.f
 rw [dpos (by simp; omega)]; rfl
theorem implClone (k : Nat) {l : List Int} (h : l.length ≤ 1048576) : slices_Clone_int64_int64.f k l = some (rowR l) := by
 unfold slices_Clone_int64_int64.f cloneF
 rw [dpos (by omega)]; rfl
theorem specOps (k : Nat) {i : tInstD} (h : i.2.2.2.2.2.2.1.length ≤ 1048576) : U7.f k i = some (rowR (opsB i)) := by
 unfold U7.f opsB
 simp only [specIn, specCopy k h, Option.bind_some]
 cases inB 1 17 i.1
 ·cases decide (i.1 = 24)
  ·cases inB 18 20 i.1
   ·cases decide (i.1 = 23)
    ·cases decide (i.1 = 25)
     ·cases decide (i.1 = 27)
      ·cases decide (i.1 = 22)
       ·cases decide (i.1 = 26) <;> rfl
       ·rfl
      ·rfl
     ·rfl
    ·rfl
   ·rfl
  ·rfl
 ·rfl
theorem implBin (k : Nat) (a : Int) : U23.f k a = some (one (inB 1 17 a)) := by
 unfold U23.f
 rw [implIn]; rfl
theorem implCast (k : Nat) (a : Int) : U24.f k a = some (one (inB 18 20 a)) := by
 unfold U24.f
 rw [implIn]; rfl
theorem implOps (k : Nat) {i : tInstD} (h : i.2.2.2.2.2.2.1.length ≤ 1048576) : U25.f k i = some (rowR (opsB i)) := by
 unfold U25.f opsB
 simp only [implBin, implCast, implClone k h, Option.bind_some]
 cases inB 1 17 i.1
 ·cases decide (i.1 = 24)
  ·cases inB 18 20 i.1
   ·cases decide (i.1 = 23)
    ·cases decide (i.1 = 25)
     ·cases decide (i.1 = 27)
      ·cases decide (i.1 = 22)
       ·cases decide (i.1 = 26) <;> rfl
       ·rfl
      ·rfl
     ·rfl
    ·rfl
   ·rfl
  ·rfl
 ·rfl
def topOf (w : Int) : Int := bif decide (w = 1) then 1 else bif decide (w = 8) then 255 else bif decide (w = 16) then 65535 else 4294967295
def valB (w x : Int) : Bool := wOk w && inB 0 (topOf w) x
theorem wOk_cases {w : Int} (h : wOk w = true) : w = 1 ∨ w = 8 ∨ w = 16 ∨ w = 32 := by
 simp only [wOk, Bool.or_eq_true, decide_eq_true_eq] at h
 omega
theorem specVal (k : Nat) (w x : Int) : U10.f k w x = some (one (valB w x)) := by
 unfold U10.f valB
 simp only [specW, Option.bind_some]
 cases h : wOk w with
 | false => rfl
 | true => rcases wOk_cases h with rfl | rfl | rfl | rfl <;> (unfold U9.f; simp only [specIn]; rfl)
theorem implVal (k : Nat) (w x : Int) : U36.f k w x = some (one (valB w x)) := by
 unfold U36.f valB
 simp only [implW, Option.bind_some]
 cases h : wOk w with
 | false => rfl
 | true => rcases wOk_cases h with rfl | rfl | rfl | rfl <;> (unfold U35.f; simp only [implIn]; rfl)
def widB (i : tInstD) : Bool := bif decide (i.1 = 24) || decide (i.1 = 25) then decide (i.2.1 = 0) else bif decide (i.1 = 23) then decide (i.2.1 = 8) else wOk i.2.1
def immB (i : tInstD) (funcs : Int) : Bool := bif decide (i.1 = 21) then valB i.2.1 i.2.2.2.2.2.1 else bif decide (i.1 = 26) then inB 0 (funcs - 1) i.2.2.2.2.2.1 else decide (i.2.2.2.2.2.1 = 0)
def named (i : tInstD) : Nat := bif decide (i.1 = 26) then 0 else (opsB i).length
def zerosB (i : tInstD) : Bool := ([i.2.2.1, i.2.2.2.1, i.2.2.2.2.1].drop (named i)).all fun n => decide (n = 0)
def instB (count funcs : Int) (i : tInstD) : Bool :=
 inB 1 27 i.1 && decide (i.2.2.2.2.2.2.1.length ≤ 4) && (decide (i.2.2.2.2.2.2.1.length = 0) || decide (i.1 = 26)) && (opsB i).all (inB 0 (count - 1)) && zerosB i && widB i && immB i funcs
theorem implWid (k : Nat) (i : tInstD) : U34.f k i = some (one (widB i)) := by
 unfold U34.f widB
 simp only [implW, Option.bind_some]
 by_cases h : i.1 = 24
 ·simp [h]
 ·by_cases h2 : i.1 = 25
  ·simp [h2]
  ·simp only [dneg h, dneg h2, cond_false, Bool.or_self]
   cases decide (i.1 = 23) <;> rfl
theorem implImm (k : Nat) (i : tInstD) {funcs : Int} (h0 : 0 ≤ funcs) (h1 : funcs ≤ 9223372036854775807) : U37.f k i funcs = some (one (immB i funcs)) := by
 unfold U37.f immB
 simp only [implVal, implIn, Option.bind_some, wrap_id (show -9223372036854775808 ≤ funcs - 1 by omega) (show funcs - 1 ≤ 9223372036854775807 by omega)]
 cases decide (i.1 = 21) <;> cases decide (i.1 = 26) <;> rfl
theorem any_not {α : Type} {p : α → Bool} : ∀ {l : List α}, (l.any fun x => !p x) = !l.all p
 | [] => rfl
 | x :: l => by simp only [List.any_cons, List.all_cons, any_not (l := l), Bool.not_and]
theorem implIn1 {l : List Int} (h : l.length ≤ 1048576) {count : Int} (h0 : 0 ≤ count) (h1 : count ≤ 9223372036854775807) : Ev (fun k => U29.f k l count) (one (!l.all (inB 0 (count - 1)))) := by
 rw [← any_not]
 exact index_ev (z := 0) (L := fun k b a => U28.l0 k l b a count) (q := fun k x => U27.f k x count) (by omega) (fun k b a => rfl) fun x _ => Ev.all fun k => by
  unfold U27.f
  rw [implIn, wrap_id (by omega) (by omega)]; rfl
theorem implZero {l : List Int} (h : l.length ≤ 1048576) : Ev (fun k => U32.f k l) (one (!l.all fun n => decide (n = 0))) := by
 rw [← any_not]
 exact index_ev (z := 0) (L := fun k b a => U31.l0 k l b a) (q := fun k x => U30.f k x) (by omega) (fun k b a => rfl) fun x _ => Ev.all fun k => rfl
theorem opsB_len {i : tInstD} (h : i.2.2.2.2.2.2.1.length ≤ 1048576) : (opsB i).length ≤ 1048576 := by
 unfold opsB
 cases inB 1 17 i.1 <;> cases decide (i.1 = 24) <;> cases inB 18 20 i.1 <;> cases decide (i.1 = 23) <;> cases decide (i.1 = 25) <;> cases decide (i.1 = 27) <;> cases decide (i.1 = 22) <;> cases decide (i.1 = 26) <;> simp only [cond_true, cond_false, List.length_cons, List.length_nil] <;> omega
theorem opsB_few {i : tInstD} (h : i.1 ≠ 26) : (opsB i).length ≤ 3 := by
 unfold opsB
 rw [dneg h]
 cases inB 1 17 i.1 <;> cases decide (i.1 = 24) <;> cases inB 18 20 i.1 <;> cases decide (i.1 = 23) <;> cases decide (i.1 = 25) <;> cases decide (i.1 = 27) <;> cases decide (i.1 = 22) <;> simp
theorem ev_and {g : Nat → Option BR} {b c : Bool} (h : Ev g (one c)) : Ev (fun k => bif !b then some (one false) else g k) (one (b && c)) := by
 cases b with
 | true => exact Ev.neg rfl h
 | false => exact Ev.pos rfl (Ev.cst rfl)
/-- What comes behind the operands, in the program. -/
theorem implTail {i : tInstD} {l : List Int} (hl : l.length ≤ 1048576) {funcs : Int} (h0 : 0 ≤ funcs) (h1 : funcs ≤ 9223372036854775807) : Ev (fun k => Option.bind (U32.f k l) fun r4 => bif r4.1.1.1 then some (((false, ()), ()), ()) else Option.bind (U34.f k i) fun r5 => bif r5.1.1.1 then Option.bind (U37.f k i funcs) fun r6 => some (((r6.1.1.1, ()), ()), ()) else some (((false, ()), ()), ())) (one ((l.all fun n => decide (n = 0)) && widB i && immB i funcs)) := by
 refine Ev.bind (implZero hl) ?_
 cases l.all fun n => decide (n = 0) with
 | false => exact Ev.cst rfl
 | true =>
  refine Ev.all fun k => ?_
  simp only [implWid, implImm k i h0 h1, Option.bind_some]
  cases widB i <;> cases immB i funcs <;> rfl
theorem implInst {i : tInstD} (hs : i.2.2.2.2.2.2.1.length ≤ 1048576) {count funcs : Int} (h0 : 0 ≤ count) (h1 : count ≤ 9223372036854775807) (h2 : 0 ≤ funcs) (h3 : funcs ≤ 9223372036854775807) : Ev (fun k => U38.f k i count funcs) (one (instB count funcs i)) := by
 have rest : i.1 = 26 ∨ i.1 ≠ 26 → Ev (fun k => Option.bind (U25.f k i) fun r2 => Option.bind (U29.f k r2.2.1 count) fun r3 => bif r3.1.1.1 then some (((false, ()), ()), ()) else
   bif decide (i.1 = 26) then (bif (decide ((0 : Int) ≤ 0)) && (decide ((0 : Int) ≤ ((List.length [i.2.2.1, i.2.2.2.1, i.2.2.2.2.1] : Nat) : Int))) then (Option.bind (U32.f k [i.2.2.1, i.2.2.2.1, i.2.2.2.2.1]) fun r4 => bif r4.1.1.1 then some (((false, ()), ()), ()) else Option.bind (U34.f k i) fun r5 => bif r5.1.1.1 then Option.bind (U37.f k i funcs) fun r6 => some (((r6.1.1.1, ()), ()), ()) else some (((false, ()), ()), ())) else none)
   else (bif (decide (0 ≤ ((List.length r2.2.1 : Nat) : Int))) && (decide (((List.length r2.2.1 : Nat) : Int) ≤ ((List.length [i.2.2.1, i.2.2.2.1, i.2.2.2.2.1] : Nat) : Int))) then (Option.bind (U32.f k (List.drop (Int.toNat ((List.length r2.2.1 : Nat) : Int)) [i.2.2.1, i.2.2.2.1, i.2.2.2.2.1])) fun r4 => bif r4.1.1.1 then some (((false, ()), ()), ()) else Option.bind (U34.f k i) fun r5 => bif r5.1.1.1 then Option.bind (U37.f k i funcs) fun r6 => some (((r6.1.1.1, ()), ()), ()) else some (((false, ()), ()), ())) else none))
   (one ((opsB i).all (inB 0 (count - 1)) && (zerosB i && widB i && immB i funcs))) := by
  intro hd
  refine Ev.bind (Ev.all fun k => implOps k hs) (Ev.bind (implIn1 (opsB_len hs) h0 h1) ?_)
  cases (opsB i).all (inB 0 (count - 1)) with
  | false => exact Ev.cst rfl
  | true =>
   rcases hd with hd | hd
   ·refine Ev.neg rfl (Ev.pos (dpos hd) (Ev.pos rfl ?_))
    have := implTail (i := i) (l := [i.2.2.1, i.2.2.2.1, i.2.2.2.2.1]) (by simp) h2 h3
    refine this.rw ?_
    unfold zerosB named
    rw [dpos hd]; rfl
   ·refine Ev.neg rfl (Ev.neg (dneg hd) (Ev.pos ?_ ?_))
    ·have := opsB_few hd
     show (decide (0 ≤ ((opsB i).length : Int)) && decide (((opsB i).length : Int) ≤ 3)) = true
     rw [dpos (by omega), dpos (by omega)]; rfl
    ·have := implTail (i := i) (l := List.drop (opsB i).length [i.2.2.1, i.2.2.2.1, i.2.2.2.2.1]) (by simp; omega) h2 h3
     refine this.rw ?_
     unfold zerosB named
     rw [dneg hd]; rfl
 have rest := rest (Decidable.em _)
 unfold U38.f
 refine Ev.bind (Ev.all fun k => implIn k _ _ _) ?_
 unfold instB
 generalize hz : ((opsB i).all (inB 0 (count - 1)) && (zerosB i && widB i && immB i funcs)) = zz at rest
 have hzz : ∀ b c d : Bool, (b && c && d && (opsB i).all (inB 0 (count - 1)) && zerosB i && widB i && immB i funcs) = (b && c && d && zz) := fun b c d => by rw [← hz]; simp only [Bool.and_assoc]
 rw [hzz]
 cases inB 1 27 i.1 with
 | false => exact Ev.pos rfl (Ev.cst rfl)
 | true =>
  refine Ev.neg rfl ?_
  by_cases h4 : 4 < ((i.2.2.2.2.2.2.1.length : Nat) : Int)
  ·refine Ev.pos (dpos h4) (Ev.cst ?_)
   rw [dneg (show ¬ i.2.2.2.2.2.2.1.length ≤ 4 by omega)]; rfl
  ·refine Ev.neg (dneg h4) ?_
   rw [dpos (show i.2.2.2.2.2.2.1.length ≤ 4 by omega)]
   by_cases h5 : 0 < ((i.2.2.2.2.2.2.1.length : Nat) : Int)
   ·refine Ev.pos (dpos h5) ?_
    rw [dneg (show ¬ i.2.2.2.2.2.2.1.length = 0 by omega)]
    by_cases h6 : i.1 = 26
    ·exact Ev.neg (by rw [dpos h6]; rfl) (rest.rw (by rw [dpos h6]; rfl))
    ·exact Ev.pos (by rw [dneg h6]; rfl) (Ev.cst (by rw [dneg h6]; rfl))
   ·refine Ev.neg (dneg h5) (rest.rw ?_)
    rw [dpos (show i.2.2.2.2.2.2.1.length = 0 by omega)]; rfl
theorem zeros_at {a b c : Int} : ∀ n : Nat, ([a, b, c].drop n).all (fun n => decide (n = 0)) = ((bif decide ((n : Int) < 1) then decide (a = 0) else true) && (bif decide ((n : Int) < 2) then decide (b = 0) else true) && (bif decide ((n : Int) < 3) then decide (c = 0) else true))
 | 0 => by simp [Bool.and_assoc]
 | 1 => by simp
 | 2 => by simp
 | n + 3 => by
  rw [dneg (show ¬ (((n + 3 : Nat) : Int) < 1) by omega), dneg (show ¬ (((n + 3 : Nat) : Int) < 2) by omega), dneg (show ¬ (((n + 3 : Nat) : Int) < 3) by omega)]
  simp
set_option synthInstance.maxHeartbeats 400000 in
set_option synthInstance.maxSize 100000 in
theorem specInst0 {i : tInstD} {ids : List Int} (hl : ids.length ≤ 1048576) {count funcs : Int} (h0 : 0 ≤ count) (h1 : count ≤ 9223372036854775807) (h2 : 0 ≤ funcs) (h3 : funcs ≤ 9223372036854775807) (hn : named i = bif decide (i.1 = 26) then 0 else ids.length) :
  Ev (fun k => U11.l0 k count funcs 0 i ids) (one (ids.all (inB 0 (count - 1)) && (decide (i.2.2.2.2.2.2.1.length ≤ 4) && zerosB i && widB i && immB i funcs))) := by
 refine each_ev (z := 0) (L := fun k a => U11.l0 k count funcs a i ids) (V := fun m => one (m.all (inB 0 (count - 1)) && (decide (i.2.2.2.2.2.2.1.length ≤ 4) && zerosB i && widB i && immB i funcs))) (q := fun k x g => Option.bind (U5.f k x 0 (IntKind.wrap .i64 (count - 1))) fun r1 => bif !r1.1.1.1 then some (((false, ()), ()), ()) else g k) (by omega) (fun k a => rfl) ?_ ?_
 ·refine Ev.all fun k => ?_
  have hz : zerosB i = ((bif decide (((named i : Nat) : Int) < 1) then decide (i.2.2.1 = 0) else true) && (bif decide (((named i : Nat) : Int) < 2) then decide (i.2.2.2.1 = 0) else true) && (bif decide (((named i : Nat) : Int) < 3) then decide (i.2.2.2.2.1 = 0) else true)) := zeros_at _
  rw [hz, hn]
  simp only [specVal, specIn, specW, Option.bind_some, wrap_id (show -9223372036854775808 ≤ funcs - 1 by omega) (show funcs - 1 ≤ 9223372036854775807 by omega), List.all_nil, Bool.true_and]
  have h4 : decide (i.2.2.2.2.2.2.1.length ≤ 4) = !decide (4 < ((List.length i.2.2.2.2.2.2.1 : Nat) : Int)) := by
   by_cases h : 4 < ((List.length i.2.2.2.2.2.2.1 : Nat) : Int)
   ·rw [dpos h, dneg (by omega)]; rfl
   ·rw [dneg h, dpos (by omega)]; rfl
  rw [h4]
  unfold widB immB
  have fin : ∀ (o24 o25 o26 o21 o23 w0 w8 wk : Bool), decide (i.1 = 24) = o24 → decide (i.1 = 25) = o25 → decide (i.1 = 26) = o26 → decide (i.1 = 21) = o21 → decide (i.1 = 23) = o23 → decide (i.2.1 = 0) = w0 → decide (i.2.1 = 8) = w8 → wOk i.2.1 = wk →
    (o24 = true ∧ o25 = false ∧ o26 = false ∧ o21 = false ∧ o23 = false ∨ o24 = false ∧ o25 = true ∧ o26 = false ∧ o21 = false ∧ o23 = false ∨ o24 = false ∧ o25 = false ∧ o26 = true ∧ o21 = false ∧ o23 = false ∨ o24 = false ∧ o25 = false ∧ o26 = false ∧ o21 = true ∧ o23 = false ∨ o24 = false ∧ o25 = false ∧ o26 = false ∧ o21 = false ∧ o23 = true ∨ o24 = false ∧ o25 = false ∧ o26 = false ∧ o21 = false ∧ o23 = false) ∧
    (w0 = true ∧ w8 = false ∧ wk = false ∨ w0 = false ∧ w8 = true ∧ wk = true ∨ w0 = false ∧ w8 = false) := by
   rintro _ _ _ _ _ _ _ _ rfl rfl rfl rfl rfl rfl rfl rfl
   simp only [decide_eq_true_eq, decide_eq_false_iff_not]
   refine ⟨by omega, ?_⟩
   by_cases h : i.2.1 = 0
   ·exact .inl ⟨h, by omega, by rw [h]; rfl⟩
   ·by_cases h' : i.2.1 = 8
    ·exact .inr (.inl ⟨h, h', by rw [h']; rfl⟩)
    ·exact .inr (.inr ⟨h, h'⟩)
  have fin := fin _ _ _ _ _ _ _ _ rfl rfl rfl rfl rfl rfl rfl rfl
  clear hz h4 hn
  generalize decide (i.1 = 24) = o24 at fin ⊢
  generalize decide (i.1 = 25) = o25 at fin ⊢
  generalize decide (i.1 = 26) = o26 at fin ⊢
  generalize decide (i.1 = 21) = o21 at fin ⊢
  generalize decide (i.1 = 23) = o23 at fin ⊢
  generalize decide (i.2.1 = 0) = w0 at fin ⊢
  generalize decide (i.2.1 = 8) = w8 at fin ⊢
  generalize wOk i.2.1 = wk at fin ⊢
  have z1 : decide (((0 : Nat) : Int) < 1) = true := rfl
  have z2 : decide (((0 : Nat) : Int) < 2) = true := rfl
  have z3 : decide (((0 : Nat) : Int) < 3) = true := rfl
  have y1 : decide ((0 : Int) < 1) = true := rfl
  have y2 : decide ((0 : Int) < 2) = true := rfl
  have y3 : decide ((0 : Int) < 3) = true := rfl
  obtain ⟨f1, f2⟩ := fin
  rcases f1 with ⟨rfl, rfl, rfl, rfl, rfl⟩ | ⟨rfl, rfl, rfl, rfl, rfl⟩ | ⟨rfl, rfl, rfl, rfl, rfl⟩ | ⟨rfl, rfl, rfl, rfl, rfl⟩ | ⟨rfl, rfl, rfl, rfl, rfl⟩ | ⟨rfl, rfl, rfl, rfl, rfl⟩ <;> rcases f2 with ⟨rfl, rfl, rfl⟩ | ⟨rfl, rfl, rfl⟩ | ⟨rfl, rfl⟩ <;>
   simp only [cond_true, cond_false, z1, z2, z3, y1, y2, y3, beq_self_eq_true, Bool.not_true, Bool.not_false, Bool.or_true, Bool.or_false, Bool.and_false, Bool.false_and, Bool.true_and, Bool.and_true, show (true == false) = false from rfl, show (false == true) = false from rfl, Int.reduceLT, decide_true, decide_false] <;>
   generalize decide (4 < ((List.length i.2.2.2.2.2.2.1 : Nat) : Int)) = l4 <;>
   generalize decide (((ids.length : Nat) : Int) < 1) = n1 <;> generalize decide (((ids.length : Nat) : Int) < 2) = n2 <;> generalize decide (((ids.length : Nat) : Int) < 3) = n3 <;>
   generalize decide (i.2.2.1 = 0) = a <;> generalize decide (i.2.2.2.1 = 0) = b <;> generalize decide (i.2.2.2.2.1 = 0) = c <;> generalize decide (i.2.2.2.2.2.1 = 0) = m <;>
   generalize valB i.2.1 i.2.2.2.2.2.1 = va <;> generalize inB 0 (funcs - 1) i.2.2.2.2.2.1 = vb <;> revert l4 n1 n2 n3 a b c m va vb <;> (try revert wk) <;> decide +kernel
 ·intro x m g hx hg
  refine Ev.bind (Ev.all fun k => specIn k _ _ _) ?_
  rw [wrap_id (by omega) (by omega), List.all_cons, Bool.and_assoc]
  exact ev_and hg
theorem specInst {i : tInstD} (hs : i.2.2.2.2.2.2.1.length ≤ 1048576) {count funcs : Int} (h0 : 0 ≤ count) (h1 : count ≤ 9223372036854775807) (h2 : 0 ≤ funcs) (h3 : funcs ≤ 9223372036854775807) : Ev (fun k => U11.f k i count funcs) (one (instB count funcs i)) := by
 have hn : named i = bif decide (i.1 = 26) then 0 else (opsB i).length := rfl
 have l0 := specInst0 (opsB_len hs) h0 h1 h2 h3 hn
 unfold U11.f
 refine Ev.bind (Ev.all fun k => specIn k _ _ _) ?_
 unfold instB
 generalize hz : ((opsB i).all (inB 0 (count - 1))) = za at l0 ⊢
 cases inB 1 27 i.1 with
 | false => exact Ev.pos rfl (Ev.cst rfl)
 | true =>
  refine Ev.neg rfl ?_
  have done : ∀ b : Bool, b = true → Ev (fun k => Option.bind (U7.f k i) fun r3 => U11.l0 k count funcs 0 i r3.2.1) (one (true && decide (i.2.2.2.2.2.2.1.length ≤ 4) && b && za && zerosB i && widB i && immB i funcs)) := by
   rintro _ rfl
   refine (Ev.bind (f := fun k r3 => U11.l0 k count funcs 0 i r3.2.1) (Ev.all fun k => specOps k hs) l0).rw ?_
   generalize decide (i.2.2.2.2.2.2.1.length ≤ 4) = z4
   generalize zerosB i = z5
   generalize widB i = z6
   generalize immB i funcs = z7
   clear l0 hz
   revert za z4 z5 z6 z7
   decide
  by_cases h6 : i.1 = 26
  ·exact Ev.neg (by rw [dpos h6]; rfl) (done _ (by rw [dpos h6, Bool.or_true]))
  ·refine Ev.pos (by rw [dneg h6]; rfl) ?_
   by_cases h5 : 0 < ((i.2.2.2.2.2.2.1.length : Nat) : Int)
   ·refine Ev.pos (dpos h5) (Ev.cst ?_)
    rw [dneg (show ¬ i.2.2.2.2.2.2.1.length = 0 by omega), dneg h6]
    simp
   ·exact Ev.neg (dneg h5) (done _ (by rw [dpos (show i.2.2.2.2.2.2.1.length = 0 by omega), Bool.true_or]))
theorem Ev.sk1 {R : Type} {g : Nat → Option R} {r : R} (h : Ev (fun k => g (k + 1)) r) : Ev g r := Ev.step h fun _ => rfl
/-- A loop whose state is known at each place. -/
theorem st_loop {σ R : Type} {n0 : Nat} {L : Nat → Int → σ → Option R} {T : Nat → σ → Option R} (S : Nat → σ)
  (hend : ∀ r, Ev (fun k => T k (S n0)) r → Ev (fun k => L k (n0 : Int) (S n0)) r)
  (hstep : ∀ i r, i < n0 → Ev (fun k => L k ((i + 1 : Nat) : Int) (S (i + 1))) r → Ev (fun k => L k (i : Int) (S i)) r) {r : R} (h : Ev (fun k => T k (S n0)) r) : Ev (fun k => L k 0 (S 0)) r :=
 Ev.down (G := fun i k => L k (i : Int) (S i)) (V := fun _ => r) n0 (hend r h) (fun i hi e => hstep i r hi e) 0 (Nat.zero_le _)
/-- A number's text. -/
def decB (n : Int) : ByteArray := ⟨(Lib.itoa n).toArray⟩
theorem ba_ext {a b : ByteArray} (h : a.data = b.data) : a = b := by cases a; cases b; cases h; rfl
theorem digit_str : ∀ r : Nat, r < 10 → strOf [IntKind.wrap .u8 (IntKind.wrap .i64 (48 + (r : Int)))] = ⟨#[UInt8.ofNat (48 + r)]⟩ := by
 intro r h
 have h1 : r = 0 ∨ r = 1 ∨ r = 2 ∨ r = 3 ∨ r = 4 ∨ r = 5 ∨ r = 6 ∨ r = 7 ∨ r = 8 ∨ r = 9 := by omega
 rcases h1 with rfl | rfl | rfl | rfl | rfl | rfl | rfl | rfl | rfl | rfl <;> rfl
theorem nd_le {u : Nat} (h : u < 18446744073709551616) : Lib.nDigits u ≤ 20 := by
 by_cases h0 : u = 0
 ·subst h0; rw [Lib.nDigits_small (by omega)]; omega
 ·have := Lib.numDigits_eq u (by omega) h
  split at this <;> omega
theorem big_eq : big = 9223372036854775807 := rfl
theorem specDec_s {u : Nat} (h10 : u < 10) {t : ByteArray} (ht : t.size + Lib.nDigits u ≤ 1000000) : Ev (fun k => U13.l0 k (u : Int) t) (one ((⟨(Lib.decDigits u).toArray⟩ : ByteArray) ++ t)) := by
 refine Ev.sk1 ?_
 show Ev (fun k => U13.l0_ k (U13.l0 k) (u : Int) t) _
 unfold U13.l0_
 have hd := digit_str u h10
 have hn := Lib.nDigits_small h10
 refine Ev.dn (by omega) ?_
 rw [hd]
 refine Ev.dp (by rw [big_eq]; have : (⟨#[UInt8.ofNat (48 + u)]⟩ : ByteArray).size = 1 := rfl; omega) (Ev.cst ?_)
 rw [Lib.decDigits_one h10]
theorem specDec_l : ∀ (n u : Nat), u ≤ n → u < 4611686018427387904 → ∀ t : ByteArray, t.size + Lib.nDigits u ≤ 1000000 → Ev (fun k => U13.l0 k (u : Int) t) (one ((⟨(Lib.decDigits u).toArray⟩ : ByteArray) ++ t)) := by
 intro n
 induction n with
 | zero =>
  intro u hu h1 t ht
  exact specDec_s (by omega) ht
 | succ n ih =>
  intro u hu h1 t ht
  by_cases h10 : u < 10
  ·exact specDec_s h10 ht
  ·refine Ev.sk1 ?_
   show Ev (fun k => U13.l0_ k (U13.l0 k) (u : Int) t) _
   unfold U13.l0_
   have hm : Int.tmod (u : Int) 10 = ((u % 10 : Nat) : Int) := by rw [Int.tmod_eq_emod_of_nonneg (by omega)]; omega
   have hq : Int.tdiv (u : Int) 10 = ((u / 10 : Nat) : Int) := by rw [Int.tdiv_eq_ediv_of_nonneg (by omega)]; omega
   have hd := digit_str (u % 10) (by omega)
   have hn := Lib.nDigits_big h10
   have hw : IntKind.wrap .i64 ((u / 10 : Nat) : Int) = ((u / 10 : Nat) : Int) := wrap_id (by omega) (by omega)
   have hs1 : (⟨#[UInt8.ofNat (48 + u % 10)]⟩ : ByteArray).size = 1 := rfl
   rw [hm, hq, hd, hw]
   refine Ev.dp (by omega) (Ev.pos (by decide) (Ev.dp (by rw [big_eq]; omega) (Ev.pos (by decide) ?_)))
   refine (ih (u / 10) (by omega) (by omega) _ (by rw [ByteArray.size_append, hs1]; omega)).rw ?_
   have e : Lib.decDigits u = Lib.decDigits (u / 10) ++ [UInt8.ofNat (48 + u % 10)] := by rw [Lib.decDigits, dif_neg h10]
   rw [e]
   have e2 : (⟨(Lib.decDigits (u / 10) ++ [UInt8.ofNat (48 + u % 10)]).toArray⟩ : ByteArray) = (⟨(Lib.decDigits (u / 10)).toArray⟩ : ByteArray) ++ ⟨#[UInt8.ofNat (48 + u % 10)]⟩ := ba_ext (by simp [ByteArray.data_append])
   rw [e2, ByteArray.append_assoc]
theorem decB_nat (u : Nat) : decB (u : Int) = ⟨(Lib.decDigits u).toArray⟩ := by
 unfold decB Lib.itoa
 rw [if_neg (by omega), Int.toNat_natCast]
theorem decB_size {n : Int} (h0 : 0 ≤ n) (h1 : n < 4611686018427387904) : (decB n).size ≤ 20 := by
 obtain ⟨u, rfl⟩ : ∃ u : Nat, n = u := ⟨n.toNat, by omega⟩
 rw [decB_nat]
 show (Lib.decDigits u).toArray.size ≤ 20
 rw [List.size_toArray, Lib.decDigits_length]
 exact nd_le (by omega)
theorem specDec {n : Int} (h0 : 0 ≤ n) (h1 : n < 4611686018427387904) : Ev (fun k => U13.f k n) (one (decB n)) := by
 obtain ⟨u, rfl⟩ : ∃ u : Nat, n = u := ⟨n.toNat, by omega⟩
 unfold U13.f
 refine Ev.dn (by omega) ?_
 have hn := nd_le (u := u) (by omega)
 refine (specDec_l u u (Nat.le_refl _) (by omega) ByteArray.empty (by show 0 + _ ≤ _; omega)).rw ?_
 rw [decB_nat, ByteArray.append_empty]
theorem implDec (k : Nat) {n : Int} (h0 : 0 ≤ n) (h1 : n < 4611686018427387904) : strconv_FormatInt.f k n 10 = some (one (decB n)) := by
 unfold strconv_FormatInt.f fmtF
 rw [dpos rfl, dpos (show -9223372036854775808 ≤ n by omega), dpos (show n ≤ 9223372036854775807 by omega)]
 rfl
def blank : ByteArray := ByteArray.mk #[32]
def numB (n : Int) : ByteArray := blank ++ decB n
def numsB : List Int → ByteArray
 | [] => ByteArray.empty
 | n :: l => numB n ++ numsB l
theorem numsB_app : ∀ a b : List Int, numsB (a ++ b) = numsB a ++ numsB b
 | [], b => by show numsB b = ByteArray.empty ++ numsB b; rw [ByteArray.empty_append]
 | n :: a, b => by show numB n ++ numsB (a ++ b) = (numB n ++ numsB a) ++ numsB b; rw [numsB_app a b, ByteArray.append_assoc]
theorem numsB_push {l : List Int} {i : Nat} (h : i < l.length) : numsB (l.take i) ++ numB l[i] = numsB (l.take (i + 1)) := by
 rw [List.take_succ_eq_append_getElem h, numsB_app]
 show _ = _ ++ (numB l[i] ++ ByteArray.empty)
 rw [ByteArray.append_empty]
def okN (n : Int) : Prop := 0 ≤ n ∧ n < 4611686018427387904
theorem numB_size {n : Int} (h : okN n) : (numB n).size ≤ 21 := by
 unfold numB
 rw [ByteArray.size_append]
 have := decB_size h.1 h.2
 have hb : blank.size = 1 := rfl
 omega
theorem numsB_size : ∀ {l : List Int}, (∀ n ∈ l, okN n) → (numsB l).size ≤ 21 * l.length
 | [], _ => Nat.le_refl _
 | n :: l, h => by
  show (numB n ++ numsB l).size ≤ _
  rw [ByteArray.size_append, List.length_cons]
  have a := numB_size (h n (by simp))
  have b := numsB_size (l := l) fun m hm => h m (by simp [hm])
  omega
theorem take_ok {l : List Int} (h : ∀ n ∈ l, okN n) (i : Nat) : ∀ n ∈ l.take i, okN n := fun n hn => h n (List.mem_of_mem_take hn)
theorem specNums {l : List Int} (hl : l.length ≤ 100) (h : ∀ n ∈ l, okN n) : Ev (fun k => U14.f k l) (one (numsB l)) := by
 unfold U14.f
 refine st_loop (n0 := l.length) (L := fun k a s => U14.l0 k l s a) (T := fun k s => some (one s)) (fun i => numsB (l.take i)) (fun r e => Ev.sk1 ?_) (fun i r hlt e => Ev.sk1 ?_) ?_
 ·show Ev (fun k => U14.l0_ k (U14.l0 k) _ _ _) _
  simp only [U14.l0_, head_end, cond_false]
  exact e
 ·show Ev (fun k => U14.l0_ k (U14.l0 k) _ _ _) _
  have hs := numsB_size (take_ok h i)
  have hlen : (l.take i).length ≤ 100 := by rw [List.length_take]; omega
  have hn := h _ (List.getElem_mem hlt)
  have hd := decB_size hn.1 hn.2
  have hb : (ByteArray.mk #[32]).size = 1 := rfl
  simp only [U14.l0_, head_in hlt, head_0, Bool.and_self, cond_true, Int.toNat_natCast, getD_at _ _ _ hlt, wrap_nat (show i < 9223372036854775807 by omega)]
  refine Ev.dp (by rw [big_eq, hb]; omega) (Ev.bind (specDec hn.1 hn.2) (Ev.dp (by rw [big_eq, ByteArray.size_append, hb]; show _ + (decB l[i]).size ≤ _; omega) ?_))
  simp only [← numsB_push hlt, numB, ← ByteArray.append_assoc] at e
  exact e
 ·simp only [List.take_length]; exact Ev.cst rfl
theorem implLine {w : ByteArray} (hw : w.size ≤ 100000) {l : List Int} (hl : l.length ≤ 100) (h : ∀ n ∈ l, okN n) : Ev (fun k => U39.f k w l) (one (w ++ numsB l)) := by
 unfold U39.f
 have h0 : w = w ++ numsB (l.take 0) := by show w = w ++ ByteArray.empty; rw [ByteArray.append_empty]
 have key := st_loop (n0 := l.length) (L := fun k a s => U39.l0 k s l (l.length : Int) a) (T := fun k s => some (one s)) (fun i => w ++ numsB (l.take i)) (fun r e => Ev.sk1 ?_) (fun i r hlt e => Ev.sk1 ?_) (r := one (w ++ numsB l)) ?_
 ·rw [← h0] at key; exact key
 ·show Ev (fun k => U39.l0_ k (U39.l0 k) _ _ _ _) _
  simp only [U39.l0_, head_end, cond_false]
  exact e
 ·show Ev (fun k => U39.l0_ k (U39.l0 k) _ _ _ _) _
  have hs := numsB_size (take_ok h i)
  have hlen : (l.take i).length ≤ 100 := by rw [List.length_take]; omega
  have hn := h _ (List.getElem_mem hlt)
  have hd := decB_size hn.1 hn.2
  have hb : (ByteArray.mk #[32]).size = 1 := rfl
  simp only [U39.l0_, head_in hlt, head_0, Bool.and_self, cond_true, Int.toNat_natCast, getD_at _ _ _ hlt, wrap_nat (show i < 9223372036854775807 by omega)]
  refine Ev.bind (Ev.all fun k => implDec k hn.1 hn.2) (Ev.dp (by rw [big_eq, hb]; show _ + (decB l[i]).size ≤ _; omega) (Ev.dp (by rw [big_eq, ByteArray.size_append, ByteArray.size_append, hb]; show _ + (_ + (decB l[i]).size) ≤ _; omega) ?_))
  simp only [← numsB_push hlt, numB, ← ByteArray.append_assoc] at e
  simp only [← ByteArray.append_assoc]
  exact e
 ·simp only [List.take_length]; exact Ev.cst rfl
set_option maxRecDepth 100000 in
def opS : ByteArray := (ByteArray.mk #[97, 100, 100, 32, 115, 117, 98, 32, 109, 117, 108, 32, 117, 100, 105, 118, 32, 115, 100, 105, 118, 32, 117, 114, 101, 109, 32, 115, 114, 101, 109, 32, 97, 110, 100, 32, 111, 114, 32, 120, 111, 114, 32, 115, 104, 108, 32, 108, 115, 104, 114, 32, 97, 115, 104, 114, 32, 101, 113, 32, 110, 101, 32, 117, 108, 116, 32, 115, 108, 116, 32, 122, 101, 120, 116, 32, 115, 101, 120, 116, 32, 116, 114, 117, 110, 99, 32, 99, 111, 110, 115, 116, 32, 115, 101, 108, 101, 99, 116, 32, 108, 111, 97, 100, 32, 115, 116, 111, 114, 101, 32, 112, 114, 105, 110, 116, 32, 99, 97, 108, 108, 32, 99, 111, 112, 121])
def wordsL : List ByteArray := Lib.splitB (ByteArray.mk #[32]) 0 (Lib.countB opS (ByteArray.mk #[32])) opS
theorem words_len : wordsL.length = 27 := by kernel_rfl
theorem words_small : (wordsL.all fun w => Nat.ble w.size 10) = true := by kernel_rfl
theorem specWords (k : Nat) : U3.f k = some (rowR (ByteArray.empty :: wordsL)) := by kernel_rfl
theorem implWords (k : Nat) : U19.f k = some (one wordsL) := by kernel_rfl
def wordB (op : Int) : ByteArray := wordsL.getD (op - 1).toNat ByteArray.empty
theorem wordB_size (op : Int) : (wordB op).size ≤ 10 := by
 unfold wordB
 by_cases h : (op - 1).toNat < wordsL.length
 ·rw [getD_at _ _ _ h]
  have := List.all_eq_true.1 words_small _ (List.getElem_mem h)
  exact Nat.le_of_ble_eq_true this
 ·rw [List.getD_eq_getElem?_getD, List.getElem?_eq_none (by omega)]
  exact Nat.zero_le _
theorem word_spec {W : List ByteArray} {op : Int} (h : 1 ≤ op) : (ByteArray.empty :: W).getD op.toNat ByteArray.empty = W.getD (op - 1).toNat ByteArray.empty := by
 obtain ⟨n, hn⟩ : ∃ n, op.toNat = n + 1 := ⟨op.toNat - 1, by omega⟩
 rw [hn, show (op - 1).toNat = n by omega]
 rfl
def hasI (i : tInstD) : Bool := decide (i.1 = 21) || decide (i.1 = 26)
def textW (w : ByteArray) (i : tInstD) : ByteArray := bif hasI i then ((w ++ numB i.2.1) ++ numB i.2.2.2.2.2.1) ++ numsB (opsB i) else (w ++ numB i.2.1) ++ numsB (opsB i)
def textI (i : tInstD) : ByteArray := textW (wordB i.1) i
structure Txt (i : tInstD) : Prop where
 op1 : 1 ≤ i.1
 op2 : i.1 ≤ 27
 w : okN i.2.1
 m : okN i.2.2.2.2.2.1
 al : i.2.2.2.2.2.2.1.length ≤ 4
 ol : (opsB i).length ≤ 4
 o : ∀ n ∈ opsB i, okN n
theorem txt_ofN {c m : Int} (hc : c ≤ 60) (hm3 : m ≤ 3) {i : tInstD} (h : instB c m i = true) : Txt i := by
 simp only [instB, Bool.and_eq_true, decide_eq_true_eq, List.all_eq_true] at h
 obtain ⟨⟨⟨⟨⟨⟨h1, h2⟩, h3⟩, h4⟩, h5⟩, h6⟩, h7⟩ := h
 have ho : 1 ≤ i.1 ∧ i.1 ≤ 27 := by simpa [inB] using h1
 have hw : okN i.2.1 := by
  unfold widB at h6
  by_cases c1 : i.1 = 24
  ·rw [dpos c1] at h6
   have : i.2.1 = 0 := by simpa using h6
   exact ⟨by omega, by omega⟩
  ·by_cases c2 : i.1 = 25
   ·rw [dpos c2, Bool.or_true] at h6
    have : i.2.1 = 0 := by simpa using h6
    exact ⟨by omega, by omega⟩
   ·rw [dneg c1, dneg c2] at h6
    by_cases c3 : i.1 = 23
    ·rw [dpos c3] at h6
     have : i.2.1 = 8 := by simpa using h6
     exact ⟨by omega, by omega⟩
    ·rw [dneg c3] at h6
     rcases wOk_cases (show wOk i.2.1 = true from h6) with e | e | e | e <;> exact ⟨by omega, by omega⟩
 have hm : okN i.2.2.2.2.2.1 := by
  unfold immB at h7
  by_cases c1 : i.1 = 21
  ·rw [dpos c1] at h7
   have h8 : (wOk i.2.1 && inB 0 (topOf i.2.1) i.2.2.2.2.2.1) = true := h7
   rw [Bool.and_eq_true] at h8
   have h9 : 0 ≤ i.2.2.2.2.2.1 ∧ i.2.2.2.2.2.1 ≤ topOf i.2.1 := by simpa [inB] using h8.2
   have ht : topOf i.2.1 ≤ 4294967295 := by
    rcases wOk_cases h8.1 with e | e | e | e <;> rw [e] <;> decide
   exact ⟨h9.1, by omega⟩
  ·rw [dneg c1] at h7
   by_cases c2 : i.1 = 26
   ·rw [dpos c2] at h7
    have h9 : 0 ≤ i.2.2.2.2.2.1 ∧ i.2.2.2.2.2.1 ≤ m - 1 := by simpa [inB] using h7
    exact ⟨h9.1, by omega⟩
   ·rw [dneg c2] at h7
    have : i.2.2.2.2.2.1 = 0 := by simpa using h7
    exact ⟨by omega, by omega⟩
 have hol : (opsB i).length ≤ 4 := by
  by_cases h26 : i.1 = 26
  ·have e : opsB i = i.2.2.2.2.2.2.1 := by unfold opsB inB; rw [h26]; rfl
   rw [e]; exact h2
  ·have := opsB_few h26; omega
 refine ⟨ho.1, ho.2, hw, hm, h2, hol, fun n hn => ?_⟩
 have := h4 n hn
 have h9 : 0 ≤ n ∧ n ≤ c - 1 := by simpa [inB] using this
 exact ⟨h9.1, by omega⟩
theorem txt_of {c : Int} (hc : c ≤ 60) {i : tInstD} (h : instB c 3 i = true) : Txt i := txt_ofN hc (by omega) h
theorem specTextW {i : tInstD} (h : Txt i) {W : List ByteArray} {w : ByteArray} (hk : ∀ k, U3.f k = some (rowR (ByteArray.empty :: W))) (hW : W.length = 27) (hg : W.getD (i.1 - 1).toNat ByteArray.empty = w) (hws : w.size ≤ 10) : Ev (fun k => U15.f k i) (one (textW w i)) := by
 have hd := decB_size h.w.1 h.w.2
 have hdm := decB_size h.m.1 h.m.2
 have hn := numsB_size h.o
 have hol := h.ol
 have hb : (ByteArray.mk #[32]).size = 1 := rfl
 have hal : i.2.2.2.2.2.2.1.length ≤ 1048576 := by have := h.al; omega
 have hlen : ((List.length (ByteArray.empty :: W) : Nat) : Int) = 28 := by rw [List.length_cons, hW]; rfl
 unfold U15.f
 refine Ev.bind (Ev.all hk) ?_
 simp only [word_spec h.op1, hg]
 refine Ev.dd (by have := h.op1; omega) (by show i.1 < ((List.length (ByteArray.empty :: W) : Nat) : Int); rw [hlen]; have := h.op2; omega) (Ev.dp (by rw [big_eq, hb]; omega) (Ev.bind (specDec h.w.1 h.w.2) (Ev.dp (by rw [big_eq, ByteArray.size_append, hb]; show _ + (decB i.2.1).size ≤ _; omega) ?_)))
 have tail : ∀ (t : ByteArray), t.size ≤ 1000 → ∀ r, t ++ numsB (opsB i) = r → Ev (fun k => Option.bind (U7.f k i) fun r9 => Option.bind (U14.f k r9.2.1) fun r10 => bif decide (ByteArray.size t + ByteArray.size r10.1.1.1 ≤ big) then (some (((t ++ r10.1.1.1, ()), ()), ())) else none) (one r) := fun t ht r hr =>
  Ev.bind (Ev.all fun k => specOps k hal) (Ev.bind (specNums (by show (opsB i).length ≤ 100; omega) h.o) (Ev.dp (by rw [big_eq]; show _ + (numsB (opsB i)).size ≤ _; omega) (Ev.cst (by rw [← hr]))))
 by_cases c1 : i.1 = 21
 ·have e : textW w i = ((w ++ numB i.2.1) ++ numB i.2.2.2.2.2.1) ++ numsB (opsB i) := by unfold textW hasI; rw [dpos c1]; rfl
  rw [e]
  refine Ev.dp c1 (Ev.dp (by rw [big_eq, ByteArray.size_append, ByteArray.size_append, hb]; show _ + (decB i.2.1).size + _ ≤ _; omega) (Ev.bind (specDec h.m.1 h.m.2) (Ev.dp (by rw [big_eq, ByteArray.size_append, ByteArray.size_append, ByteArray.size_append, hb]; show _ + (decB i.2.1).size + _ + (decB i.2.2.2.2.2.1).size ≤ _; omega) (tail _ (by rw [ByteArray.size_append, ByteArray.size_append, ByteArray.size_append, ByteArray.size_append, hb]; show _ + (decB i.2.1).size + _ + (decB i.2.2.2.2.2.1).size ≤ _; omega) _ ?_))))
  simp only [numB, blank, one, ← ByteArray.append_assoc]
 ·by_cases c2 : i.1 = 26
  ·have e : textW w i = ((w ++ numB i.2.1) ++ numB i.2.2.2.2.2.1) ++ numsB (opsB i) := by unfold textW hasI; rw [dpos c2, Bool.or_true]; rfl
   rw [e]
   refine Ev.dn c1 (Ev.dp c2 (Ev.dp (by rw [big_eq, ByteArray.size_append, ByteArray.size_append, hb]; show _ + (decB i.2.1).size + _ ≤ _; omega) (Ev.bind (specDec h.m.1 h.m.2) (Ev.dp (by rw [big_eq, ByteArray.size_append, ByteArray.size_append, ByteArray.size_append, hb]; show _ + (decB i.2.1).size + _ + (decB i.2.2.2.2.2.1).size ≤ _; omega) (tail _ (by rw [ByteArray.size_append, ByteArray.size_append, ByteArray.size_append, ByteArray.size_append, hb]; show _ + (decB i.2.1).size + _ + (decB i.2.2.2.2.2.1).size ≤ _; omega) _ ?_)))))
   simp only [numB, blank, one, ← ByteArray.append_assoc]
  ·have e : textW w i = (w ++ numB i.2.1) ++ numsB (opsB i) := by unfold textW hasI; rw [dneg c1, dneg c2]; rfl
   rw [e]
   refine Ev.dn c1 (Ev.dn c2 (tail _ (by rw [ByteArray.size_append, ByteArray.size_append, hb]; show _ + (decB i.2.1).size ≤ _; omega) _ ?_))
   simp only [numB, blank, one, ← ByteArray.append_assoc]
theorem specText {i : tInstD} (h : Txt i) : Ev (fun k => U15.f k i) (one (textI i)) := specTextW h specWords words_len (by unfold wordB; rfl) (wordB_size _)
theorem nums1 (n : Int) : numsB [n] = numB n := by show numB n ++ ByteArray.empty = _; rw [ByteArray.append_empty]
theorem implTextW {i : tInstD} (h : Txt i) {W : List ByteArray} {w : ByteArray} (hk : ∀ k, U19.f k = some (one W)) (hW : W.length = 27) (hg : W.getD (i.1 - 1).toNat ByteArray.empty = w) (hws : w.size ≤ 10) : Ev (fun k => U40.f k i) (one (textW w i)) := by
 have hw := numB_size h.w
 have hm := numB_size h.m
 have hal : i.2.2.2.2.2.2.1.length ≤ 1048576 := by have := h.al; omega
 have hol := h.ol
 have hwr : IntKind.wrap .i64 (i.1 - 1) = i.1 - 1 := wrap_id (by have := h.op1; omega) (by have := h.op2; omega)
 unfold U40.f
 rw [hwr]
 refine Ev.bind (Ev.all hk) (Ev.dd (by have := h.op1; omega) (by show i.1 - 1 < ((List.length W : Nat) : Int); rw [hW]; have := h.op2; omega) ?_)
 have l1 := implLine (w := w) (by omega) (l := [i.2.1]) (by simp) (fun n hn => by rw [List.mem_singleton.1 hn]; exact h.w)
 rw [nums1] at l1
 show Ev (fun k => Option.bind (U39.f k (W.getD (i.1 - 1).toNat ByteArray.empty) [i.2.1]) _) _
 rw [hg]
 refine Ev.bind l1 ?_
 unfold U21.f
 cases hi : hasI i with
 | true =>
  have e : textW w i = ((w ++ numB i.2.1) ++ numB i.2.2.2.2.2.1) ++ numsB (opsB i) := by unfold textW; rw [hi]; rfl
  rw [e]
  have l2 := implLine (w := w ++ numB i.2.1) (by rw [ByteArray.size_append]; omega) (l := [i.2.2.2.2.2.1]) (by simp) (fun n hn => by rw [List.mem_singleton.1 hn]; exact h.m)
  rw [nums1] at l2
  refine Ev.bind (a := one true) (Ev.cst (by unfold hasI at hi; cases c1 : decide (i.1 = 21) <;> simp_all)) (Ev.pos rfl (Ev.bind l2 (Ev.bind (Ev.all fun k => implOps k hal) (Ev.bind (implLine (w := (w ++ numB i.2.1) ++ numB i.2.2.2.2.2.1) (by rw [ByteArray.size_append, ByteArray.size_append]; omega) (by show (opsB i).length ≤ 100; omega) h.o) (Ev.cst rfl)))))
 | false =>
  have e : textW w i = (w ++ numB i.2.1) ++ numsB (opsB i) := by unfold textW; rw [hi]; rfl
  rw [e]
  refine Ev.bind (a := one false) (Ev.cst (by unfold hasI at hi; cases c1 : decide (i.1 = 21) <;> simp_all)) (Ev.neg rfl (Ev.bind (Ev.all fun k => implOps k hal) (Ev.bind (implLine (w := w ++ numB i.2.1) (by rw [ByteArray.size_append]; omega) (by show (opsB i).length ≤ 100; omega) h.o) (Ev.cst rfl))))
theorem implText {i : tInstD} (h : Txt i) : Ev (fun k => U40.f k i) (one (textI i)) := implTextW h implWords words_len (by unfold wordB; rfl) (wordB_size _)
def toB (l : List UInt8) : ByteArray := ⟨l.toArray⟩
abbrev bl (s : ByteArray) : List UInt8 := s.data.toList
theorem bl_toB (l : List UInt8) : bl (toB l) = l := rfl
theorem toB_bl (s : ByteArray) : toB (bl s) = s := ba_ext (by simp [toB, bl])
theorem toB_size (l : List UInt8) : (toB l).size = l.length := by rw [Lib.size_eq]; rfl
theorem bl_len (s : ByteArray) : (bl s).length = s.size := (Lib.size_eq s).symm
theorem toB_app (a b : List UInt8) : toB (a ++ b) = toB a ++ toB b := ba_ext (by simp [toB, ByteArray.data_append])
theorem ext_0 (s : ByteArray) (n : Nat) : s.extract 0 n = toB ((bl s).take n) := by
 rw [← toB_bl (s.extract 0 n)]
 exact congrArg toB (Lib.extract_from_zero s n)
theorem ext_end (s : ByteArray) (n : Nat) : s.extract n s.size = toB ((bl s).drop n) := by
 rw [← toB_bl (s.extract n s.size)]
 exact congrArg toB (Lib.extract_to_end s n)
theorem byteAt_bl (s : ByteArray) {i : Nat} (h : i < (bl s).length) : byteAt s i = ((bl s)[i].toNat : Int) := by
 unfold byteAt
 rw [getD_at _ _ _ h]
theorem strEq_iff {a b : ByteArray} : strEq a b = true ↔ a = b := by
 unfold strEq
 rw [beq_iff_eq, Lib.toList_data, Lib.toList_data]
 exact ⟨fun h => by rw [← toB_bl a, ← toB_bl b]; exact congrArg toB h, fun h => by rw [h]⟩
def cutL : List UInt8 → List UInt8 × List UInt8 × Bool
 | [] => ([], [], false)
 | c :: l => if c = 32 then ([], l, true) else (c :: (cutL l).1, (cutL l).2.1, (cutL l).2.2)
theorem cut_len : ∀ l, (cutL l).2.1.length ≤ l.length
 | [] => Nat.le_refl _
 | c :: l => by
  unfold cutL
  split
  ·simp
  ·have := cut_len l
   simp only [List.length_cons]; omega
theorem cut_word {w : List UInt8} (hw : ∀ c ∈ w, c ≠ 32) (r : List UInt8) : cutL (w ++ 32 :: r) = (w, r, true) := by
 induction w with
 | nil => show (if (32 : UInt8) = 32 then _ else _) = _; rw [if_pos rfl]
 | cons c w ih =>
  have h1 := ih fun x hx => hw x (by simp [hx])
  show (if c = 32 then _ else (c :: (cutL (w ++ 32 :: r)).1, (cutL (w ++ 32 :: r)).2.1, (cutL (w ++ 32 :: r)).2.2)) = _
  rw [if_neg (hw c (by simp)), h1]
theorem cut_last {w : List UInt8} (hw : ∀ c ∈ w, c ≠ 32) : cutL w = (w, [], false) := by
 induction w with
 | nil => rfl
 | cons c w ih =>
  have h1 := ih fun x hx => hw x (by simp [hx])
  show (if c = 32 then _ else (c :: (cutL w).1, (cutL w).2.1, (cutL w).2.2)) = _
  rw [if_neg (hw c (by simp)), h1]
def numL : List UInt8 → Int → Option Int
 | [], n => some n
 | c :: l, n => if (c.toNat : Int) < 48 then none else if 57 < (c.toNat : Int) then none else numL l (10 * n + ((c.toNat : Int) - 48))
def numF (l : List UInt8) : Option Int := if l.length < 1 then none else if 10 < l.length then none else if l.head? = some 48 ∧ 1 < l.length then none else numL l 0
theorem digit_nat {d : Nat} (h : d < 10) : (UInt8.ofNat (48 + d)).toNat = 48 + d := by
 show (48 + d) % 2 ^ 8 = 48 + d
 omega
theorem num_dec : ∀ (n u : Nat), u ≤ n → ∀ r, numL (Lib.decDigits u ++ r) 0 = numL r (u : Int) := by
 intro n
 induction n with
 | zero =>
  intro u hu r
  rw [Lib.decDigits_one (by omega)]
  show (if (((UInt8.ofNat (48 + u)).toNat : Nat) : Int) < 48 then _ else _) = _
  rw [digit_nat (by omega), if_neg (by omega), if_neg (by omega)]
  congr 1; omega
 | succ n ih =>
  intro u hu r
  by_cases h : u < 10
  ·rw [Lib.decDigits_one h]
   show (if (((UInt8.ofNat (48 + u)).toNat : Nat) : Int) < 48 then _ else _) = _
   rw [digit_nat h, if_neg (by omega), if_neg (by omega)]
   congr 1; omega
  ·have e : Lib.decDigits u = Lib.decDigits (u / 10) ++ [UInt8.ofNat (48 + u % 10)] := by rw [Lib.decDigits, dif_neg h]
   rw [e, List.append_assoc, ih (u / 10) (by omega)]
   show (if (((UInt8.ofNat (48 + u % 10)).toNat : Nat) : Int) < 48 then _ else _) = _
   rw [digit_nat (by omega), if_neg (by omega), if_neg (by omega)]
   congr 1; omega
theorem dec_first : ∀ (n u : Nat), u ≤ n → 1 ≤ u → (Lib.decDigits u).head? ≠ some 48 := by
 intro n
 induction n with
 | zero => intro u hu h1; omega
 | succ n ih =>
  intro u hu h1
  by_cases h : u < 10
  ·rw [Lib.decDigits_one h]
   intro e
   have e1 : UInt8.ofNat (48 + u) = 48 := Option.some.inj e
   have := congrArg UInt8.toNat e1
   rw [digit_nat h] at this
   have h48 : (48 : UInt8).toNat = 48 := rfl
   omega
  ·have e : Lib.decDigits u = Lib.decDigits (u / 10) ++ [UInt8.ofNat (48 + u % 10)] := by rw [Lib.decDigits, dif_neg h]
   rw [e]
   have := ih (u / 10) (by omega) (by omega)
   cases hd : Lib.decDigits (u / 10) with
   | nil =>
    have hl := Lib.decDigits_length (u / 10)
    have := Lib.nDigits_pos (u / 10)
    rw [hd] at hl; simp at hl; omega
   | cons c l => rw [hd] at this; exact this
theorem dec_digit : ∀ (n u : Nat), u ≤ n → ∀ c ∈ Lib.decDigits u, 48 ≤ c.toNat ∧ c.toNat ≤ 57 := by
 intro n
 induction n with
 | zero =>
  intro u hu c hc
  rw [Lib.decDigits_one (by omega)] at hc
  rw [List.mem_singleton.1 hc, digit_nat (by omega)]; omega
 | succ n ih =>
  intro u hu c hc
  by_cases h : u < 10
  ·rw [Lib.decDigits_one h] at hc
   rw [List.mem_singleton.1 hc, digit_nat h]; omega
  ·have e : Lib.decDigits u = Lib.decDigits (u / 10) ++ [UInt8.ofNat (48 + u % 10)] := by rw [Lib.decDigits, dif_neg h]
   rw [e, List.mem_append] at hc
   rcases hc with hc | hc
   ·exact ih (u / 10) (by omega) c hc
   ·rw [List.mem_singleton.1 hc, digit_nat (by omega)]; omega
theorem dec_len {u : Nat} (h : u < 10000000000) : (Lib.decDigits u).length ≤ 10 ∧ 1 ≤ (Lib.decDigits u).length := by
 rw [Lib.decDigits_length]
 refine ⟨?_, Lib.nDigits_pos u⟩
 have step : ∀ (k v : Nat), v < 10 ^ (k + 1) → Lib.nDigits v ≤ k + 1 := by
  intro k
  induction k with
  | zero => intro v hv; rw [Lib.nDigits_small (by omega)]; omega
  | succ k ih =>
   intro v hv
   by_cases hs : v < 10
   ·rw [Lib.nDigits_small hs]; omega
   ·rw [Lib.nDigits_big hs]
    have := ih (v / 10) (by rw [Nat.div_lt_iff_lt_mul (by decide)]; rw [Nat.pow_succ] at hv; exact hv)
    omega
 exact step 9 u (by simpa using h)
theorem num_of_dec {u : Nat} (h : u < 10000000000) : numF (Lib.decDigits u) = some (u : Int) := by
 obtain ⟨h1, h2⟩ := dec_len h
 unfold numF
 rw [if_neg (by omega), if_neg (by omega), if_neg ?_]
 ·have := num_dec u u (Nat.le_refl _) []
  rw [List.append_nil] at this
  exact this
 ·rintro ⟨a, b⟩
  by_cases h10 : u < 10
  ·rw [Lib.decDigits_one h10] at b; simp at b
  ·exact dec_first u u (Nat.le_refl _) (by omega) a
theorem uint_dec {M : Nat} (hM : M = 18446744073709551615) : ∀ (n u : Nat), u ≤ n → u < 10000000000 → ∀ r, Lib.parseUintM M 0 (Lib.decDigits u ++ r) = Lib.parseUintM M u r := by
 intro n
 induction n with
 | zero =>
  intro u hu h r
  rw [Lib.decDigits_one (by omega)]
  show (if 48 ≤ (UInt8.ofNat (48 + u)).toNat ∧ (UInt8.ofNat (48 + u)).toNat ≤ 57 then _ else _) = _
  rw [digit_nat (by omega), if_pos (by omega), if_neg (by omega), if_neg (by omega)]
  congr 1; omega
 | succ n ih =>
  intro u hu h r
  by_cases hs : u < 10
  ·rw [Lib.decDigits_one hs]
   show (if 48 ≤ (UInt8.ofNat (48 + u)).toNat ∧ (UInt8.ofNat (48 + u)).toNat ≤ 57 then _ else _) = _
   rw [digit_nat hs, if_pos (by omega), if_neg (by omega), if_neg (by omega)]
   congr 1; omega
  ·have e : Lib.decDigits u = Lib.decDigits (u / 10) ++ [UInt8.ofNat (48 + u % 10)] := by rw [Lib.decDigits, dif_neg hs]
   rw [e, List.append_assoc, ih (u / 10) (by omega) (by omega)]
   show (if 48 ≤ (UInt8.ofNat (48 + u % 10)).toNat ∧ (UInt8.ofNat (48 + u % 10)).toNat ≤ 57 then _ else _) = _
   rw [digit_nat (by omega), if_pos (by omega), if_neg (by omega), if_neg (by omega)]
   congr 1; omega
theorem int_of_dec {u : Nat} (h : u < 10000000000) : Lib.parseIntB 64 (Lib.decDigits u) = .ok (u : Int) := by
 obtain ⟨h1, h2⟩ := dec_len h
 have hd := dec_digit u u (Nat.le_refl _)
 have hu : Lib.parseUintB 64 (Lib.decDigits u) = .ok u := by
  unfold Lib.parseUintB
  rw [if_neg (fun e => by rw [e] at h2; simp at h2)]
  have := uint_dec (M := 2 ^ 64 - 1) (by decide) u u (Nat.le_refl _) h []
  rw [List.append_nil] at this
  exact this
 cases hl : Lib.decDigits u with
 | nil => rw [hl] at h2; simp at h2
 | cons c r =>
  have hc := hd c (by rw [hl]; simp)
  rw [hl] at hu
  unfold Lib.parseIntB
  dsimp only
  rw [if_neg (by omega), hu]
  dsimp only
  rw [if_neg (by omega), if_neg (by omega), if_neg (by omega)]
def digs (n : Int) : List UInt8 := Lib.decDigits n.toNat
def joinL : List Int → List UInt8
 | [] => []
 | n :: ns => 32 :: (digs n ++ joinL ns)
theorem digs_no {n : Int} : ∀ c ∈ digs n, c ≠ 32 := fun c hc e => by
 have := dec_digit n.toNat n.toNat (Nat.le_refl _) c hc
 subst e
 have h32 : (32 : UInt8).toNat = 32 := rfl
 omega
theorem decB_bl {n : Int} (h : 0 ≤ n) : decB n = toB (digs n) := by
 obtain ⟨u, rfl⟩ : ∃ u : Nat, n = (u : Int) := ⟨n.toNat, by omega⟩
 rw [decB_nat]; rfl
theorem numsB_bl : ∀ {l : List Int}, (∀ n ∈ l, okN n) → numsB l = toB (joinL l)
 | [], _ => rfl
 | n :: l, h => by
  have h1 := decB_bl (h n (by simp)).1
  have h2 := numsB_bl (l := l) fun m hm => h m (by simp [hm])
  show numB n ++ numsB l = toB (32 :: (digs n ++ joinL l))
  rw [h2]
  unfold numB
  rw [h1, show (32 : UInt8) :: (digs n ++ joinL l) = [32] ++ (digs n ++ joinL l) from rfl, toB_app, toB_app, ← ByteArray.append_assoc]
  rfl
def small10 (n : Int) : Prop := 0 ≤ n ∧ n < 10000000000
/-- As the specification cuts it: whether it went well, and the numbers. -/
def splS : Nat → List UInt8 → Bool → List Int → Bool × List Int
 | 0, _, more, out => (!more, out)
 | n + 1, rest, more, out => bif more then (match numF (cutL rest).1 with
   | none => (false, [])
   | some m => splS n (cutL rest).2.1 (cutL rest).2.2 (out ++ [m])) else (true, out)
theorem spl_more : ∀ (ns : List Int) (n : Int) (k : Nat) (out : List Int), ns.length + 1 ≤ k → small10 n → (∀ m ∈ ns, small10 m) → splS k (digs n ++ joinL ns) true out = (true, out ++ n :: ns)
 | [], n, k, out, hk, hn, _ => by
  obtain ⟨k, rfl⟩ : ∃ j, k = j + 1 := ⟨k - 1, by simp at hk; omega⟩
  have hc : cutL (digs n ++ joinL []) = (digs n, [], false) := by
   show cutL (digs n ++ []) = _
   rw [List.append_nil]
   exact cut_last digs_no
  have hnum : numF (digs n) = some n := by
   have := num_of_dec (u := n.toNat) (by have := hn.1; have := hn.2; omega)
   rw [show ((n.toNat : Nat) : Int) = n by have := hn.1; omega] at this
   exact this
  show (match numF (cutL (digs n ++ joinL [])).1 with
   | none => (false, [])
   | some m => splS k (cutL (digs n ++ joinL [])).2.1 (cutL (digs n ++ joinL [])).2.2 (out ++ [m])) = _
  rw [hc]
  show (match numF (digs n) with
   | none => (false, [])
   | some m => splS k [] false (out ++ [m])) = _
  rw [hnum]
  cases k <;> rfl
 | m :: ns, n, k, out, hk, hn, hns => by
  obtain ⟨k, rfl⟩ : ∃ j, k = j + 1 := ⟨k - 1, by simp at hk; omega⟩
  have hc : cutL (digs n ++ joinL (m :: ns)) = (digs n, digs m ++ joinL ns, true) := cut_word digs_no _
  have hnum : numF (digs n) = some n := by
   have := num_of_dec (u := n.toNat) (by have := hn.1; have := hn.2; omega)
   rw [show ((n.toNat : Nat) : Int) = n by have := hn.1; omega] at this
   exact this
  show (match numF (cutL (digs n ++ joinL (m :: ns))).1 with
   | none => (false, [])
   | some m' => splS k (cutL (digs n ++ joinL (m :: ns))).2.1 (cutL (digs n ++ joinL (m :: ns))).2.2 (out ++ [m'])) = _
  rw [hc]
  show (match numF (digs n) with
   | none => (false, [])
   | some m' => splS k (digs m ++ joinL ns) true (out ++ [m'])) = _
  rw [hnum]
  show splS k (digs m ++ joinL ns) true (out ++ [n]) = _
  rw [spl_more ns m k (out ++ [n]) (by simp at hk; omega) (hns m (by simp)) fun x hx => hns x (by simp [hx])]
  simp
theorem index_word {w : List UInt8} (hw : ∀ c ∈ w, c ≠ 32) (r : List UInt8) : Lib.index (w ++ 32 :: r) [32] = (w.length : Int) := by
 induction w with
 | nil => show (if ([32] : List UInt8).isPrefixOf (32 :: r) then _ else _) = _; rw [if_pos (by simp [List.isPrefixOf])]; rfl
 | cons c w ih =>
  have h1 := ih fun x hx => hw x (by simp [hx])
  have hc := hw c (by simp)
  show (if ([32] : List UInt8).isPrefixOf (c :: (w ++ 32 :: r)) then _ else if Lib.index (w ++ 32 :: r) [32] == -1 then -1 else Lib.index (w ++ 32 :: r) [32] + 1) = _
  rw [if_neg (by simp [List.isPrefixOf, Ne.symm hc]), h1, if_neg (by rw [beq_iff_eq]; omega)]
  simp
theorem index_last {w : List UInt8} (hw : ∀ c ∈ w, c ≠ 32) : Lib.index w [32] = -1 := by
 induction w with
 | nil => rfl
 | cons c w ih =>
  have h1 := ih fun x hx => hw x (by simp [hx])
  have hc := hw c (by simp)
  show (if ([32] : List UInt8).isPrefixOf (c :: w) then _ else if Lib.index w [32] == -1 then -1 else Lib.index w [32] + 1) = _
  rw [if_neg (by simp [List.isPrefixOf, Ne.symm hc]), h1]
  rfl
theorem splitK_words : ∀ (ns : List Int) (w : List UInt8) (k : Nat), (∀ c ∈ w, c ≠ 32) → ns.length ≤ k → Lib.splitK [32] 0 k (w ++ joinL ns) = w :: ns.map digs
 | [], w, k, hw, _ => by
  rw [show w ++ joinL [] = w from List.append_nil w]
  cases k with
  | zero => rfl
  | succ k =>
   unfold Lib.splitK
   rw [index_last hw]
   rfl
 | n :: ns, w, k, hw, hk => by
  obtain ⟨k, rfl⟩ : ∃ j, k = j + 1 := ⟨k - 1, by simp at hk; omega⟩
  have hi := index_word hw (digs n ++ joinL ns)
  unfold Lib.splitK
  rw [show w ++ joinL (n :: ns) = w ++ 32 :: (digs n ++ joinL ns) from rfl, hi, if_neg (by rw [beq_iff_eq]; omega)]
  have ht : List.take ((w.length : Int).toNat + 0) (w ++ 32 :: (digs n ++ joinL ns)) = w := by simp
  have hd : List.drop ((w.length : Int).toNat + ([32] : List UInt8).length) (w ++ 32 :: (digs n ++ joinL ns)) = digs n ++ joinL ns := by simp
  rw [ht, hd, splitK_words ns (digs n) k digs_no (by simp at hk; omega)]
  rfl
theorem count_words : ∀ (ns : List Int) (w : List UInt8), (∀ c ∈ w, c ≠ 32) → Lib.count (w ++ joinL ns) [32] = ns.length := by
 intro ns w hw
 rw [Lib.count_one]
 have hc : ∀ {l : List UInt8}, (∀ c ∈ l, c ≠ 32) → l.count 32 = 0 := fun {l} h => List.count_eq_zero.2 fun hm => h 32 hm rfl
 rw [List.count_append, hc hw, Nat.zero_add]
 clear hw
 induction ns with
 | nil => rfl
 | cons n ns ih =>
  show List.count 32 (32 :: (digs n ++ joinL ns)) = _
  rw [List.count_cons_self, List.count_append, hc digs_no, ih]
  simp
theorem splitB_words {ns : List Int} {w : List UInt8} (hw : ∀ c ∈ w, c ≠ 32) : Lib.splitB (ByteArray.mk #[32]) 0 (Lib.countB (toB (w ++ joinL ns)) (ByteArray.mk #[32])) (toB (w ++ joinL ns)) = toB w :: ns.map fun n => toB (digs n) := by
 have hk : Lib.countB (toB (w ++ joinL ns)) (ByteArray.mk #[32]) = ns.length := count_words ns w hw
 have h := Lib.splitB_data (ByteArray.mk #[32]) 0 (Lib.countB (toB (w ++ joinL ns)) (ByteArray.mk #[32])) (toB (w ++ joinL ns))
 rw [hk] at h ⊢
 have h2 : Lib.splitK (ByteArray.mk #[32]).data.toList 0 ns.length (toB (w ++ joinL ns)).data.toList = w :: ns.map digs := splitK_words ns w ns.length hw (Nat.le_refl _)
 rw [h2] at h
 have h3 := congrArg (List.map toB) h
 rw [List.map_map] at h3
 have h4 : List.map (toB ∘ fun x : ByteArray => x.data.toList) (Lib.splitB (ByteArray.mk #[32]) 0 ns.length (toB (w ++ joinL ns))) = Lib.splitB (ByteArray.mk #[32]) 0 ns.length (toB (w ++ joinL ns)) := (List.map_congr_left (g := id) fun s _ => toB_bl s).trans (List.map_id _)
 rw [h4] at h3
 rw [h3, List.map_cons, List.map_map]
 rfl
abbrev cR (a b : ByteArray) (c : Bool) : U0.R := (((a, ()), (b, ()), (c, ()), ()), ())
theorem specCut_l {s : ByteArray} (hs : s.size ≤ 1048576) : ∀ d i, i + d = s.size → Ev (fun k => U0.l0 k s 32 (i : Int)) (cR (toB ((bl s).take i ++ (cutL ((bl s).drop i)).1)) (toB (cutL ((bl s).drop i)).2.1) (cutL ((bl s).drop i)).2.2) := by
 intro d
 induction d with
 | zero =>
  intro i hi
  refine Ev.sk1 ?_
  show Ev (fun k => U0.l0_ k (U0.l0 k) _ _ _) _
  unfold U0.l0_
  refine Ev.dn (by omega) (Ev.cst ?_)
  have hl := bl_len s
  rw [List.drop_of_length_le (by omega), List.take_of_length_le (by omega)]
  show some (cR s ByteArray.empty false) = some (cR (toB (bl s ++ [])) (toB []) false)
  rw [List.append_nil, toB_bl]
  rfl
 | succ d ih =>
  intro i hi
  have hl := bl_len s
  have hlt : i < (bl s).length := by omega
  refine Ev.sk1 ?_
  show Ev (fun k => U0.l0_ k (U0.l0 k) _ _ _) _
  unfold U0.l0_
  rw [wrap_nat (show i < 9223372036854775807 by omega), Int.toNat_natCast, Int.toNat_natCast, byteAt_bl s hlt, ext_0, ext_end]
  refine Ev.dp (by omega) (Ev.dd (by omega) (by omega) ?_)
  have hdrop := List.drop_eq_getElem_cons hlt
  by_cases hc : (bl s)[i] = 32
  ·refine Ev.dp (by rw [hc]; rfl) (Ev.pos (by simp only [Bool.and_eq_true, decide_eq_true_eq]; omega) (Ev.dd (by omega) (by omega) (Ev.cst ?_)))
   rw [hdrop]
   have : cutL ((bl s)[i] :: (bl s).drop (i + 1)) = ([], (bl s).drop (i + 1), true) := by unfold cutL; rw [if_pos hc]
   rw [this, List.append_nil]
  ·refine Ev.dn (fun h => hc ?_) ((ih (i + 1) (by omega)).rw ?_)
   ·have h' : (bl s)[i].toNat = 32 := by omega
    exact UInt8.toNat_inj.1 h'
   ·rw [hdrop]
    have : cutL ((bl s)[i] :: (bl s).drop (i + 1)) = ((bl s)[i] :: (cutL ((bl s).drop (i + 1))).1, (cutL ((bl s).drop (i + 1))).2.1, (cutL ((bl s).drop (i + 1))).2.2) := by
     conv => lhs; unfold cutL
     rw [if_neg hc]
    rw [this]
    show cR (toB ((bl s).take (i + 1) ++ (cutL ((bl s).drop (i + 1))).1)) _ _ = cR (toB ((bl s).take i ++ (bl s)[i] :: (cutL ((bl s).drop (i + 1))).1)) _ _
    rw [← List.take_append_getElem hlt, List.append_assoc]
    rfl
theorem specCut {s : ByteArray} (hs : s.size ≤ 1048576) : Ev (fun k => U0.f k s 32) (cR (toB (cutL (bl s)).1) (toB (cutL (bl s)).2.1) (cutL (bl s)).2.2) := specCut_l hs s.size 0 (by omega)
def nR : Option Int → U1.R
 | some n => (((n, ()), (true, ()), ()), ())
 | none => (((0, ()), (false, ()), ()), ())
theorem u8_id {x : Int} (h0 : 0 ≤ x) (h1 : x ≤ 127) : IntKind.wrap .u8 x = x := by
 have e : IntKind.wrap .u8 x = if (false && decide (x % 256 ≥ 128)) = true then x % 256 - 256 else x % 256 := rfl
 rw [e, Bool.false_and, if_neg (by decide)]; omega
theorem specNum_l {s : ByteArray} (hs : s.size ≤ 10) : ∀ d i (n : Int), i + d = s.size → 0 ≤ n → n < ((10 ^ i : Nat) : Int) → Ev (fun k => U1.l0 k s n (i : Int)) (nR (numL ((bl s).drop i) n)) := by
 intro d
 induction d with
 | zero =>
  intro i n hi h0 h1
  refine Ev.sk1 ?_
  show Ev (fun k => U1.l0_ k (U1.l0 k) _ _ _) _
  unfold U1.l0_
  have hl := bl_len s
  rw [List.drop_of_length_le (by omega)]
  exact Ev.dn (by omega) (Ev.cst rfl)
 | succ d ih =>
  intro i n hi h0 h1
  have hl := bl_len s
  have hlt : i < (bl s).length := by omega
  have hp : (10 : Nat) ^ (i + 1) = 10 ^ i * 10 := rfl
  have hq : (10 : Nat) ^ i ≤ 10 ^ 9 := Nat.pow_le_pow_right (by decide) (by omega)
  have hq' : (10 : Nat) ^ i ≤ 1000000000 := by simpa using hq
  refine Ev.sk1 ?_
  show Ev (fun k => U1.l0_ k (U1.l0 k) _ _ _) _
  unfold U1.l0_
  rw [wrap_nat (show i < 9223372036854775807 by omega), Int.toNat_natCast, byteAt_bl s hlt, List.drop_eq_getElem_cons hlt]
  refine Ev.dp (by omega) (Ev.dd (by omega) (by omega) ?_)
  unfold numL
  by_cases c1 : ((bl s)[i].toNat : Int) < 48
  ·rw [if_pos c1]; exact Ev.dp c1 (Ev.cst rfl)
  ·rw [if_neg c1]
   refine Ev.dn c1 (Ev.dd (by omega) (by omega) ?_)
   by_cases c2 : 57 < ((bl s)[i].toNat : Int)
   ·rw [if_pos c2]; exact Ev.dp c2 (Ev.cst rfl)
   ·rw [if_neg c2]
    refine Ev.dn c2 (Ev.dd (by omega) (by omega) ?_)
    rw [u8_id (by omega) (by omega), wrap_id (x := ((bl s)[i].toNat : Int) - 48) (by omega) (by omega), wrap_id (x := 10 * n) (by omega) (by omega), wrap_id (by omega) (by omega)]
    exact ih (i + 1) _ (by omega) (by omega) (by rw [hp]; omega)
theorem specNum (s : ByteArray) : Ev (fun k => U1.f k s) (nR (numF (bl s))) := by
 have hl := bl_len s
 unfold U1.f numF
 by_cases c1 : s.size < 1
 ·rw [if_pos (by omega)]; exact Ev.dp (by omega) (Ev.cst rfl)
 ·rw [if_neg (by omega)]
  refine Ev.dn (by omega) ?_
  by_cases c2 : 10 < s.size
  ·rw [if_pos (by omega)]; exact Ev.dp (by omega) (Ev.cst rfl)
  ·rw [if_neg (by omega)]
   have hlt : 0 < (bl s).length := by omega
   have hrun : Ev (fun k => U1.l0 k s 0 0) (nR (numL (bl s) 0)) := specNum_l (by omega) s.size 0 0 (by omega) (by omega) (by decide)
   have hh : (bl s).head? = some (bl s)[0] := by rw [List.head?_eq_getElem?, List.getElem?_eq_getElem hlt]
   rw [byteAt_bl s hlt, hh]
   refine Ev.dn (by omega) (Ev.dd (by omega) (by omega) ?_)
   by_cases c3 : (bl s)[0] = 48
   ·refine Ev.dp (by rw [c3]; rfl) ?_
    by_cases c4 : 1 < s.size
    ·rw [if_pos ⟨by rw [c3], by omega⟩]; exact Ev.dp (by omega) (Ev.cst rfl)
    ·rw [if_neg (fun h => c4 (by have := h.2; omega))]; exact Ev.dn (by omega) hrun
   ·rw [if_neg (fun h => c3 (Option.some.inj h.1))]
    refine Ev.dn (fun h => c3 ?_) hrun
    have h' : (bl s)[0].toNat = 48 := by omega
    exact UInt8.toNat_inj.1 h'
abbrev sR (w : ByteArray) (p : Bool × List Int) : U2.R := (((w, ()), ((), ()), (p.1, ()), ()), (p.2, ()))
theorem specSplit_l (w : ByteArray) : ∀ n (rest : List UInt8) (more : Bool) (out : List Int), out.length + n = 20 → rest.length ≤ 1048576 → Ev (fun k => U2.l0 k w (toB rest) more out) (sR w (splS n rest more out)) := by
 intro n
 induction n with
 | zero =>
  intro rest more out ho hr
  refine Ev.sk1 ?_
  show Ev (fun k => U2.l0_ k (U2.l0 k) _ _ _ _) _
  unfold U2.l0_
  cases more with
  | false => exact Ev.neg rfl (Ev.cst rfl)
  | true => exact Ev.pos rfl (Ev.dn (by omega) (Ev.cst rfl))
 | succ n ih =>
  intro rest more out ho hr
  refine Ev.sk1 ?_
  show Ev (fun k => U2.l0_ k (U2.l0 k) _ _ _ _) _
  unfold U2.l0_
  cases more with
  | false => exact Ev.neg rfl (Ev.cst rfl)
  | true =>
   have hcl := cut_len rest
   refine Ev.pos rfl (Ev.dp (by omega) (Ev.bind (specCut (s := toB rest) (by rw [toB_size]; omega)) (Ev.bind (specNum _) ?_)))
   show Ev _ (sR w (match numF (cutL rest).1 with
    | none => (false, [])
    | some m => splS n (cutL rest).2.1 (cutL rest).2.2 (out ++ [m])))
   show Ev (fun k => bif !(nR (numF (cutL rest).1)).1.2.1.1 then some (sR w (false, [])) else bif decide ((List.length out + List.length [(nR (numF (cutL rest).1)).1.1.1]) * 8 ≤ 140737488355328) then U2.l0 k w (toB (cutL rest).2.1) (cutL rest).2.2 (out ++ [(nR (numF (cutL rest).1)).1.1.1]) else none) _
   cases hnf : numF (cutL rest).1 with
   | none => exact Ev.pos rfl (Ev.cst rfl)
   | some m =>
    refine Ev.neg rfl (Ev.dp (by show (List.length out + List.length [m]) * 8 ≤ _; simp only [List.length_cons, List.length_nil]; omega) ?_)
    exact ih (cutL rest).2.1 (cutL rest).2.2 (out ++ [m]) (by simp only [List.length_append, List.length_cons, List.length_nil]; omega) (by omega)
theorem specSplit {s : ByteArray} (hs : s.size ≤ 1048576) : Ev (fun k => U2.f k s) (sR (toB (cutL (bl s)).1) (splS 20 (cutL (bl s)).2.1 (cutL (bl s)).2.2 [])) := by
 have hcl := cut_len (bl s)
 have hl := bl_len s
 unfold U2.f
 exact Ev.bind (specCut hs) (specSplit_l _ 20 _ _ [] rfl (by omega))
theorem spl_len : ∀ n rest more out, (splS n rest more out).2.length ≤ out.length + n
 | 0, _, _, _ => Nat.le_refl _
 | n + 1, rest, more, out => by
  unfold splS
  cases more with
  | false => show out.length ≤ _; omega
  | true =>
   show List.length (match numF (cutL rest).1 with
    | none => (false, [])
    | some m => splS n (cutL rest).2.1 (cutL rest).2.2 (out ++ [m])).2 ≤ _
   cases numF (cutL rest).1 with
   | none => show (0 : Nat) ≤ _; omega
   | some m =>
    have := spl_len n (cutL rest).2.1 (cutL rest).2.2 (out ++ [m])
    simp only [List.length_append, List.length_cons, List.length_nil] at this
    show (splS n (cutL rest).2.1 (cutL rest).2.2 (out ++ [m])).2.length ≤ _
    omega
def prsI : List ByteArray → List Int → Option (List Int)
 | [], out => some out
 | w :: ws, out => match Lib.parseIntB 64 (bl w) with
  | .ok v => prsI ws (out ++ [v])
  | _ => none
abbrev wsI (s : ByteArray) : List ByteArray := Lib.splitB (ByteArray.mk #[32]) 0 (Lib.countB s (ByteArray.mk #[32])) s
def wordsI (s : ByteArray) : Option (ByteArray × List Int) := if 20 < (wsI s).length then none else (prsI ((wsI s).drop 1) []).map fun l => ((wsI s).getD 0 ByteArray.empty, l)
def wR : Option (ByteArray × List Int) → U18.R
 | none => (((ByteArray.empty, ()), ((), ()), (false, ()), ()), ([], ()))
 | some p => (((p.1, ()), ((), ()), (true, ()), ()), (p.2, ()))
theorem split_size (sep : ByteArray) (save : Nat) : ∀ (k : Nat) (s : ByteArray), ∀ w ∈ Lib.splitB sep save k s, w.size ≤ s.size
 | 0, s, w, h => by rw [List.mem_singleton.1 h]; exact Nat.le_refl _
 | k + 1, s, w, h => by
  unfold Lib.splitB at h
  split at h
  ·rw [List.mem_singleton.1 h]; exact Nat.le_refl _
  ·rcases List.mem_cons.1 h with h | h
   ·rw [h, ByteArray.size_extract]; omega
   ·have := split_size sep save k _ w h
    rw [ByteArray.size_extract] at this; omega
theorem implPrs_l {a0 a1 : List ByteArray} (h0 : 0 < a0.length) (hs : ∀ w ∈ a1, w.size ≤ 1048576) (h20 : a1.length ≤ 20) : ∀ d i (out : List Int), i + d = a1.length → out.length ≤ i → Ev (fun k => U18.l0 k a0 a1 ((a1.length : Nat) : Int) (i : Int) out) (wR ((prsI (a1.drop i) out).map fun l => (a0.getD 0 ByteArray.empty, l))) := by
 intro d
 induction d with
 | zero =>
  intro i out hi ho
  refine Ev.sk1 ?_
  show Ev (fun k => U18.l0_ k (U18.l0 k) _ _ _ _ _) _
  unfold U18.l0_
  rw [List.drop_of_length_le (by omega)]
  exact Ev.dn (by omega) (Ev.dd (by omega) (by omega) (Ev.cst rfl))
 | succ d ih =>
  intro i out hi ho
  have hlt : i < a1.length := by omega
  refine Ev.sk1 ?_
  show Ev (fun k => U18.l0_ k (U18.l0 k) _ _ _ _ _) _
  unfold U18.l0_
  rw [wrap_nat (show i < 9223372036854775807 by omega), get_in hlt, List.drop_eq_getElem_cons hlt]
  have hsz := hs _ (List.getElem_mem hlt)
  have hpf : ∀ k, strconv_ParseInt.f k a1[i] 10 64 = some (match Lib.parseIntB 64 (bl a1[i]) with
    | .ok v => (((v, ()), (false, ()), ()), ())
    | .range => (((Lib.intSat 64 (bl a1[i]), ()), (true, ()), ()), ())
    | _ => (((0, ()), (true, ()), ()), ())) := fun k => by
   show Option.map _ (bif decide ((10 : Int) = 10) && (decide ((64 : Int) = 64) && decide (a1[i].size ≤ 281474976710656)) then _ else none) = _
   rw [dpos (show a1[i].size ≤ 281474976710656 by omega)]
   show some _ = _
   cases Lib.parseIntB 64 (bl a1[i]) <;> rfl
  refine Ev.dp (by omega) (Ev.dd (by omega) (by omega) (Ev.bind (Ev.all hpf) ?_))
  show Ev _ (wR ((match Lib.parseIntB 64 (bl a1[i]) with
   | .ok v => prsI (a1.drop (i + 1)) (out ++ [v])
   | _ => none).map fun l => (a0.getD 0 ByteArray.empty, l)))
  cases Lib.parseIntB 64 (bl a1[i]) with
  | ok v =>
   refine Ev.neg rfl (Ev.dp (by show (List.length out + List.length [v]) * 8 ≤ _; simp only [List.length_cons, List.length_nil]; omega) ?_)
   exact ih (i + 1) (out ++ [v]) (by omega) (by simp only [List.length_append, List.length_cons, List.length_nil]; omega)
  | _ => exact Ev.pos rfl (Ev.cst rfl)
theorem implWordsIn {s : ByteArray} (hs : s.size ≤ 1048576) : Ev (fun k => U18.f k s) (wR (wordsI s)) := by
 have hlen : (wsI s).length = Lib.countB s (ByteArray.mk #[32]) + 1 := Lib.splitB_all _ (by decide) 0 _ s rfl
 have hsz := split_size (ByteArray.mk #[32]) 0 (Lib.countB s (ByteArray.mk #[32])) s
 unfold U18.f wordsI
 have hsp : ∀ k, strings_Split.f k s (ByteArray.mk #[32]) = some (one (wsI s)) := fun k => by
  show Option.map _ (bif decide (s.size < 4294967281) && decide (1 ≤ (ByteArray.mk #[32]).size) then _ else none) = _
  rw [dpos (show s.size < 4294967281 by omega)]
  rfl
 refine Ev.bind (Ev.all hsp) ?_
 by_cases c : 20 < (wsI s).length
 ·rw [if_pos c]
  exact Ev.dp (by show (20 : Int) < (((wsI s).length : Nat) : Int); omega) (Ev.cst rfl)
 ·rw [if_neg c]
  refine Ev.dn (by show ¬ (20 : Int) < (((wsI s).length : Nat) : Int); omega) (Ev.dd (by omega) (by show (1 : Int) ≤ (((wsI s).length : Nat) : Int); omega) ?_)
  exact implPrs_l (a0 := wsI s) (a1 := (wsI s).drop 1) (by omega) (fun w hw => Nat.le_trans (hsz w (List.mem_of_mem_drop hw)) hs) (by rw [List.length_drop]; omega) _ 0 [] (Nat.zero_add _) (Nat.le_refl _)
def ixW (w : ByteArray) : List ByteArray → Nat → Int
 | [], _ => -1
 | x :: l, i => bif strEq w x then (i : Int) else ixW w l (i + 1)
def lsW (w : ByteArray) : List ByteArray → Nat → Int → Int
 | [], _, c => c
 | x :: l, i, c => bif strEq x w then lsW w l (i + 1) (i : Int) else lsW w l (i + 1) c
theorem implIx_l {W : List ByteArray} (w : ByteArray) (hW : W.length ≤ 1000) : ∀ d i, i + d = W.length → Ev (fun k => U20.l0 k W w ((W.length : Nat) : Int) (i : Int)) (one (ixW w (W.drop i) i)) := by
 intro d
 induction d with
 | zero =>
  intro i hi
  refine Ev.sk1 ?_
  show Ev (fun k => U20.l0_ k (U20.l0 k) _ _ _ _) _
  unfold U20.l0_
  rw [List.drop_of_length_le (by omega)]
  exact Ev.dn (by omega) (Ev.cst rfl)
 | succ d ih =>
  intro i hi
  have hlt : i < W.length := by omega
  refine Ev.sk1 ?_
  show Ev (fun k => U20.l0_ k (U20.l0 k) _ _ _ _) _
  unfold U20.l0_
  rw [wrap_nat (show i < 9223372036854775807 by omega), get_in hlt, List.drop_eq_getElem_cons hlt]
  refine Ev.dp (by omega) (Ev.dd (by omega) (by omega) ?_)
  show Ev _ (one (bif strEq w W[i] then (i : Int) else ixW w (W.drop (i + 1)) (i + 1)))
  cases hq : strEq w W[i] with
  | true => exact Ev.pos rfl (Ev.cst rfl)
  | false => exact Ev.neg rfl (ih (i + 1) (by omega))
theorem implIx {W : List ByteArray} (w : ByteArray) (hW : W.length ≤ 1000) : Ev (fun k => U20.f k W w) (one (ixW w W 0)) := implIx_l w hW _ 0 (Nat.zero_add _)
theorem ixW_range (w : ByteArray) : ∀ (l : List ByteArray) (i : Nat), -1 ≤ ixW w l i ∧ ixW w l i < ((i + l.length : Nat) : Int)
 | [], i => ⟨Int.le_refl _, by show (-1 : Int) < _; omega⟩
 | x :: l, i => by
  unfold ixW
  cases strEq w x with
  | true => exact ⟨by show (-1 : Int) ≤ (i : Int); omega, by show (i : Int) < _; simp only [List.length_cons]; omega⟩
  | false =>
   have := ixW_range w l (i + 1)
   exact ⟨this.1, by show ixW w l (i + 1) < _; have := this.2; simp only [List.length_cons]; omega⟩
def rdR : Option tInstD → U17.R
 | none => (((0, 0, 0, 0, 0, 0, (), ()), (false, ()), ()), ([], ()))
 | some i => (((i.1, i.2.1, i.2.2.1, i.2.2.2.1, i.2.2.2.2.1, i.2.2.2.2.2.1, (), ()), (true, ()), ()), (i.2.2.2.2.2.2.1, ()))
def txtS (i : tInstD) : ByteArray := bif instB 60 3 i then textI i else ByteArray.empty
theorem specTxtS {i : tInstD} (hs : i.2.2.2.2.2.2.1.length ≤ 1048576) : Ev (fun k => U16.f k i) (one (txtS i)) := by
 unfold U16.f txtS
 refine Ev.bind (a := one (instB 60 3 i)) (Ev.bind (specInst hs (by omega) (by omega) (by omega) (by omega)) (Ev.cst rfl)) ?_
 cases h : instB 60 3 i with
 | false => exact Ev.pos rfl (Ev.cst rfl)
 | true => exact Ev.neg rfl (Ev.bind (specText (txt_of (Int.le_refl _) h)) (Ev.cst rfl))
theorem specAt (l : List Int) (i : Nat) (k : Nat) : U4.f k l (i : Int) = some (one (l.getD i 0)) := by
 unfold U4.f
 by_cases h : i < l.length
 ·rw [dpos (show (i : Int) < ((l.length : Nat) : Int) by omega), dpos (show (0 : Int) ≤ (i : Int) by omega), Int.toNat_natCast]
  rfl
 ·have e : l.getD i 0 = 0 := by rw [List.getD_eq_getElem?_getD, List.getElem?_eq_none (by omega)]; rfl
  rw [dneg (show ¬ (i : Int) < ((l.length : Nat) : Int) by omega), e]
  rfl
theorem specAt0 (l : List Int) (k : Nat) : U4.f k l 0 = some (one (l.getD 0 0)) := specAt l 0 k
theorem specAt1 (l : List Int) (k : Nat) : U4.f k l 1 = some (one (l.getD 1 0)) := specAt l 1 k
theorem specAt2 (l : List Int) (k : Nat) : U4.f k l 2 = some (one (l.getD 2 0)) := specAt l 2 k
theorem specAt3 (l : List Int) (k : Nat) : U4.f k l 3 = some (one (l.getD 3 0)) := specAt l 3 k
def sInst (op : Int) (n : List Int) : tInstD :=
 bif decide (op = 26) then (op, n.getD 0 0, 0, 0, 0, n.getD 1 0, n.drop 2, ()) else
 bif decide (op = 21) then (op, n.getD 0 0, 0, 0, 0, n.getD 1 0, [], ()) else (op, n.getD 0 0, n.getD 1 0, n.getD 2 0, n.getD 3 0, 0, [], ())
def sFin (s : ByteArray) (ok : Bool) (op : Int) (n : List Int) : Option tInstD :=
 bif !ok then none else bif decide (op = 0) then none else bif decide (((n.length : Nat) : Int) = 0) then none else bif !strEq (txtS (sInst op n)) s then none else some (sInst op n)
theorem specEnd {s w : ByteArray} {ok : Bool} {W : List ByteArray} {op : Int} {n : List Int} (hn : n.length ≤ 20) : Ev (fun k => U17.l0 k s w ok ((W.length : Nat) : Int) 0 0 0 0 0 0 [] n W op (n.getD 0 0) 0 0 0 0 []) (rdR (sFin s ok op n)) := by
 refine Ev.sk1 ?_
 show Ev (fun k => U17.l0_ k (U17.l0 k) _ _ _ _ _ _ _ _ _ _ _ _ _ _ _ _ _ _ _ _) _
 unfold U17.l0_ sFin
 refine Ev.dn (by omega) ?_
 cases ok with
 | false => exact Ev.pos rfl (Ev.cst rfl)
 | true =>
  refine Ev.neg rfl ?_
  by_cases c0 : op = 0
  ·rw [dpos c0]; exact Ev.pos rfl (Ev.cst rfl)
  ·rw [dneg c0]
   refine Ev.neg rfl ?_
   by_cases c1 : ((n.length : Nat) : Int) = 0
   ·rw [dpos c1]; exact Ev.pos rfl (Ev.cst rfl)
   ·rw [dneg c1]
    refine Ev.neg rfl ?_
    unfold sInst
    by_cases c2 : op = 26
    ·rw [dpos c2]
     refine Ev.pos rfl (Ev.bind (Ev.all fun k => specAt1 n k) ?_)
     by_cases c3 : (2 : Int) < ((n.length : Nat) : Int)
     ·refine Ev.dp c3 (Ev.dd (by omega) (by omega) (Ev.bind (specTxtS (i := (op, n.getD 0 0, 0, 0, 0, n.getD 1 0, n.drop 2, ())) (by show (n.drop 2).length ≤ _; rw [List.length_drop]; omega)) ?_))
      show Ev (fun k => bif !strEq (txtS (op, n.getD 0 0, 0, 0, 0, n.getD 1 0, n.drop 2, ())) s then _ else _) (rdR (bif !true then none else bif false then none else bif false then none else bif !strEq (txtS (op, n.getD 0 0, 0, 0, 0, n.getD 1 0, n.drop 2, ())) s then none else some (op, n.getD 0 0, 0, 0, 0, n.getD 1 0, n.drop 2, ())))
      cases strEq (txtS (op, n.getD 0 0, 0, 0, 0, n.getD 1 0, n.drop 2, ())) s with
      | true => exact Ev.neg rfl (Ev.cst rfl)
      | false => exact Ev.pos rfl (Ev.cst rfl)
     ·have hd : n.drop 2 = [] := List.drop_of_length_le (by omega)
      rw [hd]
      refine Ev.dn c3 (Ev.bind (specTxtS (i := (op, n.getD 0 0, 0, 0, 0, n.getD 1 0, [], ())) (by show (0 : Nat) ≤ _; omega)) ?_)
      show Ev (fun k => bif !strEq (txtS (op, n.getD 0 0, 0, 0, 0, n.getD 1 0, [], ())) s then _ else _) (rdR (bif !true then none else bif false then none else bif false then none else bif !strEq (txtS (op, n.getD 0 0, 0, 0, 0, n.getD 1 0, [], ())) s then none else some (op, n.getD 0 0, 0, 0, 0, n.getD 1 0, [], ())))
      cases strEq (txtS (op, n.getD 0 0, 0, 0, 0, n.getD 1 0, [], ())) s with
      | true => exact Ev.neg rfl (Ev.cst rfl)
      | false => exact Ev.pos rfl (Ev.cst rfl)
    ·rw [dneg c2]
     refine Ev.neg rfl ?_
     by_cases c3 : op = 21
     ·rw [dpos c3]
      refine Ev.pos rfl (Ev.bind (Ev.all fun k => specAt1 n k) (Ev.bind (specTxtS (i := (op, n.getD 0 0, 0, 0, 0, n.getD 1 0, [], ())) (by show (0 : Nat) ≤ _; omega)) ?_))
      show Ev (fun k => bif !strEq (txtS (op, n.getD 0 0, 0, 0, 0, n.getD 1 0, [], ())) s then _ else _) (rdR (bif !true then none else bif false then none else bif false then none else bif !strEq (txtS (op, n.getD 0 0, 0, 0, 0, n.getD 1 0, [], ())) s then none else some (op, n.getD 0 0, 0, 0, 0, n.getD 1 0, [], ())))
      cases strEq (txtS (op, n.getD 0 0, 0, 0, 0, n.getD 1 0, [], ())) s with
      | true => exact Ev.neg rfl (Ev.cst rfl)
      | false => exact Ev.pos rfl (Ev.cst rfl)
     ·rw [dneg c3]
      refine Ev.neg rfl (Ev.bind (Ev.all fun k => specAt1 n k) (Ev.bind (Ev.all fun k => specAt2 n k) (Ev.bind (Ev.all fun k => specAt3 n k) (Ev.bind (specTxtS (i := (op, n.getD 0 0, n.getD 1 0, n.getD 2 0, n.getD 3 0, 0, [], ())) (by show (0 : Nat) ≤ _; omega)) ?_))))
      show Ev (fun k => bif !strEq (txtS (op, n.getD 0 0, n.getD 1 0, n.getD 2 0, n.getD 3 0, 0, [], ())) s then _ else _) (rdR (bif !true then none else bif false then none else bif false then none else bif !strEq (txtS (op, n.getD 0 0, n.getD 1 0, n.getD 2 0, n.getD 3 0, 0, [], ())) s then none else some (op, n.getD 0 0, n.getD 1 0, n.getD 2 0, n.getD 3 0, 0, [], ())))
      cases strEq (txtS (op, n.getD 0 0, n.getD 1 0, n.getD 2 0, n.getD 3 0, 0, [], ())) s with
      | true => exact Ev.neg rfl (Ev.cst rfl)
      | false => exact Ev.pos rfl (Ev.cst rfl)
theorem specIx_l {s w : ByteArray} {ok : Bool} {W : List ByteArray} {n : List Int} {w0 : Int} {r : U17.R} (hW : W.length ≤ 1000) : ∀ d i cur, i + d = W.length → Ev (fun k => U17.l0 k s w ok ((W.length : Nat) : Int) 0 0 0 0 0 0 [] n W (lsW w (W.drop i) i cur) w0 0 0 0 0 []) r → Ev (fun k => U17.l0 k s w ok (i : Int) 0 0 0 0 0 0 [] n W cur w0 0 0 0 0 []) r := by
 intro d
 induction d with
 | zero =>
  intro i cur hi e
  obtain rfl : i = W.length := by omega
  rw [List.drop_length] at e
  exact e
 | succ d ih =>
  intro i cur hi e
  have hlt : i < W.length := by omega
  rw [List.drop_eq_getElem_cons hlt] at e
  refine Ev.sk1 ?_
  show Ev (fun k => U17.l0_ k (U17.l0 k) _ _ _ _ _ _ _ _ _ _ _ _ _ _ _ _ _ _ _ _) _
  unfold U17.l0_
  simp only [wrap_nat (show i < 9223372036854775807 by omega), get_in hlt]
  refine Ev.dp (by omega) (Ev.dd (by omega) (by omega) ?_)
  have e' : Ev (fun k => U17.l0 k s w ok ((W.length : Nat) : Int) 0 0 0 0 0 0 [] n W (bif strEq W[i] w then lsW w (W.drop (i + 1)) (i + 1) (i : Int) else lsW w (W.drop (i + 1)) (i + 1) cur) w0 0 0 0 0 []) r := e
  cases hq : strEq W[i] w with
  | true => rw [hq] at e'; exact Ev.pos rfl (ih (i + 1) _ (by omega) e')
  | false => rw [hq] at e'; exact Ev.neg rfl (ih (i + 1) _ (by omega) e')
def sRes (s : ByteArray) : Option tInstD := sFin s (splS 20 (cutL (bl s)).2.1 (cutL (bl s)).2.2 []).1 (lsW (toB (cutL (bl s)).1) wordsL 1 0) (splS 20 (cutL (bl s)).2.1 (cutL (bl s)).2.2 []).2
set_option maxRecDepth 20000 in
theorem specRd {s : ByteArray} (hs : s.size ≤ 1048576) : Ev (fun k => U17.f k s) (rdR (sRes s)) := by
 have hl := spl_len 20 (cutL (bl s)).2.1 (cutL (bl s)).2.2 []
 unfold U17.f sRes
 refine Ev.bind (specSplit hs) (Ev.bind (Ev.all specWords) (Ev.bind (Ev.all fun k => specAt0 _ k) ?_))
 refine specIx_l (W := ByteArray.empty :: wordsL) (by rw [List.length_cons, words_len]; decide) wordsL.length 1 0 (by rw [List.length_cons]; omega) ?_
 exact specEnd (by simpa using hl)
def nmI (op w imm : Int) (ids : List Int) : Option tInstD :=
 bif decide (op = 26) then some (op, w, 0, 0, 0, imm, ids, ()) else
 bif !decide (((ids.length : Nat) : Int) = (((opsB (op, w, 0, 0, 0, imm, [], ())).length : Nat) : Int)) then none else some (op, w, ids.getD 0 0, ids.getD 1 0, ids.getD 2 0, imm, [], ())
theorem implNm_l (op w imm : Int) : ∀ ids : List Int, ids.length ≤ 3 → Ev (fun k => U26.l0 k ids ((ids.length : Nat) : Int) 0 0 0 0 0 0 0 [] op w 0 0 0 imm []) (rdR (some (op, w, ids.getD 0 0, ids.getD 1 0, ids.getD 2 0, imm, [], ())))
 | [], _ => ⟨1, fun k hk => by obtain ⟨k, rfl⟩ : ∃ j, k = j + 1 := ⟨k - 1, by omega⟩; rfl⟩
 | [a], _ => ⟨2, fun k hk => by obtain ⟨k, rfl⟩ : ∃ j, k = j + 2 := ⟨k - 2, by omega⟩; rfl⟩
 | [a, b], _ => ⟨3, fun k hk => by obtain ⟨k, rfl⟩ : ∃ j, k = j + 3 := ⟨k - 3, by omega⟩; rfl⟩
 | [a, b, c], _ => ⟨4, fun k hk => by obtain ⟨k, rfl⟩ : ∃ j, k = j + 4 := ⟨k - 4, by omega⟩; rfl⟩
 | _ :: _ :: _ :: _ :: _, h => by simp at h
theorem implNm {op w imm : Int} {ids : List Int} (hl : ids.length ≤ 20) : Ev (fun k => U26.f k op w imm ids) (rdR (nmI op w imm ids)) := by
 unfold U26.f nmI
 by_cases c : op = 26
 ·rw [dpos c]
  exact Ev.pos rfl (Ev.bind (Ev.all fun k => implClone k (by omega)) (Ev.cst rfl))
 ·rw [dneg c]
  refine Ev.neg rfl (Ev.bind (Ev.all fun k => implOps (i := (op, w, 0, 0, 0, imm, [], ())) k (by show (0 : Nat) ≤ _; omega)) ?_)
  have h3 := opsB_few (i := (op, w, 0, 0, 0, imm, [], ())) c
  by_cases c2 : ((ids.length : Nat) : Int) = (((opsB (op, w, 0, 0, 0, imm, [], ())).length : Nat) : Int)
  ·rw [dpos c2]
   exact Ev.neg rfl (implNm_l op w imm ids (by omega))
  ·rw [dneg c2]
   exact Ev.pos rfl (Ev.cst rfl)
theorem nmI_len {op w imm : Int} {ids : List Int} (hl : ids.length ≤ 20) {i : tInstD} (h : nmI op w imm ids = some i) : i.2.2.2.2.2.2.1.length ≤ 1048576 := by
 unfold nmI at h
 by_cases c : op = 26
 ·rw [dpos c] at h
  obtain rfl := Option.some.inj h
  show ids.length ≤ _; omega
 ·rw [dneg c] at h
  obtain ⟨_, h⟩ : _ ∧ _ := ⟨trivial, h⟩
  cases hc : !decide (((ids.length : Nat) : Int) = (((opsB (op, w, 0, 0, 0, imm, [], ())).length : Nat) : Int)) with
  | true => rw [hc] at h; cases h
  | false =>
   rw [hc] at h
   obtain rfl := Option.some.inj (show some _ = some i from h)
   show (0 : Nat) ≤ _; omega
def chkI (s : ByteArray) : Option tInstD → Option tInstD
 | none => none
 | some i => bif instB 60 3 i && strEq (textI i) s then some i else none
/-- The end: what was named is looked at. -/
theorem implChk {s : ByteArray} {op w imm : Int} {ids : List Int} (hl : ids.length ≤ 20) : Ev (fun k => Option.bind (U26.f k op w imm ids) fun r5 => bif !r5.1.2.1.1 then (some (((0, 0, 0, 0, 0, 0, (), ()), (false, ()), ()), (([] : List Int), ()))) else (Option.bind (U38.f k (r5.1.1.1, r5.1.1.2.1, r5.1.1.2.2.1, r5.1.1.2.2.2.1, r5.1.1.2.2.2.2.1, r5.1.1.2.2.2.2.2.1, r5.2.1, ()) 60 3) fun r6 => bif !r6.1.1.1 then (some (((0, 0, 0, 0, 0, 0, (), ()), (false, ()), ()), (([] : List Int), ()))) else (Option.bind (U40.f k (r5.1.1.1, r5.1.1.2.1, r5.1.1.2.2.1, r5.1.1.2.2.2.1, r5.1.1.2.2.2.2.1, r5.1.1.2.2.2.2.2.1, r5.2.1, ())) fun r7 => bif !strEq r7.1.1.1 s then (some (((0, 0, 0, 0, 0, 0, (), ()), (false, ()), ()), (([] : List Int), ()))) else (some (((r5.1.1.1, r5.1.1.2.1, r5.1.1.2.2.1, r5.1.1.2.2.2.1, r5.1.1.2.2.2.2.1, r5.1.1.2.2.2.2.2.1, (), ()), (true, ()), ()), (r5.2.1, ())))))) (rdR (chkI s (nmI op w imm ids))) := by
 refine Ev.bind (implNm hl) ?_
 cases hq : nmI op w imm ids with
 | none => exact Ev.pos rfl (Ev.cst rfl)
 | some i =>
  have hlen := nmI_len hl hq
  refine Ev.neg rfl (Ev.bind (implInst (i := i) hlen (count := 60) (funcs := 3) (by omega) (by omega) (by omega) (by omega)) ?_)
  show Ev _ (rdR (bif instB 60 3 i && strEq (textI i) s then some i else none))
  cases hb : instB 60 3 i with
  | false => exact Ev.pos rfl (Ev.cst rfl)
  | true =>
   refine Ev.neg rfl (Ev.bind (implText (txt_of (Int.le_refl _) hb)) ?_)
   show Ev (fun k => bif !strEq (textI i) s then _ else _) _
   cases strEq (textI i) s with
   | true => exact Ev.neg rfl (Ev.cst rfl)
   | false => exact Ev.pos rfl (Ev.cst rfl)
def hasOp (op : Int) : Bool := decide (op = 21) || decide (op = 26)
theorem implHas (op : Int) (k : Nat) : U21.f k op = some (one (hasOp op)) := by
 unfold U21.f hasOp
 cases decide (op = 21) <;> rfl
def iFin (s : ByteArray) (op : Int) (n : List Int) : Option tInstD :=
 bif decide (op = 0) then none else
 bif hasOp op then (bif decide (((n.length : Nat) : Int) < 2) then none else chkI s (nmI op (n.getD 0 0) (n.getD 1 0) (n.drop 2)))
 else (bif decide (((n.length : Nat) : Int) < 1) then none else chkI s (nmI op (n.getD 0 0) 0 (n.drop 1)))
def iRes (s : ByteArray) : Option tInstD := match wordsI s with
 | none => none
 | some p => iFin s (ixW p.1 wordsL 0 + 1) p.2
theorem prs_len : ∀ (ws : List ByteArray) (out l : List Int), prsI ws out = some l → l.length = out.length + ws.length
 | [], out, l, h => by rw [← Option.some.inj h]; rfl
 | w :: ws, out, l, h => by
  unfold prsI at h
  split at h
  ·have := prs_len ws _ l h
   simp only [List.length_append, List.length_cons, List.length_nil] at this ⊢
   omega
  ·cases h
theorem words_few {s : ByteArray} {p : ByteArray × List Int} (h : wordsI s = some p) : p.2.length ≤ 20 := by
 unfold wordsI at h
 split at h
 ·cases h
 ·obtain ⟨l, h1, h2⟩ := Option.map_eq_some_iff.1 h
  have := prs_len _ _ _ h1
  rw [← h2]
  simp only [List.length_drop, List.length_nil] at this
  show l.length ≤ 20
  omega
set_option maxRecDepth 20000 in
theorem implRd {s : ByteArray} (hs : s.size ≤ 1048576) : Ev (fun k => U41.f k s) (rdR (iRes s)) := by
 have hW : wordsL.length ≤ 1000 := by rw [words_len]; decide
 unfold U41.f iRes
 refine Ev.bind (implWordsIn hs) (Ev.bind (Ev.all implWords) ?_)
 cases hw : wordsI s with
 | none =>
  refine Ev.bind (implIx _ hW) (Ev.bind (Ev.all fun k => implHas _ k) ?_)
  show Ev (fun k => bif hasOp (IntKind.wrap .i64 (ixW ByteArray.empty wordsL 0 + 1)) then _ else _) _
  cases hasOp (IntKind.wrap .i64 (ixW ByteArray.empty wordsL 0 + 1)) with
  | true => exact Ev.pos rfl (Ev.pos rfl (Ev.cst rfl))
  | false => exact Ev.neg rfl (Ev.pos rfl (Ev.cst rfl))
 | some p =>
  have h20 := words_few hw
  have hr := ixW_range p.1 wordsL 0
  rw [words_len] at hr
  refine Ev.bind (implIx p.1 hW) ?_
  show Ev _ (rdR (iFin s (ixW p.1 wordsL 0 + 1) p.2))
  have hwr : IntKind.wrap .i64 ((one (ixW p.1 wordsL 0)).1.1.1 + 1) = ixW p.1 wordsL 0 + 1 := wrap_id (by show -9223372036854775808 ≤ ixW p.1 wordsL 0 + 1; omega) (by show ixW p.1 wordsL 0 + 1 ≤ _; omega)
  rw [hwr]
  generalize ixW p.1 wordsL 0 + 1 = op
  obtain ⟨w, n⟩ := p
  have h20' : n.length ≤ 20 := h20
  refine Ev.bind (Ev.all fun k => implHas op k) ?_
  unfold iFin
  show Ev (fun k => bif hasOp op then _ else _) _
  cases hasOp op with
  | true =>
   refine Ev.pos rfl (Ev.neg rfl ?_)
   by_cases c : op = 0
   ·rw [dpos c]; exact Ev.pos rfl (Ev.cst rfl)
   ·rw [dneg c]
    refine Ev.neg rfl ?_
    by_cases c2 : ((n.length : Nat) : Int) < 2
    ·rw [dpos c2]; exact Ev.dp c2 (Ev.cst rfl)
    ·rw [dneg c2]
     exact Ev.dn c2 (Ev.dp rfl (Ev.dd (by omega) (by show (1 : Int) < ((n.length : Nat) : Int); omega) (Ev.dd (by omega) (by show (0 : Int) < ((n.length : Nat) : Int); omega) (Ev.dd (by omega) (by show (2 : Int) ≤ ((n.length : Nat) : Int); omega) (implChk (ids := n.drop 2) (by rw [List.length_drop]; omega))))))
  | false =>
   refine Ev.neg rfl (Ev.neg rfl ?_)
   by_cases c : op = 0
   ·rw [dpos c]; exact Ev.pos rfl (Ev.cst rfl)
   ·rw [dneg c]
    refine Ev.neg rfl ?_
    by_cases c2 : ((n.length : Nat) : Int) < 1
    ·rw [dpos c2]; exact Ev.dp c2 (Ev.cst rfl)
    ·rw [dneg c2]
     exact Ev.dn c2 (Ev.dn (by decide) (Ev.dd (by omega) (by show (0 : Int) < ((n.length : Nat) : Int); omega) (Ev.dd (by omega) (by show (1 : Int) ≤ ((n.length : Nat) : Int); omega) (implChk (ids := n.drop 1) (by rw [List.length_drop]; omega)))))
def wordsN : List (List UInt8) := [[97, 100, 100], [115, 117, 98], [109, 117, 108], [117, 100, 105, 118], [115, 100, 105, 118], [117, 114, 101, 109], [115, 114, 101, 109], [97, 110, 100], [111, 114], [120, 111, 114], [115, 104, 108], [108, 115, 104, 114], [97, 115, 104, 114], [101, 113], [110, 101], [117, 108, 116], [115, 108, 116], [122, 101, 120, 116], [115, 101, 120, 116], [116, 114, 117, 110, 99], [99, 111, 110, 115, 116], [115, 101, 108, 101, 99, 116], [108, 111, 97, 100], [115, 116, 111, 114, 101], [112, 114, 105, 110, 116], [99, 97, 108, 108], [99, 111, 112, 121]]
set_option maxRecDepth 100000 in
theorem words_bl : wordsL.map bl = wordsN := by kernel_rfl
theorem strEq_bl (a b : ByteArray) : strEq a b = (bl a == bl b) := by
 unfold strEq
 rw [Lib.toList_data, Lib.toList_data]
def ixL (w : List UInt8) : List (List UInt8) → Nat → Int
 | [], _ => -1
 | x :: l, i => bif w == x then (i : Int) else ixL w l (i + 1)
def lsL (w : List UInt8) : List (List UInt8) → Nat → Int → Int
 | [], _, c => c
 | x :: l, i, c => bif x == w then lsL w l (i + 1) (i : Int) else lsL w l (i + 1) c
theorem ixW_L (w : ByteArray) : ∀ (l : List ByteArray) (i : Nat), ixW w l i = ixL (bl w) (l.map bl) i
 | [], _ => rfl
 | x :: l, i => by
  show (bif strEq w x then (i : Int) else ixW w l (i + 1)) = (bif bl w == bl x then (i : Int) else ixL (bl w) (l.map bl) (i + 1))
  rw [strEq_bl, ixW_L w l (i + 1)]
theorem lsW_L (w : ByteArray) : ∀ (l : List ByteArray) (i : Nat) (c : Int), lsW w l i c = lsL (bl w) (l.map bl) i c
 | [], _, _ => rfl
 | x :: l, i, c => by
  show (bif strEq x w then lsW w l (i + 1) (i : Int) else lsW w l (i + 1) c) = (bif bl x == bl w then lsL (bl w) (l.map bl) (i + 1) (i : Int) else lsL (bl w) (l.map bl) (i + 1) c)
  rw [strEq_bl, lsW_L w l (i + 1), lsW_L w l (i + 1)]
set_option maxRecDepth 100000 in
theorem words_ok : ((List.range 27).all fun j => (wordsN.getD j []).all (fun c => !(c == 32)) && (decide (ixL (wordsN.getD j []) wordsN 0 = (j : Int)) && decide (lsL (wordsN.getD j []) wordsN 1 0 = ((j + 1 : Nat) : Int)))) = true := by kernel_rfl
theorem word_bl {op : Int} (h1 : 1 ≤ op) (h2 : op ≤ 27) : bl (wordB op) = wordsN.getD (op - 1).toNat [] := by
 unfold wordB
 have hlt : (op - 1).toNat < wordsL.length := by rw [words_len]; omega
 rw [getD_at _ _ _ hlt, ← words_bl, List.getD_eq_getElem?_getD, List.getElem?_map, List.getElem?_eq_getElem hlt]
 rfl
theorem word_facts {op : Int} (h1 : 1 ≤ op) (h2 : op ≤ 27) : (∀ c ∈ bl (wordB op), c ≠ 32) ∧ ixW (wordB op) wordsL 0 = op - 1 ∧ lsW (wordB op) wordsL 1 0 = op := by
 have h := List.all_eq_true.1 words_ok (op - 1).toNat (List.mem_range.2 (by omega))
 simp only [Bool.and_eq_true, decide_eq_true_eq, List.all_eq_true] at h
 rw [ixW_L, lsW_L, words_bl, word_bl h1 h2, h.2.1, h.2.2]
 refine ⟨fun c hc e => ?_, by omega, by omega⟩
 have := h.1 c hc
 rw [e] at this
 cases this
def numsI (i : tInstD) : List Int := i.2.1 :: bif hasI i then i.2.2.2.2.2.1 :: opsB i else opsB i
theorem numsB_cons (n : Int) (l : List Int) : numsB (n :: l) = numB n ++ numsB l := rfl
theorem textI_nums (i : tInstD) : textI i = wordB i.1 ++ numsB (numsI i) := by
 unfold textI textW numsI
 cases hasI i with
 | true => rw [cond_true, cond_true, numsB_cons, numsB_cons]; simp only [ByteArray.append_assoc]
 | false => rw [cond_false, cond_false, numsB_cons]; simp only [ByteArray.append_assoc]
theorem inst_small {i : tInstD} (h : instB 60 3 i = true) : (∀ n ∈ numsI i, small10 n) ∧ (numsI i).length ≤ 6 := by
 have ht := txt_of (Int.le_refl _) h
 have hol := ht.ol
 simp only [instB, Bool.and_eq_true, decide_eq_true_eq, List.all_eq_true] at h
 obtain ⟨⟨⟨⟨⟨⟨h1, h2⟩, h3⟩, h4⟩, h5⟩, h6⟩, h7⟩ := h
 have ho : ∀ n ∈ opsB i, small10 n := fun n hn => by
  have : 0 ≤ n ∧ n ≤ 59 := by simpa [inB] using h4 n hn
  exact ⟨this.1, by omega⟩
 have hw : small10 i.2.1 := by
  unfold widB at h6
  by_cases c1 : i.1 = 24
  ·rw [dpos c1] at h6
   have : i.2.1 = 0 := by simpa using h6
   exact ⟨by omega, by omega⟩
  ·by_cases c2 : i.1 = 25
   ·rw [dpos c2, Bool.or_true] at h6
    have : i.2.1 = 0 := by simpa using h6
    exact ⟨by omega, by omega⟩
   ·rw [dneg c1, dneg c2] at h6
    by_cases c3 : i.1 = 23
    ·rw [dpos c3] at h6
     have : i.2.1 = 8 := by simpa using h6
     exact ⟨by omega, by omega⟩
    ·rw [dneg c3] at h6
     rcases wOk_cases (show wOk i.2.1 = true from h6) with e | e | e | e <;> exact ⟨by omega, by omega⟩
 have hm : small10 i.2.2.2.2.2.1 := by
  unfold immB at h7
  by_cases c1 : i.1 = 21
  ·rw [dpos c1] at h7
   have h8 : (wOk i.2.1 && inB 0 (topOf i.2.1) i.2.2.2.2.2.1) = true := h7
   rw [Bool.and_eq_true] at h8
   have h9 : 0 ≤ i.2.2.2.2.2.1 ∧ i.2.2.2.2.2.1 ≤ topOf i.2.1 := by simpa [inB] using h8.2
   have ht' : topOf i.2.1 ≤ 4294967295 := by
    rcases wOk_cases h8.1 with e | e | e | e <;> rw [e] <;> decide
   exact ⟨h9.1, by omega⟩
  ·rw [dneg c1] at h7
   by_cases c2 : i.1 = 26
   ·rw [dpos c2] at h7
    have h9 : 0 ≤ i.2.2.2.2.2.1 ∧ i.2.2.2.2.2.1 ≤ 2 := by simpa [inB] using h7
    exact ⟨h9.1, by omega⟩
   ·rw [dneg c2] at h7
    have : i.2.2.2.2.2.1 = 0 := by simpa using h7
    exact ⟨by omega, by omega⟩
 unfold numsI
 cases hasI i with
 | true =>
  refine ⟨fun n hn => ?_, by simp only [cond_true, List.length_cons]; omega⟩
  rcases List.mem_cons.1 hn with rfl | hn
  ·exact hw
  ·rcases List.mem_cons.1 (show n ∈ i.2.2.2.2.2.1 :: opsB i from hn) with rfl | hn
   ·exact hm
   ·exact ho n hn
 | false =>
  refine ⟨fun n hn => ?_, by simp only [cond_false, List.length_cons]; omega⟩
  rcases List.mem_cons.1 hn with rfl | hn
  ·exact hw
  ·exact ho n (show n ∈ opsB i from hn)
theorem textI_bl {i : tInstD} (h : instB 60 3 i = true) : textI i = toB (bl (wordB i.1) ++ joinL (numsI i)) := by
 rw [textI_nums, toB_app, toB_bl, numsB_bl fun n hn => ?_]
 have := (inst_small h).1 n hn
 exact ⟨this.1, by have := this.2; omega⟩
theorem inst_few {i : tInstD} (h : instB 60 3 i = true) (h26 : i.1 ≠ 26) : i.2.2.2.2.2.2.1 = [] := by
 simp only [instB, Bool.and_eq_true, Bool.or_eq_true, decide_eq_true_eq] at h
 exact List.eq_nil_of_length_eq_zero (h.1.1.1.1.2.resolve_right h26)
theorem ops_forms' {i : tInstD} (h : i.1 ≠ 26) : opsB i = [] ∨ opsB i = [i.2.2.1] ∨ opsB i = [i.2.2.1, i.2.2.2.1] ∨ opsB i = [i.2.2.1, i.2.2.2.1, i.2.2.2.2.1] := by
 unfold opsB
 rw [dneg h]
 cases inB 1 17 i.1 <;> cases decide (i.1 = 24) <;> cases inB 18 20 i.1 <;> cases decide (i.1 = 23) <;> cases decide (i.1 = 25) <;> cases decide (i.1 = 27) <;> cases decide (i.1 = 22) <;> simp
theorem ops_len {i j : tInstD} (e : i.1 = j.1) (h : i.1 ≠ 26) : (opsB i).length = (opsB j).length := by
 unfold opsB
 rw [← e, dneg h]
 cases inB 1 17 i.1 <;> cases decide (i.1 = 24) <;> cases inB 18 20 i.1 <;> cases decide (i.1 = 23) <;> cases decide (i.1 = 25) <;> cases decide (i.1 = 27) <;> cases decide (i.1 = 22) <;> rfl
theorem inst_zero {i : tInstD} (h : instB 60 3 i = true) : ([i.2.2.1, i.2.2.2.1, i.2.2.2.2.1].drop (named i)).all (fun n => decide (n = 0)) = true := by
 simp only [instB, Bool.and_eq_true] at h
 exact h.1.1.2
theorem inst_imm {i : tInstD} (h : instB 60 3 i = true) (h1 : i.1 ≠ 21) (h2 : i.1 ≠ 26) : i.2.2.2.2.2.1 = 0 := by
 simp only [instB, Bool.and_eq_true] at h
 have := h.2
 unfold immB at this
 rw [dneg h1, dneg h2] at this
 simpa using this
theorem zero3 {a b c : Int} (h : ([a, b, c].drop 0).all (fun n => decide (n = 0)) = true) : a = 0 ∧ b = 0 ∧ c = 0 := by
 simpa using h
theorem hasI_op (i : tInstD) : hasI i = hasOp i.1 := rfl
theorem sInst_back {i : tInstD} (h : instB 60 3 i = true) : sInst i.1 (numsI i) = i := by
 have hz := inst_zero h
 by_cases h26 : i.1 = 26
 ·have ho : opsB i = i.2.2.2.2.2.2.1 := by unfold opsB inB; rw [h26]; rfl
  have hn : named i = 0 := by unfold named; rw [dpos h26]; rfl
  rw [hn] at hz
  obtain ⟨a0, b0, c0⟩ := zero3 hz
  have hh : hasI i = true := by rw [hasI_op, h26]; rfl
  unfold sInst numsI
  rw [hh, ho, dpos h26]
  obtain ⟨op, w, a, b, c, m, l, u⟩ := i
  simp only at a0 b0 c0
  subst a0 b0 c0
  rfl
 ·have hargs := inst_few h h26
  have hn : named i = (opsB i).length := by unfold named; rw [dneg h26]; rfl
  rw [hn] at hz
  by_cases h21 : i.1 = 21
  ·have ho : opsB i = [] := by unfold opsB inB; rw [h21]; rfl
   have hh : hasI i = true := by rw [hasI_op, h21]; rfl
   rw [ho] at hz
   obtain ⟨a0, b0, c0⟩ := zero3 hz
   unfold sInst numsI
   rw [hh, ho, dneg h26, dpos h21]
   obtain ⟨op, w, a, b, c, m, l, u⟩ := i
   simp only at a0 b0 c0 hargs
   subst a0 b0 c0 hargs
   rfl
  ·have hh : hasI i = false := by rw [hasI_op]; unfold hasOp; rw [dneg h21, dneg h26]; rfl
   have hm := inst_imm h h21 h26
   unfold sInst numsI
   rw [hh, dneg h26, dneg h21]
   rcases ops_forms' h26 with e | e | e | e <;> rw [e] at hz ⊢ <;> obtain ⟨op, w, a, b, c, m, l, u⟩ := i <;> simp only at hm hargs <;> subst hm hargs
   ·obtain ⟨a0, b0, c0⟩ := zero3 hz
    simp only at a0 b0 c0
    subst a0 b0 c0
    rfl
   ·have hz' : b = 0 ∧ c = 0 := by simpa using hz
    obtain ⟨b0, c0⟩ := hz'
    subst b0 c0
    rfl
   ·have c0 : c = 0 := by simpa using hz
    subst c0
    rfl
   ·rfl
theorem nmI_back {i : tInstD} (h : instB 60 3 i = true) : (bif hasOp i.1 then nmI i.1 ((numsI i).getD 0 0) ((numsI i).getD 1 0) ((numsI i).drop 2) else nmI i.1 ((numsI i).getD 0 0) 0 ((numsI i).drop 1)) = some i := by
 have hz := inst_zero h
 by_cases h26 : i.1 = 26
 ·have ho : opsB i = i.2.2.2.2.2.2.1 := by unfold opsB inB; rw [h26]; rfl
  have hn : named i = 0 := by unfold named; rw [dpos h26]; rfl
  rw [hn] at hz
  obtain ⟨a0, b0, c0⟩ := zero3 hz
  have hh : hasI i = true := by rw [hasI_op, h26]; rfl
  unfold nmI numsI
  rw [← hasI_op, hh, ho, dpos h26]
  obtain ⟨op, w, a, b, c, m, l, u⟩ := i
  simp only at a0 b0 c0
  subst a0 b0 c0
  rfl
 ·have hargs := inst_few h h26
  have hn : named i = (opsB i).length := by unfold named; rw [dneg h26]; rfl
  rw [hn] at hz
  by_cases h21 : i.1 = 21
  ·have ho : opsB i = [] := by unfold opsB inB; rw [h21]; rfl
   have hh : hasI i = true := by rw [hasI_op, h21]; rfl
   rw [ho] at hz
   obtain ⟨a0, b0, c0⟩ := zero3 hz
   have ho2 : ∀ w m : Int, opsB (i.1, w, 0, 0, 0, m, [], ()) = [] := fun w m => by unfold opsB inB; rw [h21]; rfl
   unfold nmI numsI
   rw [← hasI_op, hh, ho, ho2, dneg h26]
   obtain ⟨op, w, a, b, c, m, l, u⟩ := i
   simp only at a0 b0 c0 hargs
   subst a0 b0 c0 hargs
   rfl
  ·have hh : hasI i = false := by rw [hasI_op]; unfold hasOp; rw [dneg h21, dneg h26]; rfl
   have hm := inst_imm h h21 h26
   have hlen : ∀ w m : Int, (opsB (i.1, w, 0, 0, 0, m, [], ())).length = (opsB i).length := fun w m => ops_len (i := (i.1, w, 0, 0, 0, m, [], ())) (j := i) rfl h26
   unfold nmI numsI
   rw [← hasI_op, hh, dneg h26]
   show (bif !decide ((((opsB i).length : Nat) : Int) = (((opsB (i.1, i.2.1, 0, 0, 0, 0, [], ())).length : Nat) : Int)) then none else some (i.1, i.2.1, (opsB i).getD 0 0, (opsB i).getD 1 0, (opsB i).getD 2 0, 0, [], ())) = _
   rw [hlen, dpos rfl]
   show some (i.1, i.2.1, (opsB i).getD 0 0, (opsB i).getD 1 0, (opsB i).getD 2 0, 0, [], ()) = some i
   rcases ops_forms' h26 with e | e | e | e <;> rw [e] at hz ⊢ <;> obtain ⟨op, w, a, b, c, m, l, u⟩ := i <;> simp only at hm hargs <;> subst hm hargs
   ·obtain ⟨a0, b0, c0⟩ := zero3 hz
    simp only at a0 b0 c0
    subst a0 b0 c0
    rfl
   ·have hz' : b = 0 ∧ c = 0 := by simpa using hz
    obtain ⟨b0, c0⟩ := hz'
    subst b0 c0
    rfl
   ·have c0 : c = 0 := by simpa using hz
    subst c0
    rfl
   ·rfl
theorem sRes_cut {s : ByteArray} {a b : List UInt8} {c : Bool} {p : Bool × List Int} (h : cutL (bl s) = (a, b, c)) (h2 : splS 20 b c [] = p) : sRes s = sFin s p.1 (lsW (toB a) wordsL 1 0) p.2 := by
 unfold sRes
 rw [h, ← h2]
theorem iRes_words {s w : ByteArray} {n : List Int} (h : wordsI s = some (w, n)) : iRes s = iFin s (ixW w wordsL 0 + 1) n := by
 unfold iRes
 rw [h]
theorem sRes_text {i : tInstD} (h : instB 60 3 i = true) : sRes (textI i) = some i := by
 have ht := txt_of (Int.le_refl _) h
 obtain ⟨hs, hl⟩ := inst_small h
 obtain ⟨f1, f2, f3⟩ := word_facts ht.op1 ht.op2
 have hb : bl (textI i) = bl (wordB i.1) ++ joinL (numsI i) := by rw [textI_bl h, bl_toB]
 have hcut : cutL (bl (textI i)) = (bl (wordB i.1), digs i.2.1 ++ joinL (numsI i).tail, true) := by rw [hb]; exact cut_word f1 _
 have hspl : splS 20 (digs i.2.1 ++ joinL (numsI i).tail) true [] = (true, numsI i) := by
  have := spl_more (numsI i).tail i.2.1 20 [] (by rw [List.length_tail]; omega) (hs _ (by unfold numsI; simp)) fun m hm => hs m (List.mem_of_mem_tail hm)
  rw [this]; rfl
 rw [sRes_cut hcut hspl, toB_bl, f3]
 unfold sFin
 rw [sInst_back h]
 have hq : strEq (txtS i) (textI i) = true := by unfold txtS; rw [h]; exact strEq_iff.2 rfl
 rw [hq, dneg (show ¬ i.1 = 0 by have := ht.op1; omega), dneg (show ¬ (((numsI i).length : Nat) : Int) = 0 by unfold numsI; simp only [List.length_cons]; omega)]
 rfl
theorem sRes_ok {s : ByteArray} {i : tInstD} (h : sRes s = some i) : instB 60 3 i = true ∧ textI i = s := by
 unfold sRes sFin at h
 generalize hp : splS 20 (cutL (bl s)).2.1 (cutL (bl s)).2.2 [] = p at h
 cases ho : p.1 with
 | false => rw [ho] at h; cases h
 | true =>
  rw [ho] at h
  generalize lsW (toB (cutL (bl s)).1) wordsL 1 0 = op at h
  by_cases c0 : op = 0
  ·rw [dpos c0] at h; cases h
  ·rw [dneg c0] at h
   by_cases c1 : ((p.2.length : Nat) : Int) = 0
   ·rw [dpos c1] at h; cases h
   ·rw [dneg c1] at h
    have h' : (bif !strEq (txtS (sInst op p.2)) s then none else some (sInst op p.2)) = some i := h
    cases hq : strEq (txtS (sInst op p.2)) s with
    | false => rw [hq] at h'; cases h'
    | true =>
     rw [hq] at h'
     have hi : sInst op p.2 = i := Option.some.inj h'
     rw [hi] at hq
     have he := strEq_iff.1 hq
     cases hb : instB 60 3 i with
     | true =>
      unfold txtS at he
      rw [hb] at he
      exact ⟨rfl, he⟩
     | false =>
      unfold txtS at he
      rw [hb] at he
      have he' : s = ByteArray.empty := he.symm
      rw [he'] at hp
      have h0 : p = (true, []) := hp.symm
      rw [h0] at c1
      exact absurd rfl c1
theorem chk_ok {s : ByteArray} {o : Option tInstD} {i : tInstD} (h : chkI s o = some i) : instB 60 3 i = true ∧ textI i = s := by
 cases o with
 | none => cases h
 | some j =>
  have h' : (bif instB 60 3 j && strEq (textI j) s then some j else none) = some i := h
  cases hb : instB 60 3 j && strEq (textI j) s with
  | false => rw [hb] at h'; cases h'
  | true =>
   rw [hb] at h'
   obtain rfl : j = i := Option.some.inj h'
   rw [Bool.and_eq_true] at hb
   exact ⟨hb.1, strEq_iff.1 hb.2⟩
theorem iRes_ok {s : ByteArray} {i : tInstD} (h : iRes s = some i) : instB 60 3 i = true ∧ textI i = s := by
 unfold iRes at h
 cases hw : wordsI s with
 | none => rw [hw] at h; cases h
 | some p =>
  rw [hw] at h
  have h1 : iFin s (ixW p.1 wordsL 0 + 1) p.2 = some i := h
  unfold iFin at h1
  generalize ixW p.1 wordsL 0 + 1 = op at h1
  by_cases c0 : op = 0
  ·rw [dpos c0] at h1; cases h1
  ·rw [dneg c0] at h1
   cases hop : hasOp op with
   | true =>
    rw [hop] at h1
    by_cases c : ((p.2.length : Nat) : Int) < 2
    ·rw [dpos c] at h1; cases h1
    ·rw [dneg c] at h1; exact chk_ok h1
   | false =>
    rw [hop] at h1
    by_cases c : ((p.2.length : Nat) : Int) < 1
    ·rw [dpos c] at h1; cases h1
    ·rw [dneg c] at h1; exact chk_ok h1
theorem prs_digs : ∀ (ns : List Int) (out : List Int), (∀ n ∈ ns, small10 n) → prsI (ns.map fun n => toB (digs n)) out = some (out ++ ns)
 | [], out, _ => by rw [List.append_nil]; rfl
 | n :: ns, out, h => by
  have hn := h n (by simp)
  have hp : Lib.parseIntB 64 (bl (toB (digs n))) = .ok n := by
   rw [bl_toB]
   have := int_of_dec (u := n.toNat) (by have := hn.1; have := hn.2; omega)
   rw [show ((n.toNat : Nat) : Int) = n by have := hn.1; omega] at this
   exact this
  show (match Lib.parseIntB 64 (bl (toB (digs n))) with
   | .ok v => prsI (ns.map fun n => toB (digs n)) (out ++ [v])
   | _ => none) = _
  rw [hp]
  show prsI (ns.map fun n => toB (digs n)) (out ++ [n]) = _
  rw [prs_digs ns (out ++ [n]) fun m hm => h m (by simp [hm])]
  simp
theorem iRes_text {i : tInstD} (h : instB 60 3 i = true) : iRes (textI i) = some i := by
 have ht := txt_of (Int.le_refl _) h
 obtain ⟨hs, hl⟩ := inst_small h
 obtain ⟨f1, f2, f3⟩ := word_facts ht.op1 ht.op2
 have hws : wsI (textI i) = wordB i.1 :: (numsI i).map fun n => toB (digs n) := by
  have e := textI_bl h
  rw [e]
  show Lib.splitB _ 0 (Lib.countB (toB (bl (wordB i.1) ++ joinL (numsI i))) _) _ = _
  rw [splitB_words f1, toB_bl]
 have hwd : wordsI (textI i) = some (wordB i.1, numsI i) := by
  unfold wordsI
  rw [hws, if_neg (by simp only [List.length_cons, List.length_map]; omega)]
  show (prsI ((numsI i).map fun n => toB (digs n)) []).map _ = _
  rw [prs_digs _ [] hs, Option.map_some, List.nil_append, List.getD_cons_zero]
 rw [iRes_words hwd, f2, show i.1 - 1 + 1 = i.1 by omega]
 have hb := nmI_back h
 have hq : chkI (textI i) (some i) = some i := by
  show (bif instB 60 3 i && strEq (textI i) (textI i) then some i else none) = _
  rw [h, strEq_iff.2 rfl]; rfl
 unfold iFin
 rw [dneg (show ¬ i.1 = 0 by have := ht.op1; omega)]
 cases ho : hasOp i.1 with
 | true =>
  rw [ho] at hb
  have hb' : nmI i.1 ((numsI i).getD 0 0) ((numsI i).getD 1 0) ((numsI i).drop 2) = some i := hb
  have hlen : ¬ (((numsI i).length : Nat) : Int) < 2 := by
   unfold numsI
   rw [hasI_op, ho]
   simp only [cond_true, List.length_cons]
   omega
  show (bif decide ((((numsI i).length : Nat) : Int) < 2) then none else chkI (textI i) (nmI i.1 ((numsI i).getD 0 0) ((numsI i).getD 1 0) ((numsI i).drop 2))) = _
  rw [dneg hlen, hb']
  exact hq
 | false =>
  rw [ho] at hb
  have hb' : nmI i.1 ((numsI i).getD 0 0) 0 ((numsI i).drop 1) = some i := hb
  have hlen : ¬ (((numsI i).length : Nat) : Int) < 1 := by
   unfold numsI
   simp only [List.length_cons]
   omega
  show (bif decide ((((numsI i).length : Nat) : Int) < 1) then none else chkI (textI i) (nmI i.1 ((numsI i).getD 0 0) 0 ((numsI i).drop 1))) = _
  rw [dneg hlen, hb']
  exact hq
theorem res_eq (s : ByteArray) : iRes s = sRes s := by
 cases h : sRes s with
 | some i =>
  obtain ⟨h1, h2⟩ := sRes_ok h
  rw [← h2]
  exact iRes_text h1
 | none =>
  cases h' : iRes s with
  | none => rfl
  | some i =>
   obtain ⟨h1, h2⟩ := iRes_ok h'
   rw [← h2, sRes_text h1] at h
   cases h
theorem sRes_len {s : ByteArray} {i : tInstD} (h : sRes s = some i) : i.2.2.2.2.2.2.1.length ≤ 4 := (txt_of (Int.le_refl _) (sRes_ok h).1).al
def valR : Option tInstD → tInstD
 | none => (0, 0, 0, 0, 0, 0, [], ())
 | some i => i
def okR : Option tInstD → Bool
 | none => false
 | some _ => true
theorem rdR_eq (o : Option tInstD) : rdR o = ((((valR o).1, (valR o).2.1, (valR o).2.2.1, (valR o).2.2.2.1, (valR o).2.2.2.2.1, (valR o).2.2.2.2.2.1, (), ()), (okR o, ()), ()), ((valR o).2.2.2.2.2.2.1, ())) := by cases o <;> rfl
theorem PureFnExactReadInst : ∀ (a0 : ByteArray), Wf .str a0 → ∃ k, laws_FnExactReadInst.f k a0 = some (((true, ()), ()), ()) := by
 intro s hw
 refine Ev.ex (g := fun k => laws_FnExactReadInst.f k s) ?_
 unfold laws_FnExactReadInst.f
 by_cases hs : 1048576 < ((s.size : Nat) : Int)
 ·exact Ev.dp hs (Ev.cst rfl)
 have hsp := specRd (s := s) (by omega)
 have him := implRd (s := s) (by omega)
 rw [res_eq] at him
 rw [rdR_eq] at hsp him
 have hl : (valR (sRes s)).2.2.2.2.2.2.1.length ≤ 4 := by
  cases h : sRes s with
  | none => show (0 : Nat) ≤ 4; omega
  | some i => exact sRes_len h
 generalize valR (sRes s) = i at hsp him hl
 generalize okR (sRes s) = b at hsp him
 have hl' : i.2.2.2.2.2.2.1.length ≤ 1048576 := by omega
 have hg : Small tInst i := ⟨trivial, trivial, trivial, trivial, trivial, trivial, ⟨hl', fun _ _ => trivial⟩, trivial⟩
 have hb : (!(b == b)) = false := by simp
 have hmg := markInts i.2.2.2.2.2.2.1 1 hl' (by omega) (by omega)
 have hh := heldInts 1 i.2.2.2.2.2.2.1.length hl' (by omega) (by omega)
 have heq : (!decide ((1 : Int) + (i.2.2.2.2.2.2.1.length : Int) = 1 + (i.2.2.2.2.2.2.1.length : Int))) = false := by simp
 have hpos : ¬ (1 : Int) + (i.2.2.2.2.2.2.1.length : Int) < 0 := by omega
 have held : ∀ (x0 x1 x2 x3 x4 x5 : Int) (u : Unit), Ev (fun k => U47.f k (x0, x1, x2, x3, x4, x5, upFrom 1 i.2.2.2.2.2.2.1.length, u) 1) (one ((1 : Int) + (i.2.2.2.2.2.2.1.length : Int))) := fun x0 x1 x2 x3 x4 x5 u => by
  unfold U47.f
  exact Ev.bind hh (Ev.dn hpos (Ev.cst rfl))
 refine Ev.dn hs (Ev.bind hsp (Ev.bind him (Ev.yes (eqInst hg) (Ev.neg hb ?_))))
 refine Ev.bind (a := mkr ((1 : Int) + (i.2.2.2.2.2.2.1.length : Int)) (upFrom 1 i.2.2.2.2.2.2.1.length)) (Ev.bind hmg (Ev.cst rfl)) (Ev.bind (held _ _ _ _ _ _ _) (Ev.dn hpos (Ev.neg heq ?_)))
 exact Ev.bind him (Ev.yes (eqInst hg) (Ev.neg hb (Ev.bind (held _ _ _ _ _ _ _) (Ev.dn hpos (Ev.neg heq (Ev.cst rfl))))))
theorem gPow : Tryd.prog.globalNamed "internal/strconv.uint64pow10" = some 3 := by kernel_rfl
theorem gPowType : (Tryd.prog.globals[3]?).map (·.type) = some 100 := by kernel_rfl
theorem gRange : Tryd.prog.globalNamed "strconv.ErrRange" = some 1 := by kernel_rfl
theorem gRangeType : (Tryd.prog.globals[1]?).map (·.type) = some 49 := by kernel_rfl
theorem gSyntax : Tryd.prog.globalNamed "strconv.ErrSyntax" = some 0 := by kernel_rfl
theorem gSyntaxType : (Tryd.prog.globals[0]?).map (·.type) = some 49 := by kernel_rfl
theorem starErr : "*" ++ "errors.errorString" = "*errors.errorString" := by decide
theorem rowErr (u : TypeId) (h : Tryd.prog.typeName? 3 u = some "*errors.errorString") : u = 96 :=
 typeName_ptr_named (nm := "errors.errorString") (by rw [starErr]; kernel_rfl) (by kernel_rfl) (by decide) u (by rw [starErr]; exact h)
/-- An error value of a row's list, wherever it stands on it. -/
theorem sentD {W : World} {n : String} {g : Nat} {text : List UInt8} {r : List (String × DataW Unit)} (hg : Tryd.prog.globalNamed n = some g) (ht : (Tryd.prog.globals[g]?).map (·.type) = some 49)
  (h : laidMet Tryd.prog ((n, .iface "*errors.errorString" (.ptr (.agg [.lit (.string text)]))) :: r) W) : ∃ v, W.cell? ⟨g, 0, none⟩ = some v ∧ (v = .nilIface ∨ ∃ t p, v = .iface t p) := by
 obtain ⟨a, s, hv, _⟩ := laid_sentinel h hg ht Tryd.underlying49 rowErr Tryd.underlying96 Tryd.underlying98 rfl rfl Tryd.underlying9 (by kernel_rfl) (by kernel_rfl)
 exact ⟨_, by simpa using World.var?_cell hg hv 0, .inr ⟨_, _, rfl⟩⟩
theorem held {W w : World} {g : Nat} (h : g < W.heap.size) (e : w.heap[g]? = some W.heap[g]) : w.heap[g]? = W.heap[g]? := e.trans (Array.getElem?_eq_getElem h).symm
theorem heldErr {W w : World} {g : Nat} (h : g < W.heap.size) (e : w.heap[g]? = some W.heap[g]) (hS : ∃ v, W.cell? ⟨g, 0, none⟩ = some v ∧ (v = .nilIface ∨ ∃ t p, v = .iface t p)) : ∃ v, w.cell? ⟨g, 0, none⟩ = some v ∧ (v = .nilIface ∨ ∃ t p, v = .iface t p) := by
 obtain ⟨v, hv, ho⟩ := hS
 refine ⟨v, ?_, ho⟩
 rw [← hv]
 unfold World.cell?
 rw [held h e]
theorem lpD {W : World} (hm : ∃ m, W.cell? ⟨2, 0, none⟩ = some (.int .i64 m)) (ht : Lib.TabIs Tryd.prog W "internal/strconv.uint64pow10" .u64 Lib.pow10Tab)
  (hS : ∃ v, W.cell? ⟨0, 0, none⟩ = some v ∧ (v = .nilIface ∨ ∃ t p, v = .iface t p)) (hR : ∃ v, W.cell? ⟨1, 0, none⟩ = some v ∧ (v = .nilIface ∨ ∃ t p, v = .iface t p)) : LX (gh0 W).F W := by
 obtain ⟨m, hm⟩ := hm
 have h3 : 2 < W.heap.size := World.block_lt_of_cell? W _ hm
 have hs : 0 < W.heap.size := by obtain ⟨_, hv, _⟩ := hS; exact World.block_lt_of_cell? W _ hv
 have hr : 1 < W.heap.size := by obtain ⟨_, hv, _⟩ := hR; exact World.block_lt_of_cell? W _ hv
 have ht' := ht
 unfold Lib.TabIs World.var? at ht'
 rw [gPow, Option.bind_some] at ht'
 have h2 : 3 < W.heap.size := by
  by_cases h : 3 < W.heap.size
  ·exact h
  ·rw [Array.getElem?_eq_none (by omega)] at ht'; cases ht'
 refine ⟨[(2, W.heap[2]), (3, W.heap[3]), (0, W.heap[0]), (1, W.heap[1])], fun w hw => ⟨⟨m, ?_⟩, ?_, ?_, ?_⟩, ?_⟩
 ·have e' := held h3 (hw (2, W.heap[2]) (by simp))
  rw [← hm]
  unfold World.cell?
  rw [e']
 ·have e' := held h2 (hw (3, W.heap[3]) (by simp))
  unfold Lib.TabIs World.var?
  rw [gPow, Option.bind_some, e']
  exact ht'
 ·exact heldErr hs (hw (0, W.heap[0]) (by simp)) hS
 ·exact heldErr hr (hw (1, W.heap[1]) (by simp)) hR
 ·intro x hx
  rcases List.mem_cons.1 hx with rfl | hx
  ·exact ⟨h3, Array.getElem?_eq_getElem h3⟩
  ·rcases List.mem_cons.1 hx with rfl | hx
   ·exact ⟨h2, Array.getElem?_eq_getElem h2⟩
   ·rcases List.mem_cons.1 hx with rfl | hx
    ·exact ⟨hs, Array.getElem?_eq_getElem hs⟩
    ·rw [List.mem_singleton.1 hx]
     exact ⟨hr, Array.getElem?_eq_getElem hr⟩
/-- The table of a row's list, wherever it stands on it. -/
theorem tabD {W : World} {d : DataW Unit} {rest : List (String × DataW Unit)} {ps : List MemPlace} (hd : d = Lib.tabData .u64 Lib.pow10Tab) (h : DataW.LaidVars Tryd.prog W (("internal/strconv.uint64pow10", d) :: rest) ps) : Lib.TabIs Tryd.prog W "internal/strconv.uint64pow10" .u64 Lib.pow10Tab := by
 obtain ⟨g', t', cs, fuel, p, q, hg', ht', hvar, hd', _, _⟩ := h
 obtain rfl := Option.some.inj (gPow.symm.trans hg')
 obtain rfl := Option.some.inj (gPowType.symm.trans ht')
 rw [hd] at hd'
 unfold Lib.TabIs
 rw [hvar, ← Lib.cells_of_tab Tryd.underlying100 (by kernel_rfl) (by kernel_rfl) (by kernel_rfl) hd']
theorem laid_next {W : World} {x : String × DataW Unit} {rest : List (String × DataW Unit)} {ps : List MemPlace} (h : DataW.LaidVars Tryd.prog W (x :: rest) ps) : ∃ q, DataW.LaidVars Tryd.prog W rest q := by
 obtain ⟨_, _, _, _, _, q, _, _, _, _, h, _⟩ := h
 exact ⟨q, h⟩
/-- The cells of a table of numbers, and of a table of rows of numbers. -/
def flat1 : DataW Unit → List Value
 | .lit (.int k z) => [.int k z]
 | _ => []
def flat2 : DataW Unit → List Value
 | .agg l => l.flatMap flat1
 | d => flat1 d
def flat3 : DataW Unit → List Value
 | .agg l => l.flatMap flat2
 | d => flat1 d
def lay1 (h : Array Go.Obj) (g : Nat) (d : DataW Unit) : Array Go.Obj := h.modify g fun
 | .cells _ t fr => .cells (flat3 d).toArray t fr
 | o => o
/-- An error value whose text lies in block 'b'. -/
def layE (h : Array Go.Obj) (g b : Nat) : Array Go.Obj := h.modify g fun
 | .cells _ t fr => .cells #[.iface 96 (.pointer (some ⟨b, 0, none⟩))] t fr
 | o => o
end
end Go.Proofs.YtlledfaplcgmdaaDoor.V
