/- PROVED HERE: what the functions that the law FnExactCleaned reaches do in memory, each as a plain Lean function, and what these tell: part 6 of 7 of the proof of that law; no condition beyond those written out at each theorem. -/
import Derived.Test.YtebgkcjpocfmmaaGreatZFnExactCleaned2
import Derived.Test.YtebgkcjpocfmmaaGreatZFnExactCleaned3
import Derived.Test.YtebgkcjpocfmmaaGreatZFnExactCleaned4
namespace Go.Proofs.YtebgkcjpocfmmaaGreat.V
open Go
set_option linter.unusedVariables false
set_option linter.unusedSimpArgs false
noncomputable section
section
variable {funcs : Int} {f : tFuncD}
abbrev InstR := (((tInstD) × (Bool × Unit) × Unit) × Unit)
def instP (f : tFuncD) (id : Int) : tInstD × Bool :=
 if (placeOf f id).1 = -1 then (tInstZ, false) else
  if (placeOf f id).2 < ((f.2.2.1.getD (placeOf f id).1.toNat tBlockZ).1.length : Int) then (tInstZ, false)
  else ((f.2.2.1.getD (placeOf f id).1.toNat tBlockZ).2.1.getD ((placeOf f id).2 - ((f.2.2.1.getD (placeOf f id).1.toNat tBlockZ).1.length : Int)).toNat tInstZ, true)
def instQ (f : tFuncD) (id : Int) : InstR := (((instP f id).1, ((instP f id).2, ()), ()), ())
theorem implInstOf (hs : Small tFunc f) (hf : Fm funcs f) {id : Int} (v : vid f id) : Ev (fun k => U112.f k f id) (instQ f id) := by
 have h10 := hf.b10
 unfold U112.f instQ instP
 refine Ev.bind (implPlace hs hf v.1 v.2) ?_
 rcases place_cases id v.1 v.2 with ⟨hl, hp⟩ | ⟨hl, j, hj, hp, ha, hb⟩
 ·rw [hp, if_pos rfl]
  exact Ev.dp (show (-1 : Int) < 0 by decide) (Ev.cst rfl)
 ·rw [hp]
  generalize id - (f.1.length : Int) - sumB wB (f.2.2.1.take j) = at' at ha hb
  have hx := hf.w60 (List.getElem_mem hj)
  rw [if_neg (by show ¬ ((j : Int) = -1); omega)]
  refine Ev.dn (show ¬ ((j : Int) < 0) by omega) (Ev.dd (show 0 ≤ (j : Int) by omega) (show (j : Int) < (f.2.2.1.length : Int) by omega) ?_)
  show Ev (fun k => bif decide (at' < ((List.length (f.2.2.1.getD (Int.toNat (j : Int)) tBlockZ).1 : Nat) : Int)) then _ else (bif decide (0 ≤ (j : Int)) && decide ((j : Int) < (f.2.2.1.length : Int)) then (bif decide (0 ≤ (j : Int)) && decide ((j : Int) < (f.2.2.1.length : Int)) then (bif decide (0 ≤ IntKind.wrap .i64 (at' - ((List.length (f.2.2.1.getD (Int.toNat (j : Int)) tBlockZ).1 : Nat) : Int))) && decide (IntKind.wrap .i64 (at' - ((List.length (f.2.2.1.getD (Int.toNat (j : Int)) tBlockZ).1 : Nat) : Int)) < ((List.length (f.2.2.1.getD (Int.toNat (j : Int)) tBlockZ).2.1 : Nat) : Int)) then some ((((f.2.2.1.getD (Int.toNat (j : Int)) tBlockZ).2.1.getD (Int.toNat (IntKind.wrap .i64 (at' - ((List.length (f.2.2.1.getD (Int.toNat (j : Int)) tBlockZ).1 : Nat) : Int)))) tInstZ, (true, ()), ()), ())) else none) else none) else none)) _
  rw [get_in hj]
  unfold wB at hb hx
  by_cases c : at' < ((List.length f.2.2.1[j].1 : Nat) : Int)
  ·rw [if_pos c]
   exact Ev.dp c (Ev.cst rfl)
  ·have hw : IntKind.wrap .i64 (at' - ((List.length f.2.2.1[j].1 : Nat) : Int)) = at' - ((List.length f.2.2.1[j].1 : Nat) : Int) := wrap_id (by omega) (by omega)
   rw [if_neg c, hw]
   exact Ev.dn c (Ev.dd (by omega) (by omega) (Ev.dd (by omega) (by omega) (Ev.dd (by omega) (by omega) (Ev.cst rfl))))
theorem specInstOf (hf : Fm funcs f) {id : Int} (v : vid f id) : Ev (fun k => U51.f k f id) (instQ f id) := by
 have h10 := hf.b10
 unfold U51.f instQ instP
 refine Ev.bind (specPlace hf v.1 v.2) ?_
 rcases place_cases id v.1 v.2 with ⟨hl, hp⟩ | ⟨hl, j, hj, hp, ha, hb⟩
 ·rw [hp, if_pos rfl]
  exact Ev.dp (show (-1 : Int) < 0 by decide) (Ev.cst rfl)
 ·rw [hp]
  generalize id - (f.1.length : Int) - sumB wB (f.2.2.1.take j) = at' at ha hb
  have hx := hf.w60 (List.getElem_mem hj)
  rw [if_neg (by show ¬ ((j : Int) = -1); omega)]
  refine Ev.dn (show ¬ ((j : Int) < 0) by omega) (Ev.dd (show 0 ≤ (j : Int) by omega) (show (j : Int) < (f.2.2.1.length : Int) by omega) ?_)
  show Ev (fun k => bif decide (at' < ((List.length (f.2.2.1.getD (Int.toNat (j : Int)) tBlockZ).1 : Nat) : Int)) then _ else (bif decide (0 ≤ (j : Int)) && decide ((j : Int) < (f.2.2.1.length : Int)) then (bif decide (0 ≤ IntKind.wrap .i64 (at' - ((List.length (f.2.2.1.getD (Int.toNat (j : Int)) tBlockZ).1 : Nat) : Int))) && decide (IntKind.wrap .i64 (at' - ((List.length (f.2.2.1.getD (Int.toNat (j : Int)) tBlockZ).1 : Nat) : Int)) < ((List.length (f.2.2.1.getD (Int.toNat (j : Int)) tBlockZ).2.1 : Nat) : Int)) then some ((((f.2.2.1.getD (Int.toNat (j : Int)) tBlockZ).2.1.getD (Int.toNat (IntKind.wrap .i64 (at' - ((List.length (f.2.2.1.getD (Int.toNat (j : Int)) tBlockZ).1 : Nat) : Int)))) tInstZ, (true, ()), ()), ())) else none) else none)) _
  rw [get_in hj]
  unfold wB at hb hx
  by_cases c : at' < ((List.length f.2.2.1[j].1 : Nat) : Int)
  ·rw [if_pos c]
   exact Ev.dp c (Ev.cst rfl)
  ·have hw : IntKind.wrap .i64 (at' - ((List.length f.2.2.1[j].1 : Nat) : Int)) = at' - ((List.length f.2.2.1[j].1 : Nat) : Int) := wrap_id (by omega) (by omega)
   rw [if_neg c, hw]
   exact Ev.dn c (Ev.dd (by omega) (by omega) (Ev.dd (by omega) (by omega) (Ev.cst rfl)))
/-- An id's instruction is one of its block's. -/
theorem instP_in (hf : Fm funcs f) {id : Int} (v : vid f id) (h : (instP f id).2 = true) : ∃ x ∈ f.2.2.1, (instP f id).1 ∈ x.2.1 := by
 unfold instP at h ⊢
 rcases place_cases id v.1 v.2 with ⟨hl, hp⟩ | ⟨hl, j, hj, hp, ha, hb⟩
 ·rw [hp, if_pos rfl] at h
  cases h
 ·rw [hp] at h ⊢
  generalize id - (f.1.length : Int) - sumB wB (f.2.2.1.take j) = at' at ha hb h ⊢
  rw [if_neg (by show ¬ ((j : Int) = -1); omega)] at h ⊢
  simp only [] at h ⊢
  rw [get_in hj] at h ⊢
  unfold wB at hb
  by_cases c : at' < ((List.length f.2.2.1[j].1 : Nat) : Int)
  ·rw [if_pos c] at h
   cases h
  ·rw [if_neg c]
   refine ⟨f.2.2.1[j], List.getElem_mem hj, ?_⟩
   show (f.2.2.1[j].2.1.getD (at' - ((List.length f.2.2.1[j].1 : Nat) : Int)).toNat tInstZ) ∈ _
   rw [getD_at _ _ _ (show (at' - ((List.length f.2.2.1[j].1 : Nat) : Int)).toNat < f.2.2.1[j].2.1.length by omega)]
   exact List.getElem_mem _
end
section
variable {funcs : Int} {f : tFuncD}
end
section
variable {funcs : Int} {f : tFuncD}
def rootB (f : tFuncD) (i : tInstD) : Bool :=
 bif inB 4 7 i.1 then (bif (instP f i.2.2.2.1).2 && decide ((instP f i.2.2.2.1).1.1 = 21) then decide ((instP f i.2.2.2.1).1.2.2.2.2.2.1 = 0) else true) else inB 23 26 i.1
theorem div_b (hf : Fm funcs f) {x : tBlockD} (hx : x ∈ f.2.2.1) {i : tInstD} (hi : i ∈ x.2.1) (h : inB 4 7 i.1 = true) : vid f i.2.2.2.1 := by
 refine (hf.vo hx hi).2 _ ?_
 have h2 := inB_iff.1 h
 unfold opsB
 rw [inB_iff.2 (show 1 ≤ i.1 ∧ i.1 ≤ 17 by omega)]
 simp
theorem implRoot (hs : Small tFunc f) (hf : Fm funcs f) {x : tBlockD} (hx : x ∈ f.2.2.1) {i : tInstD} (hi : i ∈ x.2.1) : Ev (fun k => U145.f k f i) (one (rootB f i)) := by
 unfold U145.f U143.f rootB
 refine Ev.bind (a := one (inB 4 7 i.1)) (Ev.bind (Ev.all fun k => implIn k _ _ _) (Ev.cst rfl)) ?_
 cases h : inB 4 7 i.1 with
 | false => exact Ev.neg rfl (Ev.bind (Ev.all fun k => implIn k _ _ _) (Ev.cst rfl))
 | true =>
  refine Ev.pos rfl (Ev.bind (g := fun k => U144.f k f i.2.2.2.1) (a := ((((bif (instP f i.2.2.2.1).2 && decide ((instP f i.2.2.2.1).1.1 = 21) then (instP f i.2.2.2.1).1.2.2.2.2.2.1 else 0), ()), ((instP f i.2.2.2.1).2 && decide ((instP f i.2.2.2.1).1.1 = 21), ()), ()), ())) ?_ ?_)
  ·unfold U144.f
   refine Ev.bind (implInstOf hs hf (div_b hf hx hi h)) ?_
   show Ev (fun k => bif !(instP f i.2.2.2.1).2 then _ else bif !decide ((instP f i.2.2.2.1).1.1 = 21) then _ else some ((((instP f i.2.2.2.1).1.2.2.2.2.2.1, ()), (true, ()), ()), ())) _
   cases (instP f i.2.2.2.1).2 <;> cases decide ((instP f i.2.2.2.1).1.1 = 21) <;> exact Ev.cst rfl
  ·cases ((instP f i.2.2.2.1).2 && decide ((instP f i.2.2.2.1).1.1 = 21)) <;> exact Ev.cst rfl
theorem specRoot (hf : Fm funcs f) {x : tBlockD} (hx : x ∈ f.2.2.1) {i : tInstD} (hi : i ∈ x.2.1) : Ev (fun k => U53.f k f i) (one (rootB f i)) := by
 unfold U53.f U50.f rootB
 refine Ev.bind (a := one (inB 4 7 i.1)) (Ev.bind (Ev.all fun k => specIn k _ _ _) (Ev.cst rfl)) ?_
 cases h : inB 4 7 i.1 with
 | false => exact Ev.neg rfl (Ev.bind (Ev.all fun k => specIn k _ _ _) (Ev.cst rfl))
 | true =>
  refine Ev.pos rfl (Ev.bind (g := fun k => U52.f k f i.2.2.2.1) (a := ((((bif (instP f i.2.2.2.1).2 && decide ((instP f i.2.2.2.1).1.1 = 21) then (instP f i.2.2.2.1).1.2.2.2.2.2.1 else 0), ()), ((instP f i.2.2.2.1).2 && decide ((instP f i.2.2.2.1).1.1 = 21), ()), ()), ())) ?_ ?_)
  ·unfold U52.f
   refine Ev.bind (specInstOf hf (div_b hf hx hi h)) ?_
   show Ev (fun k => bif !(instP f i.2.2.2.1).2 then _ else bif !decide ((instP f i.2.2.2.1).1.1 = 21) then _ else some ((((instP f i.2.2.2.1).1.2.2.2.2.2.1, ()), (true, ()), ()), ())) _
   cases (instP f i.2.2.2.1).2 <;> cases decide ((instP f i.2.2.2.1).1.1 = 21) <;> exact Ev.cst rfl
  ·cases ((instP f i.2.2.2.1).2 && decide ((instP f i.2.2.2.1).1.1 = 21)) <;> exact Ev.cst rfl
def namesF (f : tFuncD) (id : Int) : List Int :=
 if (placeOf f id).1 = -1 then [] else
  if (placeOf f id).2 < ((f.2.2.1.getD (placeOf f id).1.toNat tBlockZ).1.length : Int) then ((f.2.2.1.getD (placeOf f id).1.toNat tBlockZ).1.getD (placeOf f id).2.toNat tPhiZ).2.1
  else opsB (instP f id).1
theorem instP_yes {id : Int} {j : Nat} {hj : j < f.2.2.1.length} {at' : Int} (hp : placeOf f id = ((j : Int), at')) (c : ¬ at' < ((List.length f.2.2.1[j].1 : Nat) : Int)) : (instP f id).2 = true := by
 unfold instP
 rw [hp, if_neg (by show ¬ ((j : Int) = -1); omega)]
 simp only []
 rw [get_in hj, if_neg c]
theorem namesF_ok (hf : Fm funcs f) {id : Int} (v : vid f id) : (namesF f id).length ≤ 10 ∧ ∀ y ∈ namesF f id, vid f y := by
 have hin := instP_in hf v
 unfold namesF
 rcases place_cases id v.1 v.2 with ⟨hl, hp⟩ | ⟨hl, j, hj, hp, ha, hb⟩
 ·rw [hp, if_pos rfl]
  exact ⟨by simp, fun y hy => by cases hy⟩
 ·have hP2 := fun c => instP_yes (hj := hj) hp c
  rw [hp]
  generalize id - (f.1.length : Int) - sumB wB (f.2.2.1.take j) = at' at ha hb hP2
  rw [if_neg (by show ¬ ((j : Int) = -1); omega)]
  show (if at' < (((f.2.2.1.getD (Int.toNat (j : Int)) tBlockZ).1.length : Nat) : Int) then ((f.2.2.1.getD (Int.toNat (j : Int)) tBlockZ).1.getD at'.toNat tPhiZ).2.1 else opsB (instP f id).1).length ≤ 10 ∧ ∀ y ∈ (if at' < (((f.2.2.1.getD (Int.toNat (j : Int)) tBlockZ).1.length : Nat) : Int) then ((f.2.2.1.getD (Int.toNat (j : Int)) tBlockZ).1.getD at'.toNat tPhiZ).2.1 else opsB (instP f id).1), vid f y
  rw [get_in hj]
  unfold wB at hb
  by_cases c : at' < ((List.length f.2.2.1[j].1 : Nat) : Int)
  ·rw [if_pos c, getD_at _ _ _ (show at'.toNat < f.2.2.1[j].1.length by omega)]
   have hpm := List.getElem_mem (show at'.toNat < f.2.2.1[j].1.length by omega)
   refine ⟨?_, fun y hy => hf.vp (List.getElem_mem hj) hpm hy⟩
   have := hf.ph _ (List.getElem_mem hj) _ hpm
   simp only [phiB, Bool.and_eq_true, decide_eq_true_eq] at this
   exact this.1.2
  ·rw [if_neg c]
   obtain ⟨x, hx, hi⟩ := hin (hP2 c)
   obtain ⟨h4, hv⟩ := hf.vo hx hi
   refine ⟨?_, hv⟩
   generalize (instP f id).1 = i at h4
   by_cases h26 : i.1 = 26
   ·have e : opsB i = i.2.2.2.2.2.2.1 := by unfold opsB; rw [h26]; rfl
    rw [e]; omega
   ·have := opsB_few h26; omega
theorem implNames (hs : Small tFunc f) (hf : Fm funcs f) {id : Int} (v : vid f id) : Ev (fun k => U147.f k f id) (one (namesF f id)) := by
 have hI := implInstOf hs hf v
 have hin := instP_in hf v
 unfold U147.f namesF
 refine Ev.bind (implPlace hs hf v.1 v.2) ?_
 rcases place_cases id v.1 v.2 with ⟨hl, hp⟩ | ⟨hl, j, hj, hp, ha, hb⟩
 ·rw [hp, if_pos rfl]
  exact Ev.dp (show (-1 : Int) < 0 by decide) (Ev.cst rfl)
 ·have hP2 := fun c => instP_yes (hj := hj) hp c
  rw [hp]
  generalize id - (f.1.length : Int) - sumB wB (f.2.2.1.take j) = at' at ha hb hP2
  have hx := hf.w60 (List.getElem_mem hj)
  rw [if_neg (by show ¬ ((j : Int) = -1); omega)]
  refine Ev.dn (show ¬ ((j : Int) < 0) by omega) (Ev.dd (show 0 ≤ (j : Int) by omega) (show (j : Int) < (f.2.2.1.length : Int) by omega) ?_)
  show Ev (fun k => bif decide (at' < ((List.length (f.2.2.1.getD (Int.toNat (j : Int)) tBlockZ).1 : Nat) : Int)) then (bif decide (0 ≤ (j : Int)) && decide ((j : Int) < (f.2.2.1.length : Int)) then (bif decide (0 ≤ at') && decide (at' < ((List.length (f.2.2.1.getD (Int.toNat (j : Int)) tBlockZ).1 : Nat) : Int)) then some (one ((f.2.2.1.getD (Int.toNat (j : Int)) tBlockZ).1.getD at'.toNat tPhiZ).2.1) else none) else none) else _) _
  rw [get_in hj]
  unfold wB at hb hx
  by_cases c : at' < ((List.length f.2.2.1[j].1 : Nat) : Int)
  ·rw [if_pos c]
   exact Ev.dp c (Ev.dd (by omega) (by omega) (Ev.dd ha c (Ev.cst rfl)))
  ·rw [if_neg c]
   obtain ⟨x, hxm, hi⟩ := hin (hP2 c)
   exact Ev.dn c (Ev.bind hI (Ev.bind (Ev.all fun k => implOps k (i := (instP f id).1) (by have := (hf.vo hxm hi).1; omega)) (Ev.cst rfl)))
end
/-- The marks, one after another, of what stands in a list and of what that names. -/
def spread (N : Int → List Int) : Nat → List Int → List Bool → List Bool
 | 0, _, out => out
 | _ + 1, [], out => out
 | n + 1, b :: q, out => if out.getD b.toNat false = true then spread N n q out else spread N n (q ++ N b) (out.set b.toNat true)
theorem spread_length (N : Int → List Int) : ∀ (n : Nat) (q : List Int) (out : List Bool), (spread N n q out).length = out.length
 | 0, _, _ => rfl
 | _ + 1, [], _ => rfl
 | n + 1, b :: q, out => by
  simp only [spread]
  split
  ·exact spread_length N n q out
  ·rw [spread_length N n _ _]; simp
def offs (out : List Bool) : Nat := out.count false
theorem offs_set : ∀ (out : List Bool) (b : Nat), b < out.length → out.getD b false = false → offs (out.set b true) + 1 = offs out
 | [], b, h, _ => by simp at h
 | x :: l, 0, h, hx => by
  simp only [List.getD_cons_zero] at hx
  subst hx
  simp [offs]
 | x :: l, b + 1, h, hx => by
  have ih := offs_set l b (by simpa using h) (by simpa using hx)
  unfold offs at ih ⊢
  simp only [List.set_cons_succ, List.count_cons]
  omega
theorem offs_replicate (n : Nat) : offs (List.replicate n false) = n := by unfold offs; simp
def mk (out : List Bool) (x : Int) : Prop := 0 ≤ x ∧ out.getD x.toNat false = true
inductive Cl (N : Int → List Int) (S : Int → Prop) : Int → Prop
 | base {x : Int} : S x → Cl N S x
 | step {x y : Int} : Cl N S x → y ∈ N x → Cl N S y
theorem Cl.sub {N : Int → List Int} {S S' : Int → Prop} (h : ∀ x, S x → Cl N S' x) {x : Int} (hx : Cl N S x) : Cl N S' x := by
 induction hx with
 | base h' => exact h _ h'
 | step _ hy ih => exact .step ih hy
theorem mk_set {out : List Bool} {b x : Int} (hb : 0 ≤ b) (hl : b.toNat < out.length) : mk (out.set b.toNat true) x ↔ mk out x ∨ x = b := by
 unfold mk
 by_cases e : x = b
 ·subst e
  simp [hb, List.getD, hl]
 ·have hne : 0 ≤ x → b.toNat ≠ x.toNat := fun h0 h => e (by omega)
  constructor
  ·rintro ⟨h0, h1⟩
   refine .inl ⟨h0, ?_⟩
   simpa [List.getD, List.getElem?_set_ne (hne h0)] using h1
  ·rintro (⟨h0, h1⟩ | h)
   ·exact ⟨h0, by simpa [List.getD, List.getElem?_set_ne (hne h0)] using h1⟩
   ·exact (e h).elim
theorem spread_spec {N : Int → List Int} {c : Int} (hN : ∀ x, 0 ≤ x ∧ x < c → (N x).length ≤ 10 ∧ ∀ y ∈ N x, 0 ≤ y ∧ y < c) : ∀ (n : Nat) (q : List Int) (out : List Bool), (out.length : Int) = c → (∀ x ∈ q, 0 ≤ x ∧ x < c) → q.length + 11 * offs out ≤ n →
  (∀ x, mk out x → ∀ y ∈ N x, mk out y ∨ y ∈ q) → ∀ x, mk (spread N n q out) x ↔ Cl N (fun x => mk out x ∨ x ∈ q) x
 | n, [], out, hl, hq, hm, hc => by
  have key : ∀ x, mk out x ↔ Cl N (fun x => mk out x ∨ x ∈ ([] : List Int)) x := fun x => by
   constructor
   ·exact fun h => .base (.inl h)
   ·intro h
    induction h with
    | base h => exact h.resolve_right (by simp)
    | step _ hy ih => exact (hc _ ih _ hy).resolve_right (by simp)
  cases n with
  | zero => exact key
  | succ n => exact key
 | 0, b :: q, out, hl, hq, hm, hc => by simp at hm
 | n + 1, b :: q, out, hl, hq, hm, hc => by
  obtain ⟨h0, h1⟩ := hq b (by simp)
  have hlt : b.toNat < out.length := by omega
  simp only [List.length_cons] at hm
  intro x
  simp only [spread]
  by_cases hv : out.getD b.toNat false = true
  ·rw [if_pos hv]
   have hb : mk out b := ⟨h0, hv⟩
   rw [spread_spec hN n q out hl (fun y hy => hq y (by simp [hy])) (by omega) (fun y hy z hz => (hc y hy z hz).elim .inl fun h => by
    rcases List.mem_cons.1 h with rfl | h
    ·exact .inl hb
    ·exact .inr h) x]
   exact ⟨Cl.sub fun y hy => .base (hy.elim .inl fun h => .inr (by simp [h])), Cl.sub fun y hy => .base (hy.elim .inl fun h => by
    rcases List.mem_cons.1 h with rfl | h
    ·exact .inl hb
    ·exact .inr h)⟩
  ·rw [if_neg hv]
   have hf : out.getD b.toNat false = false := by simpa using hv
   have hd := offs_set out b.toNat hlt hf
   obtain ⟨n10, nin⟩ := hN b ⟨h0, h1⟩
   rw [spread_spec hN n (q ++ N b) (out.set b.toNat true) (by simpa using hl) (fun y hy => by
    rcases List.mem_append.1 hy with h | h
    ·exact hq y (by simp [h])
    ·exact nin y h) (by rw [List.length_append]; omega) (fun y hy z hz => by
    rw [mk_set h0 hlt] at hy
    rcases hy with hy | rfl
    ·rcases hc y hy z hz with h | h
     ·exact .inl ((mk_set h0 hlt).2 (.inl h))
     ·rcases List.mem_cons.1 h with rfl | h
      ·exact .inl ((mk_set h0 hlt).2 (.inr rfl))
      ·exact .inr (by simp [h])
    ·exact .inr (by simp [hz])) x]
   constructor
   ·refine Cl.sub fun y hy => ?_
    rw [mk_set h0 hlt] at hy
    rcases hy with (h | rfl) | h
    ·exact .base (.inl h)
    ·exact .base (.inr (by simp))
    ·rcases List.mem_append.1 h with h | h
     ·exact .base (.inr (by simp [h]))
     ·exact .step (.base (.inr (by simp))) h
   ·refine Cl.sub fun y hy => .base ?_
    rw [mk_set h0 hlt]
    rcases hy with h | h
    ·exact .inl (.inl h)
    ·rcases List.mem_cons.1 h with rfl | h
     ·exact .inl (.inr rfl)
     ·exact .inr (by simp [h])
/-- Two lists of the same numbers give the same marks. -/
theorem spread_same {N : Int → List Int} {c : Nat} (hN : ∀ x, 0 ≤ x ∧ x < (c : Int) → (N x).length ≤ 10 ∧ ∀ y ∈ N x, 0 ≤ y ∧ y < (c : Int)) {n m : Nat} {q q' : List Int} (hq : ∀ x ∈ q, 0 ≤ x ∧ x < (c : Int)) (hqq : ∀ x, x ∈ q ↔ x ∈ q') (hn : q.length + 11 * c ≤ n) (hm : q'.length + 11 * c ≤ m) :
  spread N n q (List.replicate c false) = spread N m q' (List.replicate c false) := by
 have hno : ∀ x, ¬ mk (List.replicate c false) x := fun x h => by
  have := h.2
  simp only [List.getD, List.getElem?_replicate] at this
  split at this <;> cases this
 have h1 := spread_spec hN n q (List.replicate c false) (by simp) hq (by rw [offs_replicate]; omega) fun x hx => (hno x hx).elim
 have h2 := spread_spec hN m q' (List.replicate c false) (by simp) (fun x hx => hq x ((hqq x).2 hx)) (by rw [offs_replicate]; omega) fun x hx => (hno x hx).elim
 refine List.ext_getElem (by rw [spread_length, spread_length]) fun i hi hi' => ?_
 have key : mk (spread N n q (List.replicate c false)) (i : Int) ↔ mk (spread N m q' (List.replicate c false)) (i : Int) := by
  rw [h1, h2]
  exact ⟨Cl.sub fun y hy => .base (hy.elim .inl fun h => .inr ((hqq y).1 h)), Cl.sub fun y hy => .base (hy.elim .inl fun h => .inr ((hqq y).2 h))⟩
 unfold mk at key
 rw [Int.toNat_natCast, getD_at _ _ _ hi, getD_at _ _ _ hi'] at key
 have h0 : (0 : Int) ≤ (i : Int) := by omega
 simp only [h0, true_and] at key
 exact Bool.eq_iff_iff.2 key
section
variable {funcs : Int} {f : tFuncD}
def endN (t : tTermD) : List Int := bif decide (t.1 = 1) then [t.2.1] else bif decide (t.1 = 3) then [t.2.1] else []
theorem implEndN (k : Nat) (t : tTermD) : U146.f k t = some (rowR (endN t)) := by
 unfold U146.f endN
 cases decide (t.1 = 1) <;> cases decide (t.1 = 3) <;> rfl
theorem endN_len (t : tTermD) : (endN t).length ≤ 1 := by
 unfold endN
 cases decide (t.1 = 1) <;> cases decide (t.1 = 3) <;> simp
theorem endN_v (hf : Fm funcs f) {x : tBlockD} (hx : x ∈ f.2.2.1) {y : Int} (hy : y ∈ endN x.2.2) : vid f y := by
 unfold endN at hy
 by_cases h1 : x.2.2.1 = 1
 ·rw [dpos h1, cond_true, List.mem_singleton] at hy
  subst hy; exact hf.vt hx (.inl h1)
 ·by_cases h3 : x.2.2.1 = 3
  ·rw [dneg h1, dpos h3, cond_false, cond_true, List.mem_singleton] at hy
   subst hy; exact hf.vt hx (.inr h3)
  ·rw [dneg h1, dneg h3] at hy; cases hy
def rootsFrom (f : tFuncD) : Nat → Nat → List Int
 | _, 0 => []
 | i, d + 1 => bif (instP f (i : Int)).2 && rootB f (instP f (i : Int)).1 then (i : Int) :: rootsFrom f (i + 1) d else rootsFrom f (i + 1) d
theorem rootsFrom_len (f : tFuncD) : ∀ (d i : Nat), (rootsFrom f i d).length ≤ d
 | 0, i => by simp [rootsFrom]
 | d + 1, i => by
  have := rootsFrom_len f d (i + 1)
  simp only [rootsFrom]
  cases ((instP f (i : Int)).2 && rootB f (instP f (i : Int)).1) <;> simp <;> omega
theorem mem_roots (f : tFuncD) : ∀ (d i : Nat) (x : Int), x ∈ rootsFrom f i d ↔ ((i : Int) ≤ x ∧ x < ((i + d : Nat) : Int)) ∧ (instP f x).2 = true ∧ rootB f (instP f x).1 = true
 | 0, i, x => by simp [rootsFrom]; omega
 | d + 1, i, x => by
  have ih := mem_roots f d (i + 1) x
  simp only [rootsFrom]
  by_cases e : x = (i : Int)
  ·subst e
   cases hb : ((instP f (i : Int)).2 && rootB f (instP f (i : Int)).1) with
   | true =>
    simp only [Bool.and_eq_true] at hb
    simp only [cond_true, List.mem_cons, true_or, true_iff]
    exact ⟨by omega, hb⟩
   | false =>
    simp only [cond_false]
    rw [ih]
    constructor
    ·intro h; omega
    ·rintro ⟨_, h1, h2⟩; rw [h1, h2] at hb; cases hb
  ·have h2 : (((i + 1 : Nat) : Int) ≤ x ∧ x < ((i + 1 + d : Nat) : Int)) ↔ ((i : Int) ≤ x ∧ x < ((i + (d + 1) : Nat) : Int)) := by omega
   cases ((instP f (i : Int)).2 && rootB f (instP f (i : Int)).1) with
   | true => simp only [cond_true, List.mem_cons, e, false_or]; rw [ih, h2]
   | false => simp only [cond_false]; rw [ih, h2]
abbrev MR := ((Unit × Unit) × Unit) × (List Bool × Unit)
theorem implRoots (hs : Small tFunc f) (hf : Fm funcs f) {out : List Bool} {r : MR} : ∀ (d i : Nat) (acc : List Int), ((i + d : Nat) : Int) = cntB f → (acc ++ rootsFrom f i d).length ≤ 1000 → Ev (fun k => U148.l1 k f.2.2.1 ((List.length f.2.2.1 : Nat) : Int) 0 f out (acc ++ rootsFrom f i d)) r → Ev (fun k => U148.l0 k (cntB f) (i : Int) f out acc) r := by
 intro d
 induction d with
 | zero =>
  intro i acc hi hl hr
  refine Ev.step hr fun k => ?_
  show U148.l0_ k (U148.l0 k) (U148.l1 k) (U148.l2 k) _ _ f out acc = _
  unfold U148.l0_
  rw [dneg (show ¬ ((i : Int) < cntB f) by omega)]
  simp [rootsFrom]
 | succ d ih =>
  intro i acc hi hl hr
  have h60 := hf.cnt
  have v : vid f (i : Int) := ⟨by omega, by omega⟩
  refine Ev.succ ?_
  show Ev (fun k => U148.l0_ k (U148.l0 k) (U148.l1 k) (U148.l2 k) _ _ f out acc) _
  unfold U148.l0_
  unfold rootsFrom at hl hr
  refine Ev.dp (show (i : Int) < cntB f by omega) (Ev.bind (implInstOf hs hf v) ?_)
  rw [wrap_nat (show i < 9223372036854775807 by omega)]
  have skip : ∀ b : Bool, b = false → (b = ((instP f (i : Int)).2 && rootB f (instP f (i : Int)).1)) → Ev (fun k => U148.l0 k (cntB f) ((i + 1 : Nat) : Int) f out acc) r := by
   rintro _ rfl hb
   rw [← hb] at hl hr
   exact ih (i + 1) acc (by omega) hl hr
  cases hp : (instP f (i : Int)).2 with
  | false => exact Ev.neg hp (skip false rfl (by rw [hp]; rfl))
  | true =>
   obtain ⟨x, hx, hi2⟩ := instP_in hf v hp
   refine Ev.pos hp (Ev.bind (implRoot hs hf hx hi2) ?_)
   cases hrt : rootB f (instP f (i : Int)).1 with
   | false => exact Ev.neg hrt (skip false rfl (by rw [hrt, Bool.and_false]))
   | true =>
    rw [hp, hrt] at hl hr
    simp only [Bool.and_self, cond_true, List.length_append, List.length_cons] at hl
    refine Ev.pos hrt (Ev.dp (show (acc.length + [(i : Int)].length) * 8 ≤ 140737488355328 by simp only [List.length_cons, List.length_nil]; omega) ?_)
    refine ih (i + 1) (acc ++ [(i : Int)]) (by omega) (by simp only [List.length_append, List.length_cons, List.length_nil]; omega) ?_
    have e : acc ++ [(i : Int)] ++ rootsFrom f (i + 1) d = acc ++ (i : Int) :: rootsFrom f (i + 1) d := by simp
    rw [e]
    exact hr
def endsOf (l : List tBlockD) : List Int := l.flatMap fun x => endN x.2.2
theorem implEnds (h10 : f.2.2.1.length ≤ 10) {out : List Bool} {r : MR} : ∀ (d i : Nat) (acc : List Int), i + d = f.2.2.1.length → (acc ++ endsOf (f.2.2.1.drop i)).length ≤ 1000 → Ev (fun k => U148.l2 k f out (acc ++ endsOf (f.2.2.1.drop i))) r → Ev (fun k => U148.l1 k f.2.2.1 ((List.length f.2.2.1 : Nat) : Int) (i : Int) f out acc) r := by
 intro d
 induction d with
 | zero =>
  intro i acc hi hl hr
  obtain rfl : i = f.2.2.1.length := by omega
  refine Ev.step hr fun k => ?_
  show U148.l1_ k (U148.l0 k) (U148.l1 k) (U148.l2 k) _ _ _ f out acc = _
  unfold U148.l1_
  simp [head_end, endsOf]
 | succ d ih =>
  intro i acc hi hl hr
  have hlt : i < f.2.2.1.length := by omega
  rw [List.drop_eq_getElem_cons hlt] at hl hr
  have e : ∀ l, acc ++ endsOf (f.2.2.1[i] :: l) = acc ++ endN f.2.2.1[i].2.2 ++ endsOf l := fun l => by simp [endsOf]
  rw [e] at hl hr
  refine Ev.succ ?_
  show Ev (fun k => U148.l1_ k (U148.l0 k) (U148.l1 k) (U148.l2 k) _ _ _ f out acc) _
  unfold U148.l1_
  simp only [head_in hlt, head_0, Bool.and_self, cond_true, get_in hlt, wrap_nat (show i < 9223372036854775807 by omega)]
  refine Ev.bind (Ev.all fun k => implEndN k _) (Ev.dp (show (acc.length + (endN f.2.2.1[i].2.2).length) * 8 ≤ 140737488355328 by simp only [List.length_append] at hl; omega) ?_)
  exact ih (i + 1) _ (by omega) hl hr
def instRoots (f : tFuncD) : Int → List tInstD → List Int
 | _, [] => []
 | id, i :: l => bif rootB f i then id :: instRoots f (id + 1) l else instRoots f (id + 1) l
def blkSeeds (f : tFuncD) : Int → List tBlockD → List Int
 | _, [] => []
 | id, x :: l => instRoots f (id + (x.1.length : Int)) x.2.1 ++ (endN x.2.2 ++ blkSeeds f (id + wB x) l)
theorem mem_instRoots (f : tFuncD) : ∀ (l : List tInstD) (id x : Int), x ∈ instRoots f id l ↔ ∃ t : Nat, ∃ h : t < l.length, x = id + t ∧ rootB f l[t] = true
 | [], id, x => by simp [instRoots]
 | i :: l, id, x => by
  have ih := mem_instRoots f l (id + 1) x
  have hs : (∃ t : Nat, ∃ h : t < (i :: l).length, x = id + t ∧ rootB f (i :: l)[t] = true) ↔ (x = id ∧ rootB f i = true) ∨ ∃ t : Nat, ∃ h : t < l.length, x = id + 1 + t ∧ rootB f l[t] = true := by
   constructor
   ·rintro ⟨t, h, e, hr⟩
    cases t with
    | zero => exact .inl ⟨by simpa using e, hr⟩
    | succ t => exact .inr ⟨t, by simpa using h, by omega, hr⟩
   ·rintro (⟨e, hr⟩ | ⟨t, h, e, hr⟩)
    ·exact ⟨0, by simp, by simpa using e, hr⟩
    ·exact ⟨t + 1, by simpa using h, by omega, hr⟩
  rw [hs, ← ih]
  simp only [instRoots]
  cases rootB f i with
  | true => simp
  | false => simp
theorem mem_seeds (f : tFuncD) : ∀ (l : List tBlockD) (id x : Int), x ∈ blkSeeds f id l ↔ ∃ j : Nat, ∃ h : j < l.length, (∃ t : Nat, ∃ ht : t < l[j].2.1.length, x = id + sumB wB (l.take j) + (l[j].1.length : Int) + t ∧ rootB f l[j].2.1[t] = true) ∨ x ∈ endN l[j].2.2
 | [], id, x => by simp [blkSeeds]
 | b :: l, id, x => by
  have ih := mem_seeds f l (id + wB b) x
  simp only [blkSeeds, List.mem_append]
  rw [ih, mem_instRoots]
  constructor
  ·rintro (⟨t, ht, e, hr⟩ | h | ⟨j, hj, h⟩)
   ·exact ⟨0, by simp, .inl ⟨t, ht, by simp [sumB]; omega, hr⟩⟩
   ·exact ⟨0, by simp, .inr h⟩
   ·refine ⟨j + 1, by simpa using hj, h.imp (fun ⟨t, ht, e, hr⟩ => ⟨t, ht, ?_, hr⟩) fun h => h⟩
    simp only [List.take_succ_cons, sumB, List.getElem_cons_succ]
    omega
  ·rintro ⟨j, hj, h⟩
   cases j with
   | zero => exact h.imp (fun ⟨t, ht, e, hr⟩ => ⟨t, ht, by simp [sumB] at e; omega, hr⟩) .inl
   | succ j =>
    refine .inr (.inr ⟨j, by simpa using hj, h.imp (fun ⟨t, ht, e, hr⟩ => ⟨t, ht, ?_, hr⟩) fun h => h⟩)
    simp only [List.take_succ_cons, sumB, List.getElem_cons_succ] at e
    omega
theorem placeL_at : ∀ (l : List tBlockD) (b j : Nat) (hj : j < l.length) (at' : Int), 0 ≤ at' → at' < wB l[j] → placeL l b (sumB wB (l.take j) + at') = (((b + j : Nat) : Int), at')
 | [], b, j, hj, at', h0, h1 => by simp at hj
 | x :: l, b, 0, hj, at', h0, h1 => by
  have h1' : at' < wB x := h1
  simp only [List.take_zero, sumB, Int.zero_add, placeL]
  rw [if_pos h1']; rfl
 | x :: l, b, j + 1, hj, at', h0, h1 => by
  have ih := placeL_at l (b + 1) j (by simpa using hj) at' h0 (by simpa using h1)
  have hn := sumB_nonneg (w := wB) (l := l.take j) fun y _ => wB_nonneg y
  simp only [List.take_succ_cons, sumB, placeL]
  rw [if_neg (by omega), show wB x + sumB wB (l.take j) + at' - wB x = sumB wB (l.take j) + at' by omega, ih]
  congr 1
  omega
theorem place_of {j : Nat} (hj : j < f.2.2.1.length) {at' : Int} (h0 : 0 ≤ at') (h1 : at' < wB f.2.2.1[j]) : placeOf f ((f.1.length : Int) + sumB wB (f.2.2.1.take j) + at') = ((j : Int), at') := by
 have hn := sumB_nonneg (w := wB) (l := f.2.2.1.take j) fun y _ => wB_nonneg y
 unfold placeOf
 rw [if_neg (by omega), show (f.1.length : Int) + sumB wB (f.2.2.1.take j) + at' - (f.1.length : Int) = sumB wB (f.2.2.1.take j) + at' by omega, placeL_at _ _ _ hj _ h0 h1, Nat.zero_add]
theorem seeds_same (hf : Fm funcs f) (x : Int) : x ∈ rootsFrom f 0 (cntB f).toNat ++ endsOf f.2.2.1 ↔ x ∈ blkSeeds f (f.1.length : Int) f.2.2.1 := by
 have hc : 0 ≤ cntB f := by
  have := sumB_nonneg (w := wB) (l := f.2.2.1) fun y _ => wB_nonneg y
  rw [cntB_eq]; omega
 rw [List.mem_append, mem_roots, mem_seeds]
 constructor
 ·rintro (⟨⟨h0, h1⟩, h2, h3⟩ | h)
  ·have v : vid f x := ⟨by omega, by omega⟩
   rcases place_cases x v.1 v.2 with ⟨hl, hp⟩ | ⟨hl, j, hj, hp, ha, hb⟩
   ·unfold instP at h2
    rw [hp, if_pos rfl] at h2
    cases h2
   ·refine ⟨j, hj, .inl ?_⟩
    have hpp := hp
    generalize hat : x - (f.1.length : Int) - sumB wB (f.2.2.1.take j) = at' at ha hb hp
    unfold instP at h2 h3
    rw [hp, if_neg (by show ¬ ((j : Int) = -1); omega)] at h2 h3
    simp only [] at h2 h3
    rw [get_in hj] at h2 h3
    unfold wB at hb
    by_cases c : at' < ((List.length f.2.2.1[j].1 : Nat) : Int)
    ·rw [if_pos c] at h2; cases h2
    ·rw [if_neg c] at h3
     have hlt : (at' - ((List.length f.2.2.1[j].1 : Nat) : Int)).toNat < f.2.2.1[j].2.1.length := by omega
     simp only [] at h3
     rw [getD_at _ _ _ hlt] at h3
     exact ⟨_, hlt, by omega, h3⟩
  ·simp only [endsOf, List.mem_flatMap] at h
   obtain ⟨b, hb, h⟩ := h
   obtain ⟨j, hj, rfl⟩ := List.getElem_of_mem hb
   exact ⟨j, hj, .inr h⟩
 ·rintro ⟨j, hj, h⟩
  rcases h with ⟨t, ht, e, hr⟩ | h
  ·left
   have hw : ((List.length f.2.2.1[j].1 : Nat) : Int) + (t : Int) < wB f.2.2.1[j] := by unfold wB; omega
   have hp := place_of hj (at' := ((List.length f.2.2.1[j].1 : Nat) : Int) + (t : Int)) (by omega) hw
   have ex : x = (f.1.length : Int) + sumB wB (f.2.2.1.take j) + (((List.length f.2.2.1[j].1 : Nat) : Int) + (t : Int)) := by omega
   rw [← ex] at hp
   have hi : instP f x = (f.2.2.1[j].2.1[t], true) := by
    unfold instP
    rw [hp, if_neg (by show ¬ ((j : Int) = -1); omega)]
    simp only []
    rw [get_in hj, if_neg (by omega), show ((((List.length f.2.2.1[j].1 : Nat) : Int) + (t : Int)) - ((List.length f.2.2.1[j].1 : Nat) : Int)).toNat = t by omega, getD_at _ _ _ ht]
   rw [hi]
   refine ⟨⟨?_, ?_⟩, rfl, hr⟩
   ·have := sumB_nonneg (w := wB) (l := f.2.2.1.take j) fun y _ => wB_nonneg y
    omega
   ·have h1 : sumB wB (f.2.2.1.take j) + sumB wB (f.2.2.1.drop j) = sumB wB f.2.2.1 := by
     have : ∀ (l m : List tBlockD), sumB wB (l ++ m) = sumB wB l + sumB wB m := fun l m => by
      induction l with
      | nil => simp [sumB]
      | cons y l ih => simp only [List.cons_append, sumB, ih]; omega
     rw [← this, List.take_append_drop]
    have h2 := sumB_drop wB f.2.2.1 j hj
    have h3 := sumB_nonneg (w := wB) (l := f.2.2.1.drop (j + 1)) fun y _ => wB_nonneg y
    have h4 := cntB_eq f
    omega
  ·right
   simp only [endsOf, List.mem_flatMap]
   exact ⟨_, List.getElem_mem hj, h⟩
theorem seeds_v (hf : Fm funcs f) : ∀ x ∈ rootsFrom f 0 (cntB f).toNat ++ endsOf f.2.2.1, vid f x := by
 intro x hx
 rcases List.mem_append.1 hx with h | h
 ·rw [mem_roots] at h
  exact ⟨by omega, by omega⟩
 ·simp only [endsOf, List.mem_flatMap] at h
  obtain ⟨b, hb, h⟩ := h
  exact endN_v hf hb h
theorem instRoots_len (f : tFuncD) : ∀ (l : List tInstD) (id : Int), (instRoots f id l).length ≤ l.length
 | [], id => by simp [instRoots]
 | i :: l, id => by
  have := instRoots_len f l (id + 1)
  simp only [instRoots]
  cases rootB f i <;> simp <;> omega
theorem seeds_len (f : tFuncD) : ∀ (l : List tBlockD) (id : Int), ((blkSeeds f id l).length : Int) ≤ sumB wB l + l.length
 | [], id => by simp [blkSeeds, sumB]
 | x :: l, id => by
  have h1 := seeds_len f l (id + wB x)
  have h2 := instRoots_len f x.2.1 (id + (x.1.length : Int))
  have h3 := endN_len x.2.2
  simp only [blkSeeds, sumB, List.length_append, List.length_cons]
  have h4 : ((x.2.1.length : Nat) : Int) ≤ wB x := by unfold wB; omega
  omega
end
section
variable {funcs : Int} {f : tFuncD}
theorem specInsts (hf : Fm funcs f) {x : tBlockD} (hx : x ∈ f.2.2.1) {m : List Int} {b : Nat} (hb : b < 100) {r} : ∀ (d j : Nat) (id : Int) (acc : List Int), j + d = x.2.1.length → 0 ≤ id → id + (d : Int) ≤ 1000 → (acc ++ (instRoots f id (x.2.1.drop j) ++ endN x.2.2)).length ≤ 1000 →
  Ev (fun k => U54.l0 k (id + (d : Int)) ((b + 1 : Nat) : Int) f m (acc ++ (instRoots f id (x.2.1.drop j) ++ endN x.2.2))) r → Ev (fun k => U54.l1 k id (b : Int) (j : Int) f m acc x) r := by
 have hx60 := hf.phis hx
 intro d
 induction d with
 | zero =>
  intro j id acc hj h0 h1 hl hr
  obtain rfl : j = x.2.1.length := by omega
  rw [List.drop_length] at hl hr
  simp only [instRoots, List.nil_append, Int.natCast_zero, Int.add_zero] at hl hr
  refine Ev.succ ?_
  show Ev (fun k => U54.l1_ k (U54.l0 k) (U54.l1 k) (U54.l2 k) _ _ _ f m acc x) _
  unfold U54.l1_
  rw [wrap_nat (show b < 9223372036854775807 by omega)]
  unfold endN at hl hr
  refine Ev.neg head_end ?_
  rw [List.length_append] at hl
  by_cases c1 : x.2.2.1 = 1
  ·rw [dpos c1, cond_true] at hl hr
   exact Ev.dp c1 (Ev.dp (show (acc.length + [x.2.2.2.1].length) * 8 ≤ 140737488355328 by simp only [List.length_cons, List.length_nil]; omega) hr)
  ·rw [dneg c1, cond_false] at hl hr
   refine Ev.dn c1 ?_
   by_cases c3 : x.2.2.1 = 3
   ·rw [dpos c3, cond_true] at hl hr
    exact Ev.dp c3 (Ev.dp (show (acc.length + [x.2.2.2.1].length) * 8 ≤ 140737488355328 by simp only [List.length_cons, List.length_nil]; omega) hr)
   ·rw [dneg c3, cond_false, List.append_nil] at hr
    exact Ev.dn c3 hr
 | succ d ih =>
  intro j id acc hj h0 h1 hl hr
  have hlt : j < x.2.1.length := by omega
  rw [List.drop_eq_getElem_cons hlt] at hl hr
  refine Ev.succ ?_
  show Ev (fun k => U54.l1_ k (U54.l0 k) (U54.l1 k) (U54.l2 k) _ _ _ f m acc x) _
  unfold U54.l1_
  simp only [head_in hlt, head_0, Bool.and_self, cond_true, get_in hlt, wrap_nat (show j < 9223372036854775807 by omega), wrap_id (x := id + 1) (by omega) (by omega)]
  refine Ev.bind (specRoot hf hx (List.getElem_mem hlt)) ?_
  have e1 : id + ((d + 1 : Nat) : Int) = id + 1 + (d : Int) := by omega
  rw [e1] at hr
  simp only [instRoots] at hl hr
  cases hrt : rootB f x.2.1[j] with
  | false =>
   rw [hrt, cond_false] at hl hr
   exact Ev.neg rfl (ih (j + 1) (id + 1) acc (by omega) (by omega) (by omega) hl hr)
  | true =>
   rw [hrt, cond_true] at hl hr
   have e : acc ++ (id :: instRoots f (id + 1) (x.2.1.drop (j + 1)) ++ endN x.2.2) = acc ++ [id] ++ (instRoots f (id + 1) (x.2.1.drop (j + 1)) ++ endN x.2.2) := by simp
   rw [e] at hl hr
   refine Ev.pos rfl (Ev.dp (show (acc.length + [id].length) * 8 ≤ 140737488355328 by simp only [List.length_append] at hl; omega) ?_)
   exact ih (j + 1) (id + 1) (acc ++ [id]) (by omega) (by omega) (by omega) hl hr
theorem specSeeds (hf : Fm funcs f) {m : List Int} {r} : ∀ (d j : Nat) (id : Int) (acc : List Int), j + d = f.2.2.1.length → 0 ≤ id → id + sumB wB (f.2.2.1.drop j) ≤ 100 → (acc ++ blkSeeds f id (f.2.2.1.drop j)).length ≤ 1000 →
  Ev (fun k => U54.l2 k m f (acc ++ blkSeeds f id (f.2.2.1.drop j))) r → Ev (fun k => U54.l0 k id (j : Int) f m acc) r := by
 have h10 := hf.b10
 intro d
 induction d with
 | zero =>
  intro j id acc hj h0 h1 hl hr
  obtain rfl : j = f.2.2.1.length := by omega
  refine Ev.step hr fun k => ?_
  show U54.l0_ k (U54.l0 k) (U54.l1 k) (U54.l2 k) _ _ f m acc = _
  unfold U54.l0_
  simp [head_end, blkSeeds]
 | succ d ih =>
  intro j id acc hj h0 h1 hl hr
  have hlt : j < f.2.2.1.length := by omega
  have hn := sumB_nonneg (w := wB) (l := f.2.2.1.drop (j + 1)) fun y _ => wB_nonneg y
  rw [sumB_drop _ _ _ hlt] at h1
  rw [List.drop_eq_getElem_cons hlt] at hl hr
  have e : acc ++ blkSeeds f id (f.2.2.1[j] :: f.2.2.1.drop (j + 1)) = acc ++ (instRoots f (id + (f.2.2.1[j].1.length : Int)) (f.2.2.1[j].2.1.drop 0) ++ endN f.2.2.1[j].2.2) ++ blkSeeds f (id + wB f.2.2.1[j]) (f.2.2.1.drop (j + 1)) := by simp [blkSeeds]
  rw [e] at hl hr
  have hw : wB f.2.2.1[j] = ((f.2.2.1[j].1.length : Nat) : Int) + ((f.2.2.1[j].2.1.length : Nat) : Int) := rfl
  refine Ev.succ ?_
  show Ev (fun k => U54.l0_ k (U54.l0 k) (U54.l1 k) (U54.l2 k) _ _ f m acc) _
  unfold U54.l0_
  simp only [head_in hlt, head_0, Bool.and_self, cond_true, get_in hlt, wrap_id (x := id + ((List.length f.2.2.1[j].1 : Nat) : Int)) (by omega) (by omega)]
  refine specInsts hf (List.getElem_mem hlt) (by omega) f.2.2.1[j].2.1.length 0 _ acc (by omega) (by omega) (by omega) (by rw [List.length_append] at hl; omega) ?_
  have e2 : id + ((List.length f.2.2.1[j].1 : Nat) : Int) + ((List.length f.2.2.1[j].2.1 : Nat) : Int) = id + wB f.2.2.1[j] := by omega
  rw [e2]
  exact ih (j + 1) (id + wB f.2.2.1[j]) _ (by omega) (by omega) (by omega) hl hr
theorem implSpread (hs : Small tFunc f) (hf : Fm funcs f) : ∀ (n : Nat) (q : List Int) (out : List Bool), n ≤ 3000 → (∀ x ∈ q, vid f x) → (out.length : Int) = cntB f → q.length + 11 * offs out ≤ n → Ev (fun k => U148.l2 k f out q) (rowR (spread (namesF f) n q out))
 | 0, [], out, _, _, _, _ => Ev.step (g' := fun _ => some (rowR out)) (Ev.cst rfl) fun k => rfl
 | 0, b :: q, out, _, _, _, hm => by simp at hm
 | n + 1, [], out, _, _, _, _ => Ev.step (g' := fun _ => some (rowR out)) (Ev.cst rfl) fun k => rfl
 | n + 1, b :: q, out, hn, hq, ho, hm => by
  have v := hq b (by simp)
  have h0 : 0 ≤ b := v.1
  have h1 : b < ((out.length : Nat) : Int) := by rw [ho]; exact v.2
  obtain ⟨n10, nin⟩ := namesF_ok hf v
  simp only [List.length_cons] at hm
  refine Ev.succ ?_
  show Ev (fun k => U148.l2_ k (U148.l0 k) (U148.l1 k) (U148.l2 k) f out (b :: q)) _
  unfold U148.l2_
  refine Ev.dp (show (0 : Int) < (((b :: q).length : Nat) : Int) by simp only [List.length_cons]; omega) (Ev.dd (show (0 : Nat) ≤ 0 by omega) (show (0 : Int) < (((b :: q).length : Nat) : Int) by simp only [List.length_cons]; omega) (Ev.dd (show (0 : Nat) ≤ 1 by omega) (show (1 : Int) ≤ (((b :: q).length : Nat) : Int) by simp only [List.length_cons]; omega) (Ev.dd h0 h1 ?_)))
  show Ev (fun k => bif !(out.getD b.toNat false) then _ else U148.l2 k f out q) _
  by_cases hv : out.getD b.toNat false = true
  ·refine Ev.neg (by rw [hv]; rfl) ((implSpread hs hf n q out (by omega) (fun y hy => hq y (by simp [hy])) ho (by omega)).rw ?_)
   simp only [spread]; rw [if_pos hv]
  ·have hfl : out.getD b.toNat false = false := by simpa using hv
   have hd := offs_set out b.toNat (by omega) hfl
   refine Ev.pos (by rw [hfl]; rfl) (Ev.dd h0 h1 (Ev.bind (implNames hs hf v) (Ev.dp (show (q.length + (namesF f b).length) * 8 ≤ 140737488355328 by omega) ?_)))
   refine (implSpread hs hf n (q ++ namesF f b) (out.set b.toNat true) (by omega) (fun y hy => (List.mem_append.1 hy).elim (fun h => hq y (by simp [h])) (nin y)) (by simpa using ho) (by rw [List.length_append]; omega)).rw ?_
   simp only [spread]; rw [if_neg hv]
theorem specSpread (hf : Fm funcs f) : ∀ (n : Nat) (q : List Int) (out : List Bool), n ≤ 3000 → (∀ x ∈ q, vid f x) → (out.length : Int) = cntB f → q.length + 11 * offs out ≤ n → Ev (fun k => U54.l2 k (idx out 0) f q) (one (idx (spread (namesF f) n q out) 0))
 | 0, [], out, _, _, _, _ => Ev.step (g' := fun _ => some (one (idx out 0))) (Ev.cst rfl) fun k => rfl
 | 0, b :: q, out, _, _, _, hm => by simp at hm
 | n + 1, [], out, _, _, _, _ => Ev.step (g' := fun _ => some (one (idx out 0))) (Ev.cst rfl) fun k => rfl
 | n + 1, b :: q, out, hn, hq, ho, hm => by
  have v := hq b (by simp)
  have h60 := hf.cnt
  have h0 : 0 ≤ b := v.1
  have h1 : b < ((out.length : Nat) : Int) := by rw [ho]; exact v.2
  obtain ⟨n10, nin⟩ := namesF_ok hf v
  have hI := instP_in hf v
  simp only [List.length_cons] at hm
  have hi : smI (idx out 0) := smI_small (by have := idx_length out 0; omega)
  refine Ev.succ ?_
  show Ev (fun k => U54.l2_ k (U54.l0 k) (U54.l1 k) (U54.l2 k) (idx out 0) f (b :: q)) _
  unfold U54.l2_
  refine Ev.dp (show (0 : Int) < (((b :: q).length : Nat) : Int) by simp only [List.length_cons]; omega) (Ev.dd (show (0 : Nat) ≤ 0 by omega) (show (0 : Int) < (((b :: q).length : Nat) : Int) by simp only [List.length_cons]; omega) (Ev.dd (show (0 : Nat) ≤ 1 by omega) (show (1 : Int) ≤ (((b :: q).length : Nat) : Int) by simp only [List.length_cons]; omega) (Ev.bind (Ev.all fun k => specCopy k (l := q) (by omega)) ?_)))
  show Ev (fun k => Option.bind (U33.f k (idx out 0) b) fun r2 => bif r2.1.1.1 then U54.l2 k (idx out 0) f q else Option.bind (U43.f k (idx out 0) b) fun r3 => Option.bind (U36.f k f b) fun r4 => _) _
  refine Ev.bind (has_ev _ b hi) ?_
  by_cases hv : out.getD b.toNat false = true
  ·refine Ev.dp ((mem_idx0 out b h0).2 hv) ((specSpread hf n q out (by omega) (fun y hy => hq y (by simp [hy])) ho (by omega)).rw ?_)
   simp only [spread]; rw [if_pos hv]
  ·have hfl : out.getD b.toNat false = false := by simpa using hv
   have hd := offs_set out b.toNat (by omega) hfl
   have hni : b ∉ idx out 0 := fun h => hv ((mem_idx0 out b h0).1 h)
   have hset : idx (out.set b.toNat true) 0 = putI b (idx out 0) := by
    have := idx_set out 0 b.toNat (by omega) hfl
    rw [show (0 : Int) + (b.toNat : Int) = b by omega] at this
    exact this
   have hgo : Ev (fun k => U54.l2 k (putI b (idx out 0)) f (q ++ namesF f b)) (one (idx (spread (namesF f) (n + 1) (b :: q) out) 0)) := by
    have := specSpread hf n (q ++ namesF f b) (out.set b.toNat true) (by omega) (fun y hy => (List.mem_append.1 hy).elim (fun h => hq y (by simp [h])) (nin y)) (by simpa using ho) (by rw [List.length_append]; omega)
    rw [hset] at this
    refine this.rw ?_
    simp only [spread]; rw [if_neg hv]
   refine Ev.dn hni (Ev.bind (put_ev _ b hi hni) (Ev.bind (specPlace hf v.1 v.2) ?_))
   generalize hA : one (idx (spread (namesF f) (n + 1) (b :: q) out) 0) = A at hgo
   generalize putI b (idx out 0) = P at hgo
   unfold namesF at hgo n10
   rcases place_cases b v.1 v.2 with ⟨hl, hp⟩ | ⟨hl, j, hj, hp, ha, hb⟩
   ·rw [hp, if_pos rfl, List.append_nil] at hgo
    rw [hp]
    exact Ev.dp (show (-1 : Int) < 0 by decide) hgo
   ·have hP2 := fun c => instP_yes (hj := hj) hp c
    have hPe : ∀ at', placeOf f b = ((j : Int), at') → ¬ at' < ((List.length f.2.2.1[j].1 : Nat) : Int) → (instP f b).1 = f.2.2.1[j].2.1.getD (at' - ((List.length f.2.2.1[j].1 : Nat) : Int)).toNat tInstZ := fun at' hp' c => by
     unfold instP
     rw [hp', if_neg (by show ¬ ((j : Int) = -1); omega)]
     simp only []
     rw [get_in hj, if_neg c]
    have hPe := hPe _ hp
    rw [hp] at hgo n10
    rw [hp]
    generalize b - (f.1.length : Int) - sumB wB (f.2.2.1.take j) = at' at ha hb hP2 hgo n10 hPe
    have hx := hf.w60 (List.getElem_mem hj)
    rw [if_neg (by show ¬ ((j : Int) = -1); omega)] at hgo n10
    simp only [] at hgo n10
    rw [get_in hj] at hgo n10
    unfold wB at hb hx
    refine Ev.dn (show ¬ ((j : Int) < 0) by omega) (Ev.dd (show 0 ≤ (j : Int) by omega) (show (j : Int) < (f.2.2.1.length : Int) by omega) ?_)
    simp only [two]
    rw [get_in hj]
    by_cases c : at' < ((List.length f.2.2.1[j].1 : Nat) : Int)
    ·rw [if_pos c] at hgo n10
     exact Ev.dp c (Ev.dd ha c (Ev.dp (show (q.length + _) * 8 ≤ 140737488355328 by omega) hgo))
    ·rw [if_neg c, hPe c] at hgo n10
     have hw : IntKind.wrap .i64 (at' - ((List.length f.2.2.1[j].1 : Nat) : Int)) = at' - ((List.length f.2.2.1[j].1 : Nat) : Int) := wrap_id (by omega) (by omega)
     obtain ⟨x, hxm, hi'⟩ := hI (hP2 c)
     rw [hPe c] at hi'
     have hol := (hf.vo hxm hi').1
     rw [hw]
     exact Ev.dn c (Ev.dd (by omega) (by omega) (Ev.bind (Ev.all fun k => specOps k (by omega)) (Ev.dp (show (q.length + (opsB (f.2.2.1[j].2.1.getD (at' - ((List.length f.2.2.1[j].1 : Nat) : Int)).toNat tInstZ)).length) * 8 ≤ 140737488355328 by omega) hgo)))
end
section
variable {funcs : Int} {f : tFuncD}
theorem idx_rep : ∀ (n : Nat) (i : Int), idx (List.replicate n false) i = []
 | 0, _ => rfl
 | n + 1, i => by simp only [List.replicate_succ, idx]; rw [if_neg (by decide)]; exact idx_rep n (i + 1)
/-- The marks of what is needed. -/
def needM (f : tFuncD) : List Bool := spread (namesF f) 3000 (blkSeeds f (f.1.length : Int) f.2.2.1) (List.replicate (cntB f).toNat false)
theorem cnt0 (f : tFuncD) : 0 ≤ cntB f := by
 have := sumB_nonneg (w := wB) (l := f.2.2.1) fun y _ => wB_nonneg y
 rw [cntB_eq]; omega
theorem needM_length (f : tFuncD) : ((needM f).length : Int) = cntB f := by
 have := cnt0 f
 unfold needM
 rw [spread_length, List.length_replicate]; omega
theorem seeds_few (hf : Fm funcs f) : (blkSeeds f (f.1.length : Int) f.2.2.1).length ≤ 70 := by
 have h1 := seeds_len f f.2.2.1 (f.1.length : Int)
 have h2 := hf.cnt
 have h3 := hf.b10
 rw [cntB_eq] at h2
 omega
theorem roots_few (hf : Fm funcs f) : (rootsFrom f 0 (cntB f).toNat ++ endsOf f.2.2.1).length ≤ 70 := by
 have h1 := rootsFrom_len f (cntB f).toNat 0
 have h2 := hf.cnt
 have h3 := hf.b10
 have h4 : ∀ l : List tBlockD, (endsOf l).length ≤ l.length := fun l => by
  induction l with
  | nil => simp [endsOf]
  | cons x l ih =>
   have := endN_len x.2.2
   simp only [endsOf, List.flatMap_cons, List.length_append, List.length_cons] at ih ⊢
   omega
 have := h4 f.2.2.1
 rw [List.length_append]
 omega
theorem need_same (hf : Fm funcs f) : spread (namesF f) 3000 (rootsFrom f 0 (cntB f).toNat ++ endsOf f.2.2.1) (List.replicate (cntB f).toNat false) = needM f := by
 have h0 := cnt0 f
 have h2 := hf.cnt
 have h3 := seeds_few hf
 have h4 := roots_few hf
 have hc : (((cntB f).toNat : Nat) : Int) = cntB f := by omega
 exact spread_same (c := (cntB f).toNat) (fun x hx => by
  rw [hc] at hx ⊢
  exact namesF_ok hf hx) (fun x hx => by
  rw [hc]
  exact seeds_v hf x hx) (fun x => seeds_same hf x) (by omega) (by omega)
theorem implneeded (hs : Small tFunc f) (hf : Fm funcs f) : Ev (fun k => U148.f k f) (rowR (needM f)) := by
 have h0 := cnt0 f
 have h2 := hf.cnt
 have h4 := roots_few hf
 unfold U148.f
 refine Ev.bind (implCount hs) (Ev.pos (by
  show (decide (cntB f = cntB f) && decide (0 ≤ cntB f) && decide (cntB f * 1 ≤ 281474976710656)) = true
  rw [dpos rfl, dpos h0, dpos (show cntB f * 1 ≤ 281474976710656 by omega)]; rfl) (Ev.bind (implCount hs) ?_))
 have h5 : (rootsFrom f 0 (cntB f).toNat).length ≤ 1000 := by rw [List.length_append] at h4; omega
 refine implRoots hs hf (cntB f).toNat 0 [] (by omega) h5 ?_
 refine implEnds hf.b10 f.2.2.1.length 0 _ (by omega) (by simp only [List.nil_append, List.drop_zero]; omega) ?_
 rw [List.nil_append, List.drop_zero]
 refine (implSpread hs hf 3000 _ _ (by omega) (seeds_v hf) (by show ((List.length (List.replicate (cntB f).toNat false) : Nat) : Int) = _; rw [List.length_replicate]; omega) ?_).rw ?_
 ·show _ + 11 * offs (List.replicate (cntB f).toNat false) ≤ _
  rw [offs_replicate]; omega
 ·exact congrArg rowR (need_same hf)
theorem specneeded (hf : Fm funcs f) : Ev (fun k => U54.f k f) (one (idx (needM f) 0)) := by
 have h2 := hf.cnt
 have h0 := cnt0 f
 have h3 := seeds_few hf
 have hc := cntB_eq f
 unfold U54.f
 refine specSeeds hf f.2.2.1.length 0 _ [] (by omega) (by omega) (by rw [List.drop_zero]; omega) (by rw [List.drop_zero, List.nil_append]; omega) ?_
 rw [List.drop_zero, List.nil_append]
 have := specSpread hf 3000 (blkSeeds f (f.1.length : Int) f.2.2.1) (List.replicate (cntB f).toNat false) (by omega) (fun x hx => seeds_v hf x ((seeds_same hf x).2 hx)) (by rw [List.length_replicate]; omega) (by rw [offs_replicate]; omega)
 rw [idx_rep] at this
 exact this
end
section
variable {α : Type}
/-- Each element with its number. -/
def tagL : Nat → List α → List (Int × α)
 | _, [] => []
 | n, x :: l => ((n : Int), x) :: tagL (n + 1) l
theorem tagL_len : ∀ (n : Nat) (l : List α), (tagL n l).length = l.length
 | _, [] => rfl
 | n, x :: l => by simp only [tagL, List.length_cons, tagL_len (n + 1) l]
theorem tagL_app : ∀ (n : Nat) (a b : List α), tagL n (a ++ b) = tagL n a ++ tagL (n + a.length) b
 | n, [], b => rfl
 | n, x :: a, b => by
  simp only [List.cons_append, tagL, tagL_app (n + 1) a b, List.length_cons]
  rw [show n + 1 + a.length = n + (a.length + 1) by omega]
theorem tagL_push (n : Nat) {l : List α} {i : Nat} (h : i < l.length) : tagL n (l.take i) ++ [(((n + i : Nat) : Int), l[i])] = tagL n (l.take (i + 1)) := by
 rw [← take_push h, tagL_app]
 have : (l.take i).length = i := by rw [List.length_take]; omega
 rw [this]; rfl
theorem tagL_mem {q : Int × α} : ∀ {n : Nat} {l : List α}, q ∈ tagL n l → q.2 ∈ l ∧ (n : Int) ≤ q.1 ∧ q.1 < ((n + l.length : Nat) : Int)
 | n, [], h => by cases h
 | n, x :: l, h => by
  simp only [tagL] at h
  rcases List.mem_cons.1 h with rfl | h
  ·simp only [List.length_cons]
   exact ⟨List.mem_cons_self, Int.le_refl _, by omega⟩
  ·obtain ⟨a, b, c⟩ := tagL_mem h
   simp only [List.length_cons]
   exact ⟨List.mem_cons_of_mem _ a, by omega, by omega⟩
def keepP (ids : List Int) (q : Int × α) : Bool := !decide (q.1 ∈ ids)
def keepT (ids : List Int) (n : Nat) (l : List α) : List (Int × α) := (tagL n l).filter (keepP ids)
def keepL (ids : List Int) (n : Nat) (l : List α) : List α := (keepT ids n l).map fun q => q.2
theorem keepT_len (ids : List Int) (n : Nat) (l : List α) : (keepT ids n l).length ≤ l.length := Nat.le_trans (List.length_filter_le _ _) (Nat.le_of_eq (tagL_len n l))
theorem keepL_len (ids : List Int) (n : Nat) (l : List α) : (keepL ids n l).length ≤ l.length := by unfold keepL; rw [List.length_map]; exact keepT_len ids n l
theorem keepL_mem {ids : List Int} {n : Nat} {l : List α} {x : α} (h : x ∈ keepL ids n l) : x ∈ l := by
 obtain ⟨q, hq, rfl⟩ := List.mem_map.1 h
 exact (tagL_mem (List.mem_filter.1 hq).1).1
theorem keepL_skip {ids : List Int} {n : Nat} {l : List α} {i : Nat} (h : i < l.length) (hm : ((n + i : Nat) : Int) ∈ ids) : keepL ids n (l.take i) = keepL ids n (l.take (i + 1)) := by
 unfold keepL keepT
 rw [← tagL_push n h, List.filter_append]
 have : List.filter (keepP ids) [(((n + i : Nat) : Int), l[i])] = [] := by
  rw [List.filter_cons, if_neg (by show ¬ (!decide (((n + i : Nat) : Int) ∈ ids)) = true; rw [dpos hm]; decide)]; rfl
 rw [this, List.append_nil]
theorem keepL_push {ids : List Int} {n : Nat} {l : List α} {i : Nat} (h : i < l.length) (hm : ((n + i : Nat) : Int) ∉ ids) : keepL ids n (l.take i) ++ [l[i]] = keepL ids n (l.take (i + 1)) := by
 unfold keepL keepT
 rw [← tagL_push n h, List.filter_append]
 have : List.filter (keepP ids) [(((n + i : Nat) : Int), l[i])] = [(((n + i : Nat) : Int), l[i])] := by
  rw [List.filter_cons, if_pos (by show (!decide (((n + i : Nat) : Int) ∈ ids)) = true; rw [dneg hm]; rfl)]; rfl
 rw [this, List.map_append]; rfl
theorem filt_skip {p : α → Bool} {l : List α} {i : Nat} (h : i < l.length) (hp : p l[i] = false) : (l.take i).filter p = (l.take (i + 1)).filter p := by
 rw [← take_push h, List.filter_append, List.filter_cons, if_neg (by rw [hp]; decide)]
 exact (List.append_nil _).symm
theorem filt_push {p : α → Bool} {l : List α} {i : Nat} (h : i < l.length) (hp : p l[i] = true) : (l.take i).filter p ++ [l[i]] = (l.take (i + 1)).filter p := by
 rw [← take_push h, List.filter_append, List.filter_cons, if_pos hp]; rfl
end
def wN (x : tBlockD) : Nat := x.1.length + x.2.1.length
def sumN : List tBlockD → Nat
 | [] => 0
 | x :: l => wN x + sumN l
theorem sumB_N : ∀ l : List tBlockD, sumB wB l = (sumN l : Int)
 | [] => rfl
 | x :: l => by
  simp only [sumB, sumN, sumB_N l, wB, wN]
  omega
theorem sumN_app : ∀ a b : List tBlockD, sumN (a ++ b) = sumN a + sumN b
 | [], b => by simp [sumN]
 | x :: a, b => by simp only [List.cons_append, sumN, sumN_app a b]; omega
theorem sumN_take {l : List tBlockD} {i : Nat} (h : i < l.length) : sumN (l.take (i + 1)) = sumN (l.take i) + wN l[i] := by
 rw [← take_push h, sumN_app]; simp [sumN]
theorem sumN_take_le (l : List tBlockD) (i : Nat) : sumN (l.take i) ≤ sumN l := by
 have := sumN_app (l.take i) (l.drop i)
 rw [List.take_append_drop] at this
 omega
def cntN (f : tFuncD) : Nat := f.1.length + sumN f.2.2.1
theorem cntN_eq (f : tFuncD) : cntB f = (cntN f : Int) := by
 rw [cntB_eq, sumB_N]; unfold cntN; omega
def fstN (f : tFuncD) (i : Nat) : Nat := f.1.length + sumN (f.2.2.1.take i)
theorem fstN_succ {f : tFuncD} {i : Nat} (h : i < f.2.2.1.length) : fstN f (i + 1) = fstN f i + wN f.2.2.1[i] := by
 unfold fstN; rw [sumN_take h]; omega
theorem fstN_le (f : tFuncD) (i : Nat) : fstN f i ≤ cntN f := by
 have := sumN_take_le f.2.2.1 i
 unfold fstN cntN; omega
theorem fstN_end (f : tFuncD) : fstN f f.2.2.1.length = cntN f := by unfold fstN cntN; rw [List.take_length]
section
variable {β γ : Type}
/-- Each block with the number of its first id. -/
def mapB (g : Nat → tBlockD → β) : Nat → List tBlockD → List β
 | _, [] => []
 | n, x :: l => g n x :: mapB g (n + wN x) l
theorem mapB_app (g : Nat → tBlockD → β) : ∀ (n : Nat) (a b : List tBlockD), mapB g n (a ++ b) = mapB g n a ++ mapB g (n + sumN a) b
 | n, [], b => by simp [mapB, sumN]
 | n, x :: a, b => by
  simp only [List.cons_append, mapB, mapB_app g (n + wN x) a b, sumN]
  rw [show n + wN x + sumN a = n + (wN x + sumN a) by omega]
theorem mapB_push (g : Nat → tBlockD → β) {n : Nat} {l : List tBlockD} {i : Nat} (h : i < l.length) : mapB g n (l.take i) ++ [g (n + sumN (l.take i)) l[i]] = mapB g n (l.take (i + 1)) := by
 rw [← take_push h, mapB_app]; rfl
theorem mapB_len (g : Nat → tBlockD → β) : ∀ (n : Nat) (l : List tBlockD), (mapB g n l).length = l.length
 | _, [] => rfl
 | n, x :: l => by simp only [mapB, List.length_cons, mapB_len g _ l]
theorem mapB_get (g : Nat → tBlockD → β) : ∀ (n : Nat) (l : List tBlockD) (i : Nat) (h : i < l.length) (h' : i < (mapB g n l).length), (mapB g n l)[i] = g (n + sumN (l.take i)) l[i]
 | n, x :: l, 0, h, h' => by simp [mapB, sumN]
 | n, x :: l, i + 1, h, h' => by
  have ih := mapB_get g (n + wN x) l i (by simpa using h) (by rw [mapB_len]; simpa using h)
  simp only [mapB, List.getElem_cons_succ, ih, List.take_succ_cons, sumN]
  rw [show n + wN x + sumN (l.take i) = n + (wN x + sumN (l.take i)) by omega]
theorem mapB_map (g : Nat → tBlockD → β) (h : β → γ) : ∀ (n : Nat) (l : List tBlockD), (mapB g n l).map h = mapB (fun n x => h (g n x)) n l
 | _, [] => rfl
 | n, x :: l => by simp only [mapB, List.map_cons, mapB_map g h _ l]
theorem mapB_mem {g : Nat → tBlockD → β} {y : β} : ∀ {n : Nat} {l : List tBlockD}, y ∈ mapB g n l → ∃ m x, x ∈ l ∧ y = g m x
 | n, [], h => by cases h
 | n, x :: l, h => by
  simp only [mapB] at h
  rcases List.mem_cons.1 h with rfl | h
  ·exact ⟨n, x, List.mem_cons_self, rfl⟩
  ·obtain ⟨m, y', a, b⟩ := mapB_mem h
   exact ⟨m, y', List.mem_cons_of_mem _ a, b⟩
end
def keepB (ids : List Int) (n : Nat) (x : tBlockD) : tBlockD := (keepL ids n x.1, keepL ids (n + x.1.length) x.2.1, x.2.2)
def keepBs (ids : List Int) (f : tFuncD) : List tBlockD := mapB (keepB ids) f.1.length f.2.2.1
def keepF (ids : List Int) (f : tFuncD) : tFuncD := (f.1, f.2.1, keepBs ids f, ())
theorem keepB_small {ids : List Int} {n : Nat} {x : tBlockD} (h : Small tBlock x) : Small tBlock (keepB ids n x) :=
 ⟨⟨Nat.le_trans (keepL_len ids n x.1) h.1.1, fun p hp => h.1.2 p (keepL_mem (show p ∈ keepL ids n x.1 from hp))⟩, ⟨Nat.le_trans (keepL_len ids _ x.2.1) h.2.1.1, fun i hi => h.2.1.2 i (keepL_mem (show i ∈ keepL ids (n + x.1.length) x.2.1 from hi))⟩, h.2.2⟩
theorem keepF_small {ids : List Int} {f : tFuncD} (h : Small tFunc f) : Small tFunc (keepF ids f) := by
 refine ⟨h.1, trivial, ⟨by show (keepBs ids f).length ≤ _; unfold keepBs; rw [mapB_len]; exact h.2.2.1.1, fun y hy => ?_⟩, trivial⟩
 obtain ⟨m, x, hx, rfl⟩ := mapB_mem (show y ∈ mapB (keepB ids) f.1.length f.2.2.1 from hy)
 exact keepB_small (h.2.2.1.2 x hx)
theorem keepF_ok {ids : List Int} {funcs : Int} {f : tFuncD} (h : Fm funcs f) (hs : Small tFunc f) {to : List Int} (ht : (to.length : Int) = cntB f) : SubOK to (keepF ids f) where
 sm := keepF_small hs
 bl := fun y hy => by
  obtain ⟨m, x, hx, rfl⟩ := mapB_mem (show y ∈ mapB (keepB ids) f.1.length f.2.2.1 from hy)
  have o := (h.subOK hs ht).bl x hx
  exact ⟨keepB_small o.1, fun p hp => o.2.1 p (keepL_mem hp), fun i hi => o.2.2.1 i (keepL_mem hi), o.2.2.2⟩
def endA (t : tTermD) : List Int := bif decide (t.1 = 1) then [t.2.1] else bif decide (t.1 = 3) then [t.2.1] else []
def namesB (y : tBlockD) : List Int := y.1.flatMap (fun p => p.2.1) ++ (y.2.1.flatMap opsB ++ endA y.2.2)
theorem subI_map {t u : List Int} {l : List Int} (h : ∀ id ∈ l, subI t id = subI u id) : l.map (subI t) = l.map (subI u) := List.map_congr_left h
theorem subInst_congr {t u : List Int} {i : tInstD} (h : ∀ id ∈ opsB i, subI t id = subI u id) : subInst t i = subInst u i := by
 by_cases h26 : i.1 = 26
 ·have ho : opsB i = i.2.2.2.2.2.2.1 := by unfold opsB inB; rw [h26]; rfl
  unfold subInst
  rw [dpos h26, cond_true, cond_true, ← ho, subI_map h]
 ·unfold subInst
  rw [dneg h26, cond_false, cond_false]
  rcases ops_forms h26 with e | e | e | e <;> rw [e] at h ⊢
  ·rfl
  ·have a := h i.2.2.1 (by simp)
   simp [a]
  ·have a := h i.2.2.1 (by simp)
   have b := h i.2.2.2.1 (by simp)
   simp [a, b]
  ·have a := h i.2.2.1 (by simp)
   have b := h i.2.2.2.1 (by simp)
   have c := h i.2.2.2.2.1 (by simp)
   simp [a, b, c]
theorem subB_congr {t u : List Int} {y : tBlockD} (h : ∀ id ∈ namesB y, subI t id = subI u id) : subB t y = subB u y := by
 unfold subB
 have h1 : y.1.map (subPhi t) = y.1.map (subPhi u) := List.map_congr_left fun p hp => by
  unfold subPhi
  rw [subI_map fun id hi => h id (List.mem_append_left _ (List.mem_flatMap.2 ⟨p, hp, hi⟩))]
 have h2 : y.2.1.map (subInst t) = y.2.1.map (subInst u) := List.map_congr_left fun i hi => subInst_congr fun id ho => h id (List.mem_append_right _ (List.mem_append_left _ (List.mem_flatMap.2 ⟨i, hi, ho⟩)))
 have h3 : subTerm t y.2.2 = subTerm u y.2.2 := by
  unfold subTerm
  have he : ∀ id ∈ endA y.2.2, subI t id = subI u id := fun id hi => h id (List.mem_append_right _ (List.mem_append_right _ hi))
  unfold endA at he
  by_cases c1 : y.2.2.1 = 1
  ·rw [dpos c1] at he ⊢
   have := he _ (List.mem_singleton.2 rfl)
   simp [this]
  ·rw [dneg c1] at he ⊢
   by_cases c3 : y.2.2.1 = 3
   ·rw [dpos c3] at he ⊢
    have := he _ (List.mem_singleton.2 rfl)
    simp [this]
   ·rw [dneg c3]; rfl
 rw [h1, h2, h3]
def goneN (p : Nat) (ids : List Int) (n : Nat) : Bool := decide (p ≤ n) && decide ((n : Int) ∈ ids)
/-- How many are kept before a place. -/
def cntK (p : Nat) (ids : List Int) : Nat → Nat
 | 0 => 0
 | n + 1 => cntK p ids n + (bif goneN p ids n then 0 else 1)
theorem cntK_le (p : Nat) (ids : List Int) : ∀ n, cntK p ids n ≤ n
 | 0 => Nat.le_refl _
 | n + 1 => by
  have := cntK_le p ids n
  simp only [cntK]
  cases goneN p ids n <;> simp only [cond_true, cond_false] <;> omega
theorem cntK_params (p : Nat) (ids : List Int) : ∀ n, n ≤ p → cntK p ids n = n
 | 0, _ => rfl
 | n + 1, h => by
  have := cntK_params p ids n (by omega)
  simp only [cntK, this, goneN, dneg (show ¬ p ≤ n by omega), Bool.false_and, cond_false]
/-- The new numbers up to a place; 0 for what is gone, and behind the place. -/
def toS (p : Nat) (ids : List Int) (c m : Nat) : List Int := (List.range c).map fun j => if j < m ∧ goneN p ids j = false then (cntK p ids j : Int) else 0
def toN (p : Nat) (ids : List Int) (c : Nat) : List Int := (List.range c).map fun j => (cntK p ids j : Int)
theorem toS_len (p : Nat) (ids : List Int) (c m : Nat) : (toS p ids c m).length = c := by unfold toS; rw [List.length_map, List.length_range]
theorem toN_len (p : Nat) (ids : List Int) (c : Nat) : (toN p ids c).length = c := by unfold toN; rw [List.length_map, List.length_range]
theorem toS_at {p : Nat} {ids : List Int} {c m i : Nat} (h : i < (toS p ids c m).length) : (toS p ids c m)[i] = if i < m ∧ goneN p ids i = false then (cntK p ids i : Int) else 0 := by simp [toS]
theorem toN_at {p : Nat} {ids : List Int} {c i : Nat} (h : i < (toN p ids c).length) : (toN p ids c)[i] = (cntK p ids i : Int) := by simp [toN]
theorem toS_0 (p : Nat) (ids : List Int) (c : Nat) : toS p ids c 0 = List.replicate c 0 := by
 unfold toS
 refine List.ext_getElem (by simp) fun i h1 h2 => ?_
 simp
theorem toS_set {p : Nat} {ids : List Int} {c m : Nat} (hm : m < c) (hg : goneN p ids m = false) : (toS p ids c m).set m (cntK p ids m : Int) = toS p ids c (m + 1) := by
 refine List.ext_getElem (by rw [List.length_set, toS_len, toS_len]) fun i h1 h2 => ?_
 rw [List.getElem_set, toS_at, toS_at]
 by_cases e : m = i
 ·subst e
  rw [if_pos rfl, if_pos ⟨by omega, hg⟩]
 ·rw [if_neg e]
  by_cases c1 : i < m
  ·have : i < m + 1 := by omega
   simp [c1, this]
  ·have : ¬ i < m + 1 := by omega
   simp [c1, this]
theorem toS_skip {p : Nat} {ids : List Int} {c m : Nat} (hg : goneN p ids m = true) : toS p ids c m = toS p ids c (m + 1) := by
 refine List.map_congr_left fun i _ => ?_
 by_cases e : m = i
 ·subst e
  simp [hg]
 ·by_cases c1 : i < m
  ·have : i < m + 1 := by omega
   simp [c1, this]
  ·have : ¬ i < m + 1 := by omega
   simp [c1, this]
theorem sub_same {p : Nat} {ids : List Int} {c : Nat} {id : Int} (h0 : 0 ≤ id) (h1 : id < (c : Int)) (hn : id ∉ ids) : subI (toS p ids c c) id = subI (toN p ids c) id := by
 unfold subI
 have hlt : id.toNat < c := by omega
 rw [getD_at _ _ _ (by rw [toS_len]; exact hlt), getD_at _ _ _ (by rw [toN_len]; exact hlt)]
 have hg : goneN p ids id.toNat = false := by
  unfold goneN
  rw [show ((id.toNat : Nat) : Int) = id by omega, dneg hn, Bool.and_false]
 rw [toS_at, toN_at, if_pos ⟨hlt, hg⟩]
theorem implFirstN {funcs : Int} {f : tFuncD} (hf : Fm funcs f) {b : Nat} (hb : b < f.2.2.1.length) : Ev (fun k => U130.f k f (b : Int)) (one (fstN f b : Int)) := by
 have h4 := hf.p4
 have h10 := hf.b10
 have e : (fstN f b : Int) = (f.1.length : Int) + sumB wB (f.2.2.1.take b) := by rw [sumB_N]; unfold fstN; omega
 rw [e]
 unfold U130.f
 refine Ev.pos (by rw [dpos (show (0 : Nat) ≤ 0 by omega), dpos (show 0 ≤ (b : Int) by omega), dpos (show (b : Int) ≤ (f.2.2.1.length : Int) by omega)]; rfl) ?_
 rw [Int.toNat_natCast]
 exact acc_ev (L := fun k a i => U130.l0 k a (f.2.2.1.take b) ((List.length (f.2.2.1.take b) : Nat) : Int) i) (l := f.2.2.1.take b) (w := wB) (fun x hx => ⟨wB_nonneg x, by have := hf.w60 (List.mem_of_mem_take hx); omega⟩) (by rw [List.length_take]; omega) (fun k a i hi => by
   show U130.l0_ k (U130.l0 k) a _ _ i = _
   unfold U130.l0_
   have hlen : (f.2.2.1.take b).length ≤ 10 := by rw [List.length_take]; omega
   simp only [head_in hi, head_0, Bool.and_self, cond_true, get_in hi, wrap_nat (show i < 9223372036854775807 by omega)]
   rfl) (fun k a => by
   show U130.l0_ k (U130.l0 k) a _ _ _ = _
   unfold U130.l0_
   simp only [head_end, cond_false]) (by omega) (by omega)
theorem len_cap {α : Type} {l : List α} {x : α} {b : Nat} (hb : b ≤ 100) (h : l.length ≤ 1048576) : (List.length l + List.length [x]) * b ≤ 140737488355328 := by
 have h1 : List.length l + List.length [x] ≤ 1048577 := by simp only [List.length_cons, List.length_nil]; omega
 exact Nat.le_trans (Nat.mul_le_mul h1 hb) (by decide)
/-- What the closure answers: is an id gone? -/
def GoneC (f : tFuncD) (ids : List Int) (need : List Bool) : Prop := ∀ x, 0 ≤ x → x < cntB f → Ev (fun k => U149.f k x f need) (one (decide (x ∈ ids)))
section
variable {funcs : Int} {f : tFuncD} {ids : List Int} {need : List Bool} {r : U154.R}
theorem implWo3 (hg : GoneC f ids need) {bl : List tBlockD} {a2 : Int} {b n : Nat} (hb : b ≤ 1048576) (hn : n ≤ 1048576) {a9 : Int} {a10 : List Int} {a11 : List tBlockD} {a12 a13 : List Int} {a14 : Int} {a15 : List tBlockD} (h15 : a15.length ≤ 1048576) {t1 t2 t3 t4 : Int} {ps : List tPhiD} {l : List tInstD} (hl : l.length ≤ 1048576) (hnc : (n : Int) + (l.length : Int) ≤ cntB f)
  (e : Ev (fun k => U154.l1 k bl a2 ((b + 1 : Nat) : Int) f need f a9 a10 a11 a12 a13 a14 (a15 ++ [(ps, keepL ids n l, t1, t2, t3, t4, ())])) r) :
  Ev (fun k => U154.l3 k (n : Int) bl a2 (b : Int) l (l.length : Int) 0 f need f a9 a10 a11 a12 a13 a14 a15 t1 t2 t3 t4 ps []) r := by
 refine st_loop (σ := Int × List tInstD) (n0 := l.length) (L := fun k a s => U154.l3 k s.1 bl a2 (b : Int) l (l.length : Int) a f need f a9 a10 a11 a12 a13 a14 a15 t1 t2 t3 t4 ps s.2) (T := fun k s => U154.l1 k bl a2 ((b + 1 : Nat) : Int) f need f a9 a10 a11 a12 a13 a14 (a15 ++ [(ps, s.2, t1, t2, t3, t4, ())])) (fun i => (((n + i : Nat) : Int), keepL ids n (l.take i))) (fun r e => Ev.sk1 ?_) (fun i r hlt e => Ev.sk1 ?_) ?_
 ·show Ev (fun k => U154.l3_ k (U154.l0 k) (U154.l1 k) (U154.l2 k) (U154.l3 k) _ _ _ _ _ _ _ _ _ _ _ _ _ _ _ _ _ _ _ _ _ _ _) _
  simp only [U154.l3_, head_end, cond_false, wrap_nat (show b < 9223372036854775807 by omega)]
  exact Ev.dp (len_cap (by decide) h15) e
 ·show Ev (fun k => U154.l3_ k (U154.l0 k) (U154.l1 k) (U154.l2 k) (U154.l3 k) _ _ _ _ _ _ _ _ _ _ _ _ _ _ _ _ _ _ _ _ _ _ _) _
  simp only [U154.l3_, head_in hlt, head_0, Bool.and_self, cond_true, Int.toNat_natCast, getD_at _ _ _ hlt, wrap_nat (show i < 9223372036854775807 by omega), wrap_nat (show n + i < 9223372036854775807 by omega)]
  refine Ev.bind (hg _ (by omega) (by omega)) ?_
  have hk : (keepL ids n (l.take i)).length ≤ 1048576 := Nat.le_trans (keepL_len _ _ _) (by rw [List.length_take]; omega)
  by_cases hm : ((n + i : Nat) : Int) ∈ ids
  ·refine Ev.neg (by rw [dpos hm]; rfl) ?_
   simp only [← keepL_skip hlt hm] at e
   exact e
  ·refine Ev.pos (by rw [dneg hm]; rfl) (Ev.dp (len_cap (by decide) hk) ?_)
   simp only [← keepL_push hlt hm] at e
   exact e
 ·simp only [List.take_length]; exact e
theorem implWo2 (hg : GoneC f ids need) {bl : List tBlockD} {a2 : Int} {b n : Nat} (hb : b ≤ 1048576) (hn : n ≤ 524288) {a9 : Int} {a10 : List Int} {a11 : List tBlockD} {a12 a13 : List Int} {a14 : Int} {a15 : List tBlockD} (h15 : a15.length ≤ 1048576) {x : tBlockD} {t1 t2 t3 t4 : Int} (hl : x.1.length ≤ 524288) (hl2 : x.2.1.length ≤ 524288) (hnc : (n : Int) + (x.1.length : Int) + (x.2.1.length : Int) ≤ cntB f)
  (e : Ev (fun k => U154.l1 k bl a2 ((b + 1 : Nat) : Int) f need f a9 a10 a11 a12 a13 a14 (a15 ++ [(keepL ids n x.1, keepL ids (n + x.1.length) x.2.1, t1, t2, t3, t4, ())])) r) :
  Ev (fun k => U154.l2 k (n : Int) bl a2 (b : Int) x.1 (x.1.length : Int) 0 f need f a9 a10 a11 a12 a13 a14 a15 x t1 t2 t3 t4 [] []) r := by
 refine st_loop (σ := Int × List tPhiD) (n0 := x.1.length) (L := fun k a s => U154.l2 k s.1 bl a2 (b : Int) x.1 (x.1.length : Int) a f need f a9 a10 a11 a12 a13 a14 a15 x t1 t2 t3 t4 s.2 []) (T := fun k s => U154.l3 k s.1 bl a2 (b : Int) x.2.1 (x.2.1.length : Int) 0 f need f a9 a10 a11 a12 a13 a14 a15 t1 t2 t3 t4 s.2 []) (fun i => (((n + i : Nat) : Int), keepL ids n (x.1.take i))) (fun r e => Ev.sk1 ?_) (fun i r hlt e => Ev.sk1 ?_) ?_
 ·show Ev (fun k => U154.l2_ k (U154.l0 k) (U154.l1 k) (U154.l2 k) (U154.l3 k) _ _ _ _ _ _ _ _ _ _ _ _ _ _ _ _ _ _ _ _ _ _ _ _) _
  simp only [U154.l2_, head_end, cond_false]
  exact e
 ·show Ev (fun k => U154.l2_ k (U154.l0 k) (U154.l1 k) (U154.l2 k) (U154.l3 k) _ _ _ _ _ _ _ _ _ _ _ _ _ _ _ _ _ _ _ _ _ _ _ _) _
  simp only [U154.l2_, head_in hlt, head_0, Bool.and_self, cond_true, Int.toNat_natCast, getD_at _ _ _ hlt, wrap_nat (show i < 9223372036854775807 by omega), wrap_nat (show n + i < 9223372036854775807 by omega)]
  refine Ev.bind (hg _ (by omega) (by omega)) ?_
  have hk : (keepL ids n (x.1.take i)).length ≤ 1048576 := Nat.le_trans (keepL_len _ _ _) (by rw [List.length_take]; omega)
  by_cases hm : ((n + i : Nat) : Int) ∈ ids
  ·refine Ev.neg (by rw [dpos hm]; rfl) ?_
   simp only [← keepL_skip hlt hm] at e
   exact e
  ·refine Ev.pos (by rw [dneg hm]; rfl) (Ev.dp (len_cap (by decide) hk) ?_)
   simp only [← keepL_push hlt hm] at e
   exact e
 ·simp only [List.take_length]
  exact implWo3 hg hb (n := n + x.1.length) (by omega) h15 (by omega) (by omega) e
theorem range_push {β : Type} (g : Nat → β) (n : Nat) : (List.range n).map g ++ [g n] = (List.range (n + 1)).map g := by rw [List.range_succ, List.map_append]; rfl
theorem implWithout (hf : Fm funcs f) (hs : Small tFunc f) (hg : GoneC f ids need) (hge : ∀ id ∈ ids, (f.1.length : Int) ≤ id) : Ev (fun k => U154.f k f f need) ((((), f.2.1, (), ()), ()), (f.1, (keepBs ids f).map (subB (toN f.1.length ids (cntN f))), ())) := by
 have hcnt : cntN f ≤ 60 := by have := hf.cnt; rw [cntN_eq] at this; omega
 have h10 := hf.b10
 unfold U154.f
 refine Ev.bind (implCount hs) ?_
 show Ev (fun k => U154.l0 k 0 (cntB f) 0 f need f 0 [] [] []) _
 rw [cntN_eq]
 refine st_loop (σ := Int × List Int) (n0 := cntN f) (L := fun k a s => U154.l0 k s.1 (cntN f : Int) a f need f 0 [] [] s.2) (T := fun k s => U154.l1 k f.2.2.1 (f.2.2.1.length : Int) 0 f need f 0 [] [] s.2 f.1 f.2.1 []) (fun i => ((cntK f.1.length ids i : Int), (List.range i).map fun j => (cntK f.1.length ids j : Int))) (fun r e => Ev.sk1 ?_) (fun i r hlt e => Ev.sk1 ?_) ?_
 ·show Ev (fun k => U154.l0_ k (U154.l0 k) (U154.l1 k) (U154.l2 k) (U154.l3 k) _ _ _ _ _ _ _ _ _ _) _
  simp only [U154.l0_, dneg (Int.lt_irrefl _), cond_false]
  exact e
 ·show Ev (fun k => U154.l0_ k (U154.l0 k) (U154.l1 k) (U154.l2 k) (U154.l3 k) _ _ _ _ _ _ _ _ _ _) _
  have hk := cntK_le f.1.length ids i
  simp only [U154.l0_, dpos (show (i : Int) < (cntN f : Int) by omega), cond_true, wrap_nat (show i < 9223372036854775807 by omega), wrap_nat (show cntK f.1.length ids i < 9223372036854775807 by omega)]
  refine Ev.dp (len_cap (by decide) (by rw [List.length_map, List.length_range]; omega)) (Ev.bind (hg _ (by omega) (by rw [cntN_eq]; omega)) ?_)
  simp only [← range_push] at e
  have hg : goneN f.1.length ids i = decide ((i : Int) ∈ ids) := by
   unfold goneN
   by_cases hm : (i : Int) ∈ ids
   ·rw [dpos hm, dpos (by have := hge _ hm; omega)]; rfl
   ·rw [dneg hm, Bool.and_false]
  by_cases hm : (i : Int) ∈ ids
  ·refine Ev.neg (by rw [dpos hm]; rfl) ?_
   simp only [cntK, hg, dpos hm, cond_true, Nat.add_zero] at e
   exact e
  ·refine Ev.pos (by rw [dneg hm]; rfl) ?_
   simp only [cntK, hg, dneg hm, cond_false] at e
   exact e
 ·show Ev (fun k => U154.l1 k f.2.2.1 (f.2.2.1.length : Int) 0 f need f 0 [] [] (toN f.1.length ids (cntN f)) f.1 f.2.1 []) _
  refine st_loop (n0 := f.2.2.1.length) (L := fun k a s => U154.l1 k f.2.2.1 (f.2.2.1.length : Int) a f need f 0 [] [] (toN f.1.length ids (cntN f)) f.1 f.2.1 s) (T := fun k s => Option.bind (U153.f k (f.1, f.2.1, s, ()) (toN f.1.length ids (cntN f))) fun r2 => some ((((), r2.1.1.2.1, (), ()), ()), (r2.2.1, r2.2.2.1, ()))) (fun i => mapB (keepB ids) f.1.length (f.2.2.1.take i)) (fun r e => Ev.sk1 ?_) (fun i r hlt e => Ev.sk1 ?_) ?_
  ·show Ev (fun k => U154.l1_ k (U154.l0 k) (U154.l1 k) (U154.l2 k) (U154.l3 k) _ _ _ _ _ _ _ _ _ _ _ _ _) _
   simp only [U154.l1_, head_end, cond_false]
   exact e
  ·show Ev (fun k => U154.l1_ k (U154.l0 k) (U154.l1 k) (U154.l2 k) (U154.l3 k) _ _ _ _ _ _ _ _ _ _ _ _ _) _
   have hmem := List.getElem_mem hlt
   obtain ⟨w1, w2⟩ := hf.phis hmem
   have hfst := fstN_le f i
   have hfst1 := fstN_le f (i + 1)
   rw [fstN_succ hlt] at hfst1
   unfold wN at hfst1
   simp only [U154.l1_, head_in hlt, head_0, Bool.and_self, cond_true, Int.toNat_natCast, getD_at _ _ _ hlt]
   refine Ev.bind (implFirstN hf hlt) (implWo2 hg (by omega) (by omega) (by rw [mapB_len, List.length_take]; omega) (by omega) (by omega) (by rw [cntN_eq]; omega) ?_)
   simp only [← mapB_push (keepB ids) hlt] at e
   exact e
  ·simp only [List.take_length]
   exact Ev.bind (implSubst (cap := toN f.1.length ids (cntN f)) (fun i h => Ev.all fun k => by unfold U150.f; rw [okI_dec h]; rfl) (keepF_ok (ids := ids) hf hs (by rw [toN_len, cntN_eq]))) (Ev.cst rfl)
end
theorem len_capS {α : Type} {l : List α} {x : α} {b : Nat} (hb : b ≤ 100) (h : l.length ≤ 1048576) : (List.length l + List.length [x]) * b ≤ 140737488355328 := by
 have h1 : List.length l + List.length [x] ≤ 1048577 := by simp only [List.length_cons, List.length_nil]; omega
 exact Nat.le_trans (Nat.mul_le_mul h1 hb) (by decide)
theorem specHas (l : List Int) (n : Int) (h : l.length ≤ 1048576) : Ev (fun k => U33.f k l n) (one (decide (n ∈ l))) := by
 refine each_ev (z := 0) (L := fun k a => U33.l0 k l n a) (V := fun m => one (decide (n ∈ m))) (q := fun k x g => bif decide (x = n) then some (((true, ()), ()), ()) else g k) (by omega) (fun k a => rfl) (Ev.cst (by simp)) fun x m g hx hg => ?_
 by_cases c : x = n
 ·exact Ev.dp c (Ev.cst (by simp [c]))
 ·refine Ev.dn c (hg.rw ?_)
  congr 1
  simp [Ne.symm c]
def openB (n : Nat) (x : tBlockD) : tl8BD := (tagL n x.1, tagL (n + x.1.length) x.2.1, x.2.2)
def openBs (f : tFuncD) : List tl8BD := mapB openB f.1.length f.2.2.1
section
variable {f : tFuncD} {r : U57.R}
theorem specOpen2 {n b : Nat} (hn : n ≤ 1048576) (hb : b ≤ 1048576) {a4 : List tl8BD} (h4 : a4.length ≤ 1048576) {x : tBlockD} {t1 t2 t3 t4 : Int} {ps : List tl8PD} (hl : x.2.1.length ≤ 1048576)
  (e : Ev (fun k => U57.l0 k ((n + x.2.1.length : Nat) : Int) ((b + 1 : Nat) : Int) f (a4 ++ [(ps, tagL n x.2.1, t1, t2, t3, t4, ())])) r) :
  Ev (fun k => U57.l2 k (n : Int) (b : Int) 0 f a4 x t1 t2 t3 t4 ps []) r := by
 refine st_loop (σ := Int × List tl8ID) (n0 := x.2.1.length) (L := fun k a s => U57.l2 k s.1 (b : Int) a f a4 x t1 t2 t3 t4 ps s.2) (T := fun k s => U57.l0 k s.1 ((b + 1 : Nat) : Int) f (a4 ++ [(ps, s.2, t1, t2, t3, t4, ())])) (fun i => (((n + i : Nat) : Int), tagL n (x.2.1.take i))) (fun r e => Ev.sk1 ?_) (fun i r hlt e => Ev.sk1 ?_) ?_
 ·show Ev (fun k => U57.l2_ k (U57.l0 k) (U57.l1 k) (U57.l2 k) _ _ _ _ _ _ _ _ _ _ _ _) _
  simp only [U57.l2_, head_end, cond_false, wrap_nat (show b < 9223372036854775807 by omega)]
  exact Ev.dp (len_capS (by decide) h4) e
 ·show Ev (fun k => U57.l2_ k (U57.l0 k) (U57.l1 k) (U57.l2 k) _ _ _ _ _ _ _ _ _ _ _ _) _
  simp only [U57.l2_, head_in hlt, head_0, Bool.and_self, cond_true, Int.toNat_natCast, getD_at _ _ _ hlt, wrap_nat (show i < 9223372036854775807 by omega), wrap_nat (show n + i < 9223372036854775807 by omega)]
  refine Ev.dp (len_capS (by decide) (by rw [tagL_len, List.length_take]; omega)) ?_
  simp only [← tagL_push n hlt] at e
  exact e
 ·simp only [List.take_length]; exact e
theorem specOpen1 {n b : Nat} (hn : n ≤ 524288) (hb : b ≤ 1048576) {a4 : List tl8BD} (h4 : a4.length ≤ 1048576) {phis : List tPhiD} {insts : List tInstD} {t1 t2 t3 t4 : Int} (hl : phis.length ≤ 524288) (hl2 : insts.length ≤ 1048576)
  (e : Ev (fun k => U57.l0 k ((n + phis.length + insts.length : Nat) : Int) ((b + 1 : Nat) : Int) f (a4 ++ [(tagL n phis, tagL (n + phis.length) insts, t1, t2, t3, t4, ())])) r) :
  Ev (fun k => U57.l1 k (n : Int) (b : Int) 0 f a4 phis t1 t2 t3 t4 insts t1 t2 t3 t4 [] []) r := by
 refine st_loop (σ := Int × List tl8PD) (n0 := phis.length) (L := fun k a s => U57.l1 k s.1 (b : Int) a f a4 phis t1 t2 t3 t4 insts t1 t2 t3 t4 s.2 []) (T := fun k s => U57.l2 k s.1 (b : Int) 0 f a4 (phis, insts, t1, t2, t3, t4, ()) t1 t2 t3 t4 s.2 []) (fun i => (((n + i : Nat) : Int), tagL n (phis.take i))) (fun r e => Ev.sk1 ?_) (fun i r hlt e => Ev.sk1 ?_) ?_
 ·show Ev (fun k => U57.l1_ k (U57.l0 k) (U57.l1 k) (U57.l2 k) _ _ _ _ _ _ _ _ _ _ _ _ _ _ _ _ _) _
  simp only [U57.l1_, head_end, cond_false]
  exact e
 ·show Ev (fun k => U57.l1_ k (U57.l0 k) (U57.l1 k) (U57.l2 k) _ _ _ _ _ _ _ _ _ _ _ _ _ _ _ _ _) _
  simp only [U57.l1_, head_in hlt, head_0, Bool.and_self, cond_true, Int.toNat_natCast, getD_at _ _ _ hlt, wrap_nat (show i < 9223372036854775807 by omega), wrap_nat (show n + i < 9223372036854775807 by omega)]
  refine Ev.dp (len_capS (by decide) (by rw [tagL_len, List.length_take]; omega)) ?_
  simp only [← tagL_push n hlt] at e
  exact e
 ·simp only [List.take_length]
  exact specOpen2 (n := n + phis.length) (x := (phis, insts, t1, t2, t3, t4, ())) (by omega) hb h4 hl2 e
end
theorem specOpen {funcs : Int} {f : tFuncD} (hf : Fm funcs f) (hs : Small tFunc f) : Ev (fun k => U57.f k f) (rowR (openBs f)) := by
 have hcnt : cntN f ≤ 60 := by have := hf.cnt; rw [cntN_eq] at this; omega
 have h10 := hf.b10
 unfold U57.f
 refine st_loop (σ := Int × List tl8BD) (n0 := f.2.2.1.length) (L := fun k a s => U57.l0 k s.1 a f s.2) (T := fun k s => some ((((), ()), ()), (s.2, ()))) (fun i => ((fstN f i : Int), mapB openB f.1.length (f.2.2.1.take i))) (fun r e => Ev.sk1 ?_) (fun i r hlt e => Ev.sk1 ?_) ?_
 ·show Ev (fun k => U57.l0_ k (U57.l0 k) (U57.l1 k) (U57.l2 k) _ _ _ _) _
  simp only [U57.l0_, head_end, cond_false]
  exact e
 ·show Ev (fun k => U57.l0_ k (U57.l0 k) (U57.l1 k) (U57.l2 k) _ _ _ _) _
  have hmem := List.getElem_mem hlt
  obtain ⟨w1, w2⟩ := hf.phis hmem
  have hfst := fstN_le f i
  simp only [U57.l0_, head_in hlt, head_0, Bool.and_self, cond_true, Int.toNat_natCast, getD_at _ _ _ hlt]
  refine Ev.bind (specCopyBlock (hs.2.2.1.2 _ hmem)) (specOpen1 (phis := (f.2.2.1[i]).1) (insts := (f.2.2.1[i]).2.1) (by omega) (by omega) (by rw [mapB_len, List.length_take]; omega) (by omega) (by omega) ?_)
  simp only [← mapB_push openB hlt, fstN_succ hlt, wN, ← Nat.add_assoc] at e
  exact e
 ·simp only [List.take_length]
  exact Ev.cst rfl
structure OkO (y : tl8BD) : Prop where
 p : y.1.length ≤ 1048576
 i : y.2.1.length ≤ 1048576
 pl : ∀ q ∈ y.1, q.2.2.1.length ≤ 1048576
 il : ∀ q ∈ y.2.1, q.2.2.2.2.2.2.2.1.length ≤ 1048576 ∧ (opsB q.2).length ≤ 1048576
theorem openBs_ok {funcs : Int} {f : tFuncD} (hf : Fm funcs f) (hs : Small tFunc f) {y : tl8BD} (h : y ∈ openBs f) : OkO y := by
 obtain ⟨m, x, hx, rfl⟩ := mapB_mem (show y ∈ mapB openB f.1.length f.2.2.1 from h)
 have hsx := hs.2.2.1.2 x hx
 refine ⟨by show (tagL m x.1).length ≤ _; rw [tagL_len]; exact hsx.1.1, by show (tagL (m + x.1.length) x.2.1).length ≤ _; rw [tagL_len]; exact hsx.2.1.1, fun q hq => (hsx.1.2 _ (tagL_mem (show q ∈ tagL m x.1 from hq)).1).2.1.1, fun q hq => ?_⟩
 have hq2 := (tagL_mem (show q ∈ tagL (m + x.1.length) x.2.1 from hq)).1
 have hl := (hf.vo hx hq2).1
 refine ⟨(hsx.2.1.2 _ hq2).2.2.2.2.2.2.1.1, ?_⟩
 by_cases h26 : q.2.1 = 26
 ·have ho : opsB q.2 = q.2.2.2.2.2.2.2.1 := by unfold opsB inB; rw [h26]; rfl
  rw [ho]; omega
 ·rcases ops_forms h26 with e | e | e | e <;> rw [e] <;> simp
def keepO (ids : List Int) (y : tl8BD) : tl8BD := (y.1.filter (keepP ids), y.2.1.filter (keepP ids), y.2.2)
section
variable {ids : List Int} {bs a8 : List tl8BD} {b : Nat} {f : tFuncD} {a4 : Int} {a5 : List Int} {a6 : List tBlockD} {t1 t2 t3 t4 : Int} {r : U63.R}
theorem specWo2 (hi : ids.length ≤ 1048576) (hbl : bs.length ≤ 1048576) (hb : b < bs.length) (h8 : a8.length ≤ 1048576) {ps : List tl8PD} (hl : (bs[b]).2.1.length ≤ 1048576)
  (e : Ev (fun k => U63.l0 k ids ((b + 1 : Nat) : Int) f a4 a5 a6 bs (a8 ++ [(ps, (bs[b]).2.1.filter (keepP ids), t1, t2, t3, t4, ())])) r) :
  Ev (fun k => U63.l2 k ids (b : Int) 0 f a4 a5 a6 bs a8 t1 t2 t3 t4 ps []) r := by
 refine st_loop (n0 := (bs[b]).2.1.length) (L := fun k a s => U63.l2 k ids (b : Int) a f a4 a5 a6 bs a8 t1 t2 t3 t4 ps s) (T := fun k s => U63.l0 k ids ((b + 1 : Nat) : Int) f a4 a5 a6 bs (a8 ++ [(ps, s, t1, t2, t3, t4, ())])) (fun i => ((bs[b]).2.1.take i).filter (keepP ids)) (fun r e => Ev.sk1 ?_) (fun i r hlt e => Ev.sk1 ?_) ?_
 ·show Ev (fun k => U63.l2_ k (U63.l0 k) (U63.l1 k) (U63.l2 k) _ _ _ _ _ _ _ _ _ _ _ _ _ _ _) _
  simp only [U63.l2_, head_in hb, head_0, head_end, Bool.and_self, cond_true, cond_false, Int.toNat_natCast, getD_at _ _ _ hb, wrap_nat (show b < 9223372036854775807 by omega)]
  exact Ev.dp (len_capS (by decide) h8) e
 ·show Ev (fun k => U63.l2_ k (U63.l0 k) (U63.l1 k) (U63.l2 k) _ _ _ _ _ _ _ _ _ _ _ _ _ _ _) _
  simp only [U63.l2_, head_in hb, head_in hlt, head_0, Bool.and_self, cond_true, Int.toNat_natCast, getD_at _ _ _ hb, getD_at _ _ _ hlt, wrap_nat (show i < 9223372036854775807 by omega)]
  refine Ev.bind (specHas ids _ hi) ?_
  have hk : (((bs[b]).2.1.take i).filter (keepP ids)).length ≤ 1048576 := Nat.le_trans (List.length_filter_le _ _) (by rw [List.length_take]; omega)
  by_cases hm : ((bs[b]).2.1[i]).1 ∈ ids
  ·refine Ev.neg (by rw [dpos hm]; rfl) ?_
   simp only [← filt_skip (p := keepP ids) hlt (by unfold keepP; rw [dpos hm]; rfl)] at e
   exact e
  ·refine Ev.pos (by rw [dneg hm]; rfl) (Ev.dp (len_capS (by decide) hk) ?_)
   simp only [← filt_push (p := keepP ids) hlt (by unfold keepP; rw [dneg hm]; rfl)] at e
   exact e
 ·simp only [List.take_length]; exact e
theorem specWo1 (hi : ids.length ≤ 1048576) (hbl : bs.length ≤ 1048576) (hb : b < bs.length) (h8 : a8.length ≤ 1048576) (hl : (bs[b]).1.length ≤ 1048576) (hl2 : (bs[b]).2.1.length ≤ 1048576)
  (e : Ev (fun k => U63.l0 k ids ((b + 1 : Nat) : Int) f a4 a5 a6 bs (a8 ++ [((bs[b]).1.filter (keepP ids), (bs[b]).2.1.filter (keepP ids), t1, t2, t3, t4, ())])) r) :
  Ev (fun k => U63.l1 k ids (b : Int) 0 f a4 a5 a6 bs a8 t1 t2 t3 t4 [] []) r := by
 refine st_loop (n0 := (bs[b]).1.length) (L := fun k a s => U63.l1 k ids (b : Int) a f a4 a5 a6 bs a8 t1 t2 t3 t4 s []) (T := fun k s => U63.l2 k ids (b : Int) 0 f a4 a5 a6 bs a8 t1 t2 t3 t4 s []) (fun i => ((bs[b]).1.take i).filter (keepP ids)) (fun r e => Ev.sk1 ?_) (fun i r hlt e => Ev.sk1 ?_) ?_
 ·show Ev (fun k => U63.l1_ k (U63.l0 k) (U63.l1 k) (U63.l2 k) _ _ _ _ _ _ _ _ _ _ _ _ _ _ _) _
  simp only [U63.l1_, head_in hb, head_0, head_end, Bool.and_self, cond_true, cond_false, Int.toNat_natCast, getD_at _ _ _ hb]
  exact e
 ·show Ev (fun k => U63.l1_ k (U63.l0 k) (U63.l1 k) (U63.l2 k) _ _ _ _ _ _ _ _ _ _ _ _ _ _ _) _
  simp only [U63.l1_, head_in hb, head_in hlt, head_0, Bool.and_self, cond_true, Int.toNat_natCast, getD_at _ _ _ hb, getD_at _ _ _ hlt, wrap_nat (show i < 9223372036854775807 by omega)]
  refine Ev.bind (specHas ids _ hi) ?_
  have hk : (((bs[b]).1.take i).filter (keepP ids)).length ≤ 1048576 := Nat.le_trans (List.length_filter_le _ _) (by rw [List.length_take]; omega)
  by_cases hm : ((bs[b]).1[i]).1 ∈ ids
  ·refine Ev.neg (by rw [dpos hm]; rfl) ?_
   simp only [← filt_skip (p := keepP ids) hlt (by unfold keepP; rw [dpos hm]; rfl)] at e
   exact e
  ·refine Ev.pos (by rw [dneg hm]; rfl) (Ev.dp (len_capS (by decide) hk) ?_)
   simp only [← filt_push (p := keepP ids) hlt (by unfold keepP; rw [dneg hm]; rfl)] at e
   exact e
 ·simp only [List.take_length]
  exact specWo2 hi hbl hb h8 hl2 e
end
section
variable {α : Type}
def stp (s : Int × List Int) (q : Int × α) : Int × List Int := (s.1 + 1, s.2.set q.1.toNat s.1)
theorem stp_len : ∀ (l : List (Int × α)) (s : Int × List Int), (l.foldl stp s).2.length = s.2.length
 | [], s => rfl
 | q :: l, s => by rw [List.foldl_cons, stp_len l]; simp [stp]
theorem stp_fst : ∀ (l : List (Int × α)) (s : Int × List Int), (l.foldl stp s).1 = s.1 + (l.length : Int)
 | [], s => by simp
 | q :: l, s => by rw [List.foldl_cons, stp_fst l]; simp [stp]; omega
/-- What is kept takes the next numbers. -/
theorem stp_keep {p c : Nat} {ids : List Int} : ∀ (l : List α) (n : Nat), p ≤ n → n + l.length ≤ c → (keepT ids n l).foldl stp ((cntK p ids n : Int), toS p ids c n) = ((cntK p ids (n + l.length) : Int), toS p ids c (n + l.length))
 | [], n, _, _ => rfl
 | x :: l, n, hp, hc => by
  simp only [List.length_cons] at hc
  have ih := stp_keep (p := p) (c := c) (ids := ids) l (n + 1) (by omega) (by omega)
  have hk : keepT ids n (x :: l) = (bif decide ((n : Int) ∈ ids) then [] else [((n : Int), x)]) ++ keepT ids (n + 1) l := by
   unfold keepT
   simp only [tagL, List.filter_cons]
   by_cases hm : (n : Int) ∈ ids
   ·have : keepP ids ((n : Int), x) = false := by unfold keepP; rw [dpos hm]; rfl
    rw [this, dpos hm]; rfl
   ·have : keepP ids ((n : Int), x) = true := by unfold keepP; rw [dneg hm]; rfl
    rw [this, dneg hm]; rfl
  rw [hk, List.foldl_append, List.length_cons, show n + (l.length + 1) = n + 1 + l.length by omega, ← ih]
  congr 1
  by_cases hm : (n : Int) ∈ ids
  ·have hg : goneN p ids n = true := by unfold goneN; rw [dpos hm, dpos hp]; rfl
   rw [dpos hm, ← toS_skip hg]
   simp [cntK, hg]
  ·have hg : goneN p ids n = false := by unfold goneN; rw [dneg hm, Bool.and_false]
   rw [dneg hm, ← toS_set (by omega) hg]
   simp [cntK, hg, stp]
end
section
variable {bs : List tl8BD} {b : Nat} {a4 : Int} {a5 : List Int} {a6 : List tBlockD} {a8 : Int} {a9 : List Int} {a10 : List tBlockD} {t1 t2 t3 t4 : Int} {r : U62.R}
theorem specCl3 (hbl : bs.length ≤ 1048576) (hb : b < bs.length) (h10 : a10.length ≤ 1048576) {ps : List tPhiD} (hl : (bs[b]).2.1.length ≤ 1048576) {s0 : Int × List Int} (h0 : 0 ≤ s0.1) (h1 : s0.1 ≤ 10485760) (hq : ∀ q ∈ (bs[b]).2.1, 0 ≤ q.1 ∧ q.1 < (s0.2.length : Int))
  (e : Ev (fun k => U62.l1 k bs ((bs[b]).2.1.foldl stp s0).1 ((b + 1 : Nat) : Int) a4 a5 a6 ((bs[b]).2.1.foldl stp s0).2 a8 a9 (a10 ++ [(ps, (bs[b]).2.1.map (fun q => q.2), t1, t2, t3, t4, ())])) r) :
  Ev (fun k => U62.l3 k bs s0.1 (b : Int) 0 a4 a5 a6 s0.2 a8 a9 a10 t1 t2 t3 t4 ps []) r := by
 refine st_loop (σ := (Int × List Int) × List tInstD) (n0 := (bs[b]).2.1.length) (L := fun k a s => U62.l3 k bs s.1.1 (b : Int) a a4 a5 a6 s.1.2 a8 a9 a10 t1 t2 t3 t4 ps s.2) (T := fun k s => U62.l1 k bs s.1.1 ((b + 1 : Nat) : Int) a4 a5 a6 s.1.2 a8 a9 (a10 ++ [(ps, s.2, t1, t2, t3, t4, ())])) (fun i => (((bs[b]).2.1.take i).foldl stp s0, ((bs[b]).2.1.take i).map fun q => q.2)) (fun r e => Ev.sk1 ?_) (fun i r hlt e => Ev.sk1 ?_) ?_
 ·show Ev (fun k => U62.l3_ k (U62.l0 k) (U62.l1 k) (U62.l2 k) (U62.l3 k) _ _ _ _ _ _ _ _ _ _ _ _ _ _ _ _ _) _
  simp only [U62.l3_, head_in hb, head_0, head_end, Bool.and_self, cond_true, cond_false, Int.toNat_natCast, getD_at _ _ _ hb, wrap_nat (show b < 9223372036854775807 by omega)]
  exact Ev.dp (len_capS (by decide) h10) e
 ·show Ev (fun k => U62.l3_ k (U62.l0 k) (U62.l1 k) (U62.l2 k) (U62.l3 k) _ _ _ _ _ _ _ _ _ _ _ _ _ _ _ _ _) _
  have hmem := hq _ (List.getElem_mem hlt)
  have hw : IntKind.wrap .i64 ((((bs[b]).2.1.take i).foldl stp s0).1 + 1) = (((bs[b]).2.1.take i).foldl stp s0).1 + 1 := by
   have := stp_fst ((bs[b]).2.1.take i) s0
   rw [List.length_take] at this
   exact wrap_id (by omega) (by omega)
  have hr : (decide (0 ≤ ((bs[b]).2.1[i]).1) && decide (((bs[b]).2.1[i]).1 < (((((bs[b]).2.1.take i).foldl stp s0).2.length : Nat) : Int))) = true := by
   rw [stp_len, dpos hmem.1, dpos hmem.2]; rfl
  simp only [U62.l3_, head_in hb, head_in hlt, head_0, Bool.and_self, cond_true, Int.toNat_natCast, getD_at _ _ _ hb, getD_at _ _ _ hlt, wrap_nat (show i < 9223372036854775807 by omega), hw, hr]
  refine Ev.dp (len_capS (by decide) (by rw [List.length_map, List.length_take]; omega)) ?_
  simp only [← take_push hlt, List.map_append, List.foldl_append] at e
  exact e
 ·simp only [List.take_length]; exact e
theorem specCl2 (hbl : bs.length ≤ 1048576) (hb : b < bs.length) (h10 : a10.length ≤ 1048576) (hl : (bs[b]).1.length ≤ 1048576) (hl2 : (bs[b]).2.1.length ≤ 1048576) {s0 : Int × List Int} (h0 : 0 ≤ s0.1) (h1 : s0.1 ≤ 1048576) (hq : ∀ q ∈ (bs[b]).1, 0 ≤ q.1 ∧ q.1 < (s0.2.length : Int)) (hq2 : ∀ q ∈ (bs[b]).2.1, 0 ≤ q.1 ∧ q.1 < (s0.2.length : Int))
  (e : Ev (fun k => U62.l1 k bs ((bs[b]).2.1.foldl stp ((bs[b]).1.foldl stp s0)).1 ((b + 1 : Nat) : Int) a4 a5 a6 ((bs[b]).2.1.foldl stp ((bs[b]).1.foldl stp s0)).2 a8 a9 (a10 ++ [((bs[b]).1.map (fun q => q.2), (bs[b]).2.1.map (fun q => q.2), t1, t2, t3, t4, ())])) r) :
  Ev (fun k => U62.l2 k bs s0.1 (b : Int) 0 a4 a5 a6 s0.2 a8 a9 a10 t1 t2 t3 t4 [] []) r := by
 refine st_loop (σ := (Int × List Int) × List tPhiD) (n0 := (bs[b]).1.length) (L := fun k a s => U62.l2 k bs s.1.1 (b : Int) a a4 a5 a6 s.1.2 a8 a9 a10 t1 t2 t3 t4 s.2 []) (T := fun k s => U62.l3 k bs s.1.1 (b : Int) 0 a4 a5 a6 s.1.2 a8 a9 a10 t1 t2 t3 t4 s.2 []) (fun i => (((bs[b]).1.take i).foldl stp s0, ((bs[b]).1.take i).map fun q => q.2)) (fun r e => Ev.sk1 ?_) (fun i r hlt e => Ev.sk1 ?_) ?_
 ·show Ev (fun k => U62.l2_ k (U62.l0 k) (U62.l1 k) (U62.l2 k) (U62.l3 k) _ _ _ _ _ _ _ _ _ _ _ _ _ _ _ _ _) _
  simp only [U62.l2_, head_in hb, head_0, head_end, Bool.and_self, cond_true, cond_false, Int.toNat_natCast, getD_at _ _ _ hb]
  exact e
 ·show Ev (fun k => U62.l2_ k (U62.l0 k) (U62.l1 k) (U62.l2 k) (U62.l3 k) _ _ _ _ _ _ _ _ _ _ _ _ _ _ _ _ _) _
  have hmem := hq _ (List.getElem_mem hlt)
  have hw : IntKind.wrap .i64 ((((bs[b]).1.take i).foldl stp s0).1 + 1) = (((bs[b]).1.take i).foldl stp s0).1 + 1 := by
   have := stp_fst ((bs[b]).1.take i) s0
   rw [List.length_take] at this
   exact wrap_id (by omega) (by omega)
  have hr : (decide (0 ≤ ((bs[b]).1[i]).1) && decide (((bs[b]).1[i]).1 < (((((bs[b]).1.take i).foldl stp s0).2.length : Nat) : Int))) = true := by
   rw [stp_len, dpos hmem.1, dpos hmem.2]; rfl
  simp only [U62.l2_, head_in hb, head_in hlt, head_0, Bool.and_self, cond_true, Int.toNat_natCast, getD_at _ _ _ hb, getD_at _ _ _ hlt, wrap_nat (show i < 9223372036854775807 by omega), hw, hr]
  refine Ev.dp (len_capS (by decide) (by rw [List.length_map, List.length_take]; omega)) ?_
  simp only [← take_push hlt, List.map_append, List.foldl_append] at e
  exact e
 ·simp only [List.take_length]
  refine specCl3 hbl hb h10 hl2 (s0 := (bs[b]).1.foldl stp s0) ?_ ?_ (fun q h => by rw [stp_len]; exact hq2 q h) e
  ·rw [stp_fst]; omega
  ·rw [stp_fst]; omega
end
def keepOB (ids : List Int) (n : Nat) (x : tBlockD) : tl8BD := (keepT ids n x.1, keepT ids (n + x.1.length) x.2.1, x.2.2)
def keepOs (ids : List Int) (f : tFuncD) : List tl8BD := mapB (keepOB ids) f.1.length f.2.2.1
theorem keepOs_eq (ids : List Int) (f : tFuncD) : (openBs f).map (keepO ids) = keepOs ids f := by unfold openBs keepOs; rw [mapB_map]; rfl
theorem keepT_mem {α : Type} {ids : List Int} {n : Nat} {l : List α} {q : Int × α} (h : q ∈ keepT ids n l) : (n : Int) ≤ q.1 ∧ q.1 < ((n + l.length : Nat) : Int) := (tagL_mem (List.mem_filter.1 h).1).2
theorem specClose {funcs : Int} {f : tFuncD} (hf : Fm funcs f) (hs : Small tFunc f) (ids : List Int) : Ev (fun k => U62.f k f (keepOs ids f)) ((((), f.2.1, (), ()), ()), (f.1, (keepBs ids f).map (subB (toS f.1.length ids (cntN f) (cntN f))), ())) := by
 have hcnt : cntN f ≤ 60 := by have := hf.cnt; rw [cntN_eq] at this; omega
 have h10 := hf.b10
 have h4 := hf.p4
 have hkl : (keepOs ids f).length = f.2.2.1.length := mapB_len _ _ _
 unfold U62.f
 refine Ev.bind (specCount hs) ?_
 show Ev (fun k => bif decide (cntB f = cntB f) && decide (0 ≤ cntB f) && decide (cntB f * 8 ≤ 281474976710656) then U62.l0 k (keepOs ids f) 0 f 0 [] [] (List.replicate (Int.toNat (cntB f)) 0) else none) _
 rw [cntN_eq, Int.toNat_natCast]
 refine Ev.pos (by rw [dpos rfl, dpos (show 0 ≤ (cntN f : Int) by omega), dpos (show (cntN f : Int) * 8 ≤ 281474976710656 by omega)]; rfl) ?_
 rw [← toS_0 f.1.length ids]
 have hp : f.1.length ≤ cntN f := by unfold cntN; omega
 refine st_loop (n0 := f.1.length) (L := fun k a s => U62.l0 k (keepOs ids f) a f 0 [] [] s) (T := fun k s => U62.l1 k (keepOs ids f) (f.1.length : Int) 0 0 [] [] s f.2.1 f.1 []) (toS f.1.length ids (cntN f)) (fun r e => Ev.sk1 ?_) (fun i r hlt e => Ev.sk1 ?_) ?_
 ·show Ev (fun k => U62.l0_ k (U62.l0 k) (U62.l1 k) (U62.l2 k) (U62.l3 k) _ _ _ _ _ _ _) _
  simp only [U62.l0_, head_end, cond_false]
  exact Ev.bind (Ev.all fun k => specCopy k hs.1.1) e
 ·show Ev (fun k => U62.l0_ k (U62.l0 k) (U62.l1 k) (U62.l2 k) (U62.l3 k) _ _ _ _ _ _ _) _
  simp only [U62.l0_, head_in hlt, head_0, cond_true, Int.toNat_natCast, wrap_nat (show i < 9223372036854775807 by omega), toS_len, dpos (show (i : Int) < (cntN f : Int) by omega), Bool.and_self]
  have hg : goneN f.1.length ids i = false := by unfold goneN; rw [dneg (by omega)]; rfl
  have hk := cntK_params f.1.length ids i (by omega)
  simp only [← toS_set (show i < cntN f by omega) hg, hk] at e
  exact e
 ·have hk0 : (f.1.length : Int) = (cntK f.1.length ids f.1.length : Int) := by rw [cntK_params _ _ _ (Nat.le_refl _)]
  rw [hk0]
  refine st_loop (σ := (Int × List Int) × List tBlockD) (n0 := f.2.2.1.length) (L := fun k a s => U62.l1 k (keepOs ids f) s.1.1 a 0 [] [] s.1.2 f.2.1 f.1 s.2) (T := fun k s => Option.bind (U61.f k (f.1, f.2.1, s.2, ()) s.1.2) fun r1 => some ((((), r1.1.1.2.1, (), ()), ()), (r1.2.1, r1.2.2.1, ()))) (fun i => (((cntK f.1.length ids (fstN f i) : Int), toS f.1.length ids (cntN f) (fstN f i)), mapB (keepB ids) f.1.length (f.2.2.1.take i))) (fun r e => Ev.sk1 ?_) (fun i r hlt e => Ev.sk1 ?_) ?_
  ·show Ev (fun k => U62.l1_ k (U62.l0 k) (U62.l1 k) (U62.l2 k) (U62.l3 k) _ _ _ _ _ _ _ _ _ _) _
   simp only [U62.l1_, hkl, dneg (Int.lt_irrefl _), cond_false]
   exact e
  ·show Ev (fun k => U62.l1_ k (U62.l0 k) (U62.l1 k) (U62.l2 k) (U62.l3 k) _ _ _ _ _ _ _ _ _ _) _
   have hlt' : i < (keepOs ids f).length := by omega
   have hget : (keepOs ids f)[i] = keepOB ids (fstN f i) f.2.2.1[i] := mapB_get _ _ _ _ hlt hlt'
   have hmem := List.getElem_mem hlt
   obtain ⟨w1, w2⟩ := hf.phis hmem
   have hfst := fstN_le f i
   have hfst1 := fstN_le f (i + 1)
   have hck := cntK_le f.1.length ids (fstN f i)
   have hpf : f.1.length ≤ fstN f i := by unfold fstN; omega
   rw [fstN_succ hlt] at hfst1
   unfold wN at hfst1
   have hk1 := keepT_len ids (fstN f i) (f.2.2.1[i]).1
   have hk2 := keepT_len ids (fstN f i + (f.2.2.1[i]).1.length) (f.2.2.1[i]).2.1
   simp only [U62.l1_, head_in hlt', head_0, Bool.and_self, cond_true, Int.toNat_natCast, getD_at _ _ _ hlt']
   refine specCl2 (s0 := ((cntK f.1.length ids (fstN f i) : Int), toS f.1.length ids (cntN f) (fstN f i))) (by omega) hlt' (by rw [mapB_len, List.length_take]; omega) (by rw [hget]; show (keepT ids (fstN f i) (f.2.2.1[i]).1).length ≤ _; omega) (by rw [hget]; show (keepT ids (fstN f i + (f.2.2.1[i]).1.length) (f.2.2.1[i]).2.1).length ≤ _; omega) (by show (0:Int) ≤ (cntK f.1.length ids (fstN f i) : Int); omega) (by show (cntK f.1.length ids (fstN f i) : Int) ≤ 1048576; omega) (fun q hq => ?_) (fun q hq => ?_) ?_
   ·rw [hget] at hq
    have := keepT_mem (show q ∈ keepT ids (fstN f i) (f.2.2.1[i]).1 from hq)
    rw [toS_len]; omega
   ·rw [hget] at hq
    have := keepT_mem (show q ∈ keepT ids (fstN f i + (f.2.2.1[i]).1.length) (f.2.2.1[i]).2.1 from hq)
    rw [toS_len]; omega
   ·rw [hget]
    show Ev (fun k => U62.l1 k (keepOs ids f) ((keepT ids (fstN f i + (f.2.2.1[i]).1.length) (f.2.2.1[i]).2.1).foldl stp ((keepT ids (fstN f i) (f.2.2.1[i]).1).foldl stp ((cntK f.1.length ids (fstN f i) : Int), toS f.1.length ids (cntN f) (fstN f i)))).1 ((i + 1 : Nat) : Int) 0 [] [] ((keepT ids (fstN f i + (f.2.2.1[i]).1.length) (f.2.2.1[i]).2.1).foldl stp ((keepT ids (fstN f i) (f.2.2.1[i]).1).foldl stp ((cntK f.1.length ids (fstN f i) : Int), toS f.1.length ids (cntN f) (fstN f i)))).2 f.2.1 f.1 (mapB (keepB ids) f.1.length (f.2.2.1.take i) ++ [keepB ids (fstN f i) f.2.2.1[i]])) r
    rw [stp_keep (f.2.2.1[i]).1 (fstN f i) hpf (by omega), stp_keep (f.2.2.1[i]).2.1 (fstN f i + (f.2.2.1[i]).1.length) (by omega) (by omega)]
    simp only [← mapB_push (keepB ids) hlt, fstN_succ hlt, wN, ← Nat.add_assoc] at e
    exact e
  ·simp only [List.take_length, fstN_end]
   exact Ev.bind (specSubst (keepF_ok (ids := ids) hf hs (by rw [toS_len, cntN_eq]))) (Ev.cst rfl)
theorem specWithout {funcs : Int} {f : tFuncD} (hf : Fm funcs f) (hs : Small tFunc f) {ids : List Int} (hi : ids.length ≤ 1048576) : Ev (fun k => U63.f k f ids) ((((), f.2.1, (), ()), ()), (f.1, (keepBs ids f).map (subB (toS f.1.length ids (cntN f) (cntN f))), ())) := by
 have h10 := hf.b10
 have hbl : (openBs f).length ≤ 1048576 := by unfold openBs; rw [mapB_len]; omega
 unfold U63.f
 refine Ev.bind (specOpen hf hs) ?_
 refine st_loop (n0 := (openBs f).length) (L := fun k a s => U63.l0 k ids a f 0 [] [] (openBs f) s) (T := fun k s => Option.bind (U62.f k f s) fun r1 => some ((((), r1.1.1.2.1, (), ()), ()), (r1.2.1, r1.2.2.1, ()))) (fun i => ((openBs f).take i).map (keepO ids)) (fun r e => Ev.sk1 ?_) (fun i r hlt e => Ev.sk1 ?_) ?_
 ·show Ev (fun k => U63.l0_ k (U63.l0 k) (U63.l1 k) (U63.l2 k) _ _ _ _ _ _ _ _) _
  simp only [U63.l0_, head_end, cond_false]
  exact e
 ·show Ev (fun k => U63.l0_ k (U63.l0 k) (U63.l1 k) (U63.l2 k) _ _ _ _ _ _ _ _) _
  have ho := openBs_ok hf hs (List.getElem_mem hlt)
  simp only [U63.l0_, head_in hlt, head_0, Bool.and_self, cond_true, Int.toNat_natCast, getD_at _ _ _ hlt]
  refine specWo1 hi hbl hlt (by rw [List.length_map, List.length_take]; omega) ho.p ho.i ?_
  simp only [← take_push hlt, List.map_append] at e
  exact e
 ·simp only [List.take_length]
  rw [keepOs_eq]
  exact Ev.bind (specClose hf hs ids) (Ev.cst rfl)
section
variable {ids : List Int} {f : tFuncD}
theorem tagL_get {α : Type} : ∀ (n : Nat) (l : List α) (i : Nat) (h : i < l.length) (h' : i < (tagL n l).length), (tagL n l)[i] = (((n + i : Nat) : Int), l[i])
 | n, x :: l, 0, h, h' => rfl
 | n, x :: l, i + 1, h, h' => by
  have ih := tagL_get (n + 1) l i (by simpa using h) (by rw [tagL_len]; simpa using h)
  simp only [tagL, List.getElem_cons_succ, ih]
  rw [show n + 1 + i = n + (i + 1) by omega]
theorem tagL_iff {α : Type} {n : Nat} {l : List α} {q : Int × α} : q ∈ tagL n l ↔ ∃ j, ∃ h : j < l.length, q = (((n + j : Nat) : Int), l[j]) := by
 rw [List.mem_iff_getElem]
 constructor
 ·rintro ⟨j, hj, rfl⟩
  rw [tagL_len] at hj
  exact ⟨j, hj, tagL_get n l j hj _⟩
 ·rintro ⟨j, hj, rfl⟩
  exact ⟨j, by rw [tagL_len]; exact hj, tagL_get n l j hj _⟩
theorem keepL_iff {α : Type} {n : Nat} {l : List α} {p : α} : p ∈ keepL ids n l ↔ ∃ q, q ∈ tagL n l ∧ q.1 ∉ ids ∧ q.2 = p := by
 unfold keepL keepT
 rw [List.mem_map]
 constructor
 ·rintro ⟨q, hq, rfl⟩
  rw [List.mem_filter] at hq
  exact ⟨q, hq.1, by simpa [keepP] using hq.2, rfl⟩
 ·rintro ⟨q, a, b, rfl⟩
  exact ⟨q, List.mem_filter.2 ⟨a, by simpa [keepP] using b⟩, rfl⟩
theorem names_iff {n : Nat} {y : tBlockD} {x : Int} : x ∈ namesB (keepB ids n y) ↔ (∃ p ∈ keepL ids n y.1, x ∈ p.2.1) ∨ (∃ i ∈ keepL ids (n + y.1.length) y.2.1, x ∈ opsB i) ∨ x ∈ endA y.2.2 := by
 unfold namesB keepB
 rw [List.mem_append, List.mem_append, List.mem_flatMap, List.mem_flatMap]
theorem mapB_iff {β : Type} {g : Nat → tBlockD → β} {y : β} {f : tFuncD} : y ∈ mapB g f.1.length f.2.2.1 ↔ ∃ i, ∃ h : i < f.2.2.1.length, y = g (fstN f i) f.2.2.1[i] := by
 rw [List.mem_iff_getElem]
 constructor
 ·rintro ⟨j, hj, rfl⟩
  rw [mapB_len] at hj
  exact ⟨j, hj, mapB_get g _ _ j hj _⟩
 ·rintro ⟨j, hj, rfl⟩
  exact ⟨j, by rw [mapB_len]; exact hj, mapB_get g _ _ j hj _⟩
theorem names_vid {funcs : Int} (hf : Fm funcs f) {y : tBlockD} (hy : y ∈ keepBs ids f) {x : Int} (hx : x ∈ namesB y) : vid f x := by
 obtain ⟨m, b, hb, rfl⟩ := mapB_mem (show y ∈ mapB (keepB ids) f.1.length f.2.2.1 from hy)
 rcases names_iff.1 hx with ⟨p, hp, h⟩ | ⟨p, hp, h⟩ | h
 ·exact hf.vp hb (keepL_mem hp) h
 ·exact (hf.vo hb (keepL_mem hp)).2 x h
 ·unfold endA at h
  by_cases c1 : b.2.2.1 = 1
  ·rw [dpos c1] at h
   rw [List.mem_singleton.1 h]
   exact hf.vt hb (Or.inl c1)
  ·rw [dneg c1] at h
   by_cases c3 : b.2.2.1 = 3
   ·rw [dpos c3] at h
    rw [List.mem_singleton.1 (show x ∈ [b.2.2.2.1] from h)]
    exact hf.vt hb (Or.inr c3)
   ·rw [dneg c3] at h
    cases h
/-- Both lists of numbers name alike what is left. -/
theorem sub_left {funcs : Int} (hf : Fm funcs f) (hg : ∀ y ∈ keepBs ids f, ∀ x ∈ namesB y, x ∉ ids) : (keepBs ids f).map (subB (toS f.1.length ids (cntN f) (cntN f))) = (keepBs ids f).map (subB (toN f.1.length ids (cntN f))) := List.map_congr_left fun y hy => subB_congr fun x hx => by
 have hv := names_vid hf hy hx
 unfold vid at hv
 rw [cntN_eq] at hv
 exact sub_same hv.1 hv.2 (hg y hy x hx)
end
theorem sz_then {n s : Int} {g : Nat → Option IR} (h : Ev g (one s)) : Ev (fun k => Option.bind (g k) fun r1 => bif decide (r1.1.1.1 < 0) then some (((-1, ()), ()), ()) else some (((r1.1.1.1, ()), ()), ())) (one (if s < 0 then -1 else s)) := by
 refine Ev.bind h ?_
 by_cases hs : s < 0
 ·rw [if_pos hs]; exact Ev.pos (dpos hs) (Ev.cst rfl)
 ·rw [if_neg hs]; exact Ev.neg (dneg hs) (Ev.cst rfl)
theorem szInts : SzOK (.list (.int .i64)) U0.f := by
 intro l hw n h0 h1
 have hlen : List.length (α := Int) l ≤ 9223372036854775807 := hw.1
 have hwr : IntKind.wrap .i64 (n - (List.length (α := Int) l : Int)) = n - (List.length (α := Int) l : Int) := wrap_id (by omega) (by omega)
 have he : ∀ k, U0.f k l n = bif decide (n - (List.length (α := Int) l : Int) < 0) then some (one (-1)) else some (one (n - (List.length (α := Int) l : Int))) := fun k => by
  show (bif decide (IntKind.wrap .i64 (n - (List.length (α := Int) l : Int)) < 0) then _ else _) = _
  rw [hwr]
 by_cases hs : n - (List.length (α := Int) l : Int) < 0
 ·exact ⟨-1, Ev.all fun k => by rw [he, dpos hs]; rfl, by omega, by omega, fun h => by omega⟩
 ·exact ⟨_, Ev.all fun k => by rw [he, dneg hs]; rfl, by omega, by omega, fun h => ⟨by show List.length (α := Int) l ≤ _; omega, fun _ _ => trivial⟩⟩
theorem szPhi : SzOK tPhi U1.f := by
 intro x hw n h0 h1
 obtain ⟨s, e, a, b, c⟩ := szInts _ hw.2.1 n h0 h1
 exact ⟨_, sz_then (n := n) e, by split <;> omega, by split <;> omega, fun h => ⟨trivial, c (by split at h <;> omega), trivial⟩⟩
theorem szPhiS : SzOK (.list tPhi) U2.f := sz_list (z := tPhiZ) szPhi (L := U2.l0) (fun k l a b => rfl) fun k l a => rfl
theorem szInst : SzOK tInst U3.f := by
 intro x hw n h0 h1
 obtain ⟨s, e, a, b, c⟩ := szInts _ hw.2.2.2.2.2.2.1 n h0 h1
 exact ⟨_, sz_then (n := n) e, by split <;> omega, by split <;> omega, fun h => ⟨trivial, trivial, trivial, trivial, trivial, trivial, c (by split at h <;> omega), trivial⟩⟩
theorem szInstS : SzOK (.list tInst) U4.f := sz_list (z := tInstZ) szInst (L := U4.l0) (fun k l a b => rfl) fun k l a => rfl
theorem sz_two {n s : Int} {g : Nat → Option IR} {f : Nat → Int → Option IR} {r : Int} (h : Ev g (one s)) (h' : 0 ≤ s → Ev (fun k => f k s) (one r)) (hr : s < 0 → r = -1) : Ev (fun k => Option.bind (g k) fun r1 => bif decide (r1.1.1.1 < 0) then some (((-1, ()), ()), ()) else f k r1.1.1.1) (one r) := by
 refine Ev.bind h ?_
 by_cases hs : s < 0
 ·rw [hr hs]; exact Ev.pos (dpos hs) (Ev.cst rfl)
 ·exact Ev.neg (dneg hs) (h' (by omega))
theorem szBlock : SzOK tBlock U5.f := by
 intro x hw n h0 h1
 obtain ⟨s, e, a, b, c⟩ := szPhiS _ hw.1 n h0 h1
 by_cases hs : s < 0
 ·exact ⟨-1, sz_two (n := n) (f := fun k s => Option.bind (U4.f k x.2.1 s) fun r1 => bif decide (r1.1.1.1 < 0) then some (((-1, ()), ()), ()) else some (((r1.1.1.1, ()), ()), ())) e (fun h => by omega) (fun _ => rfl), by omega, by omega, fun h => by omega⟩
 ·obtain ⟨s', e', a', b', c'⟩ := szInstS _ hw.2.1 s (by omega) (by omega)
  exact ⟨_, sz_two (n := n) (f := fun k s => Option.bind (U4.f k x.2.1 s) fun r1 => bif decide (r1.1.1.1 < 0) then some (((-1, ()), ()), ()) else some (((r1.1.1.1, ()), ()), ())) e (fun _ => sz_then (n := n) e') (fun h => by omega), by split <;> omega, by split <;> omega, fun h => ⟨c (by omega), c' (by split at h <;> omega), trivial, trivial, trivial, trivial, trivial⟩⟩
theorem szBlockS : SzOK (.list tBlock) U6.f := sz_list (z := tBlockZ) szBlock (L := U6.l0) (fun k l a b => rfl) fun k l a => rfl
theorem szFunc : SzOK tFunc U7.f := by
 intro x hw n h0 h1
 obtain ⟨s, e, a, b, c⟩ := szInts _ hw.1 n h0 h1
 by_cases hs : s < 0
 ·exact ⟨-1, sz_two (n := n) (f := fun k s => Option.bind (U6.f k x.2.2.1 s) fun r1 => bif decide (r1.1.1.1 < 0) then some (((-1, ()), ()), ()) else some (((r1.1.1.1, ()), ()), ())) e (fun h => by omega) (fun _ => rfl), by omega, by omega, fun h => by omega⟩
 ·obtain ⟨s', e', a', b', c'⟩ := szBlockS _ hw.2.2.1 s (by omega) (by omega)
  exact ⟨_, sz_two (n := n) (f := fun k s => Option.bind (U6.f k x.2.2.1 s) fun r1 => bif decide (r1.1.1.1 < 0) then some (((-1, ()), ()), ()) else some (((r1.1.1.1, ()), ()), ())) e (fun _ => sz_then (n := n) e') (fun h => by omega), by split <;> omega, by split <;> omega, fun h => ⟨c (by omega), trivial, c' (by split at h <;> omega), trivial⟩⟩
theorem toInts {l : List Int} (h : Small (.list (.int .i64)) l) : Ev (fun k => U10.f k l) (rowR l) :=
 to_list (z := 0) (L := U10.l0) (q := fun k x h => h x) (b := 8) (R := Unit) (fun k l a b => rfl) (fun k l => rfl) h.1 (by omega) (by omega) fun x _ h r hh => hh
theorem toPhi {x : tPhiD} (h : Small tPhi x) : Ev (fun k => U11.f k x) (((x.1, (), ()), ()), (x.2.1, ())) := Ev.bind (toInts h.2.1) (Ev.cst rfl)
theorem toPhiS {l : List tPhiD} (h : Small (.list tPhi) l) : Ev (fun k => U12.f k l) (rowR l) :=
 to_list (z := tPhiZ) (L := U12.l0) (q := fun k x h => Option.bind (U11.f k x) fun r1 => h (r1.1.1.1, r1.2.1, ())) (b := 32) (R := Unit) (fun k l a b => rfl) (fun k l => rfl) h.1 (by omega) (by omega) fun x hx g r hh => Ev.bind (toPhi (h.2 x hx)) hh
theorem toInst {x : tInstD} (h : Small tInst x) : Ev (fun k => U13.f k x) (((x.1, x.2.1, x.2.2.1, x.2.2.2.1, x.2.2.2.2.1, x.2.2.2.2.2.1, (), ()), ()), (x.2.2.2.2.2.2.1, ())) := Ev.bind (toInts h.2.2.2.2.2.2.1) (Ev.cst rfl)
theorem toInstS {l : List tInstD} (h : Small (.list tInst) l) : Ev (fun k => U14.f k l) (rowR l) :=
 to_list (z := tInstZ) (L := U14.l0) (q := fun k x h => Option.bind (U13.f k x) fun r1 => h (r1.1.1.1, r1.1.1.2.1, r1.1.1.2.2.1, r1.1.1.2.2.2.1, r1.1.1.2.2.2.2.1, r1.1.1.2.2.2.2.2.1, r1.2.1, ())) (b := 72) (R := Unit) (fun k l a b => rfl) (fun k l => rfl) h.1 (by omega) (by omega) fun x hx g r hh => Ev.bind (toInst (h.2 x hx)) hh
theorem toBlock {x : tBlockD} (h : Small tBlock x) : Ev (fun k => U16.f k x) ((((), (), x.2.2.1, x.2.2.2.1, x.2.2.2.2.1, x.2.2.2.2.2.1, ()), ()), (x.1, x.2.1, ())) := Ev.bind (toPhiS h.1) (Ev.bind (toInstS h.2.1) (Ev.cst rfl))
theorem toBlockS {l : List tBlockD} (h : Small (.list tBlock) l) : Ev (fun k => U17.f k l) (rowR l) :=
 to_list (z := tBlockZ) (L := U17.l0) (q := fun k x h => Option.bind (U16.f k x) fun r1 => h (r1.2.1, r1.2.2.1, r1.1.1.2.2.1, r1.1.1.2.2.2.1, r1.1.1.2.2.2.2.1, r1.1.1.2.2.2.2.2.1, ())) (b := 80) (R := Unit) (fun k l a b => rfl) (fun k l => rfl) h.1 (by omega) (by omega) fun x hx g r hh => Ev.bind (toBlock (h.2 x hx)) hh
theorem toFunc {x : tFuncD} (h : Small tFunc x) : Ev (fun k => U18.f k x) ((((), x.2.1, (), ()), ()), (x.1, x.2.2.1, ())) := Ev.bind (toInts h.1) (Ev.bind (toBlockS h.2.2.1) (Ev.cst rfl))
theorem eqInts {l : List Int} (h : Small (.list (.int .i64)) l) : Ev (fun k => U160.f k l l) (one true) :=
 eq_list (z := 0) (L := U160.l0) (q := fun k x y g => bif !decide (x = y) then some (((false, ()), ()), ()) else g) (fun k l m a => rfl) (fun k l m => rfl) h.1 fun x _ g r hh => Ev.neg (by rw [dpos rfl]; rfl) hh
theorem Ev.skip {R : Type} {n : Int} {o : Option R} {g : Nat → Option R} {r : R} (h : Ev g r) : Ev (fun k => bif !decide (n = n) then o else g k) r := Ev.neg (by rw [dpos rfl]; rfl) h
theorem Ev.yes {g : Nat → Option BR} {f : Nat → Option BR} {o : Option BR} {r : BR} (h : Ev g (one true)) (hf : Ev f r) : Ev (fun k => Option.bind (g k) fun r1 => bif !r1.1.1.1 then o else f k) r := Ev.bind h (Ev.neg rfl hf)
theorem eqPhi {x : tPhiD} (h : Small tPhi x) : Ev (fun k => U161.f k x x) (one true) := Ev.skip (Ev.yes (eqInts h.2.1) (Ev.cst rfl))
theorem eqPhiS {l : List tPhiD} (h : Small (.list tPhi) l) : Ev (fun k => U162.f k l l) (one true) :=
 eq_list (z := tPhiZ) (L := U162.l0) (q := fun k x y g => Option.bind (U161.f k x y) fun r1 => bif !r1.1.1.1 then some (((false, ()), ()), ()) else g) (fun k l m a => rfl) (fun k l m => rfl) h.1 fun x hx g r hh => Ev.yes (eqPhi (h.2 x hx)) hh
theorem eqInst {x : tInstD} (h : Small tInst x) : Ev (fun k => U163.f k x x) (one true) := Ev.skip (Ev.skip (Ev.skip (Ev.skip (Ev.skip (Ev.skip (Ev.yes (eqInts h.2.2.2.2.2.2.1) (Ev.cst rfl)))))))
theorem eqInstS {l : List tInstD} (h : Small (.list tInst) l) : Ev (fun k => U164.f k l l) (one true) :=
 eq_list (z := tInstZ) (L := U164.l0) (q := fun k x y g => Option.bind (U163.f k x y) fun r1 => bif !r1.1.1.1 then some (((false, ()), ()), ()) else g) (fun k l m a => rfl) (fun k l m => rfl) h.1 fun x hx g r hh => Ev.yes (eqInst (h.2 x hx)) hh
theorem eqTerm {x : tTermD} : Ev (fun k => U165.f k x x) (one true) := Ev.skip (Ev.skip (Ev.skip (Ev.skip (Ev.cst rfl))))
theorem eqBlock {x : tBlockD} (h : Small tBlock x) : Ev (fun k => U166.f k x x) (one true) := Ev.yes (eqPhiS h.1) (Ev.yes (eqInstS h.2.1) (Ev.yes eqTerm (Ev.cst rfl)))
theorem eqBlockS {l : List tBlockD} (h : Small (.list tBlock) l) : Ev (fun k => U167.f k l l) (one true) :=
 eq_list (z := tBlockZ) (L := U167.l0) (q := fun k x y g => Option.bind (U166.f k x y) fun r1 => bif !r1.1.1.1 then some (((false, ()), ()), ()) else g) (fun k l m a => rfl) (fun k l m => rfl) h.1 fun x hx g r hh => Ev.yes (eqBlock (h.2 x hx)) hh
theorem eqFunc {x : tFuncD} (h : Small tFunc x) : Ev (fun k => U168.f k x x) (one true) := Ev.yes (eqInts h.1) (Ev.skip (Ev.yes (eqBlockS h.2.2.1) (Ev.cst rfl)))
theorem szFuncS : SzOK (.list tFunc) U8.f := sz_list (z := tFuncZ) szFunc (L := U8.l0) (fun k l a b => rfl) fun k l a => rfl
theorem szModule : SzOK tModule U9.f := by
 intro x hw n h0 h1
 obtain ⟨s, e, a, b, c⟩ := szFuncS _ hw.1 n h0 h1
 exact ⟨_, sz_then (n := n) e, by split <;> omega, by split <;> omega, fun h => ⟨c (by split at h <;> omega), trivial⟩⟩
theorem toFuncS {l : List tFuncD} (h : Small (.list tFunc) l) : Ev (fun k => U19.f k l) (rowR l) :=
 to_list (z := tFuncZ) (L := U19.l0) (q := fun k x h => Option.bind (U18.f k x) fun r1 => h (r1.2.1, r1.1.1.2.1, r1.2.2.1, ())) (b := 56) (R := Unit) (fun k l a b => rfl) (fun k l => rfl) h.1 (by omega) (by omega) fun x hx g r hh => Ev.bind (toFunc (h.2 x hx)) hh
theorem toModule {x : tModuleD} (h : Small tModule x) : Ev (fun k => U20.f k x) ((((), ()), ()), (x.1, ())) := Ev.bind (toFuncS h.1) (Ev.cst rfl)
theorem eqFuncS {l : List tFuncD} (h : Small (.list tFunc) l) : Ev (fun k => U169.f k l l) (one true) :=
 eq_list (z := tFuncZ) (L := U169.l0) (q := fun k x y g => Option.bind (U168.f k x y) fun r1 => bif !r1.1.1.1 then some (((false, ()), ()), ()) else g) (fun k l m a => rfl) (fun k l m => rfl) h.1 fun x hx g r hh => Ev.yes (eqFunc (h.2 x hx)) hh
theorem eqModule {x : tModuleD} (h : Small tModule x) : Ev (fun k => U170.f k x x) (one true) := Ev.yes (eqFuncS h.1) (Ev.cst rfl)
theorem Ev.sc {R : Type} {g : Nat → Option R} {r : R} (h : Ev (fun k => g (k + 1)) r) : Ev g r := Ev.step h fun _ => rfl
theorem updAt_length {α : Type} (z : α) (l : List α) (i : Nat) (f : α → α) : (updAt z l i f).length = l.length := by simp [updAt]
theorem updAt_at {α : Type} (z : α) (l : List α) (i : Nat) (f : α → α) (h : i < l.length) : (updAt z l i f).getD i z = f (l.getD i z) := by
 rw [getD_at _ _ _ (by rw [updAt_length]; exact h)]
 simp [updAt]
theorem updAt_twice {α : Type} {z : α} {l : List α} {i : Nat} (h : i < l.length) (f g : α → α) : updAt z (updAt z l i f) i g = updAt z l i (fun x => g (f x)) := by
 show (updAt z l i f).set i (g ((updAt z l i f).getD i z)) = _
 rw [updAt_at _ _ _ _ h]
 simp [updAt]
abbrev MkR (α : Type) := (((Int × Unit) × Unit) × (α × Unit))
abbrev mkr {α : Type} (n : Int) (l : α) : MkR α := (((n, ()), ()), (l, ()))
/-- The numbers n, n + 1, .. -/
def upFrom : Int → Nat → List Int
 | _, 0 => []
 | n, d + 1 => n :: upFrom (n + 1) d
theorem markInts_l : ∀ (d i : Nat) (pre : List Int) (l : List Int) (n : Int), pre.length = i → l.length = d → i + d ≤ 1048576 → 0 ≤ n → n + (d : Int) ≤ 9223372036854775807 → Ev (fun k => U171.l0 k n (i : Int) (pre ++ l)) (mkr (n + (d : Int)) (pre ++ upFrom n d)) := by
 intro d
 induction d with
 | zero =>
  intro i pre l n hi hl h1 h0 hM
  obtain rfl : l = [] := List.eq_nil_of_length_eq_zero hl
  subst hi
  refine Ev.step (g' := fun _ => some (mkr (n + 0) (pre ++ []))) (Ev.cst rfl) fun k => ?_
  show U171.l0_ k (U171.l0 k) n _ (pre ++ []) = _
  unfold U171.l0_
  simp
 | succ d ih =>
  intro i pre l n hi hl h1 h0 hM
  obtain ⟨x, l, rfl⟩ : ∃ x m, l = x :: m := by
   cases l with
   | nil => simp at hl
   | cons x m => exact ⟨x, m, rfl⟩
  subst hi
  have hlt : pre.length < (pre ++ x :: l).length := by simp
  refine Ev.sc ?_
  show Ev (fun k => U171.l0_ k (U171.l0 k) n _ (pre ++ x :: l)) _
  unfold U171.l0_
  simp only [head_in hlt, head_0, Bool.and_self, cond_true, Int.toNat_natCast, wrap_nat (show pre.length < 9223372036854775807 by omega), wrap_id (x := n + 1) (by omega) (by omega)]
  have e : (pre ++ x :: l).set pre.length n = (pre ++ [n]) ++ l := by simp
  rw [e]
  refine (ih (pre.length + 1) (pre ++ [n]) l (n + 1) (by simp) (by simpa using hl) (by omega) (by omega) (by omega)).rw ?_
  have e1 : n + 1 + (d : Int) = n + ((d + 1 : Nat) : Int) := by omega
  simp [upFrom, e1]
theorem markInts (l : List Int) (n : Int) (hl : l.length ≤ 1048576) (h0 : 0 ≤ n) (hM : n + (l.length : Int) ≤ 9223372036854775807) : Ev (fun k => U171.f k n l) (mkr (n + (l.length : Int)) (upFrom n l.length)) :=
 markInts_l l.length 0 [] l n rfl rfl (by omega) h0 hM
theorem heldInts_l : ∀ (d i : Nat) (pre : List Int) (n : Int), pre.length = i → i + d ≤ 1048576 → 0 ≤ n → n + (d : Int) ≤ 9223372036854775807 → Ev (fun k => U177.l0 k (pre ++ upFrom n d) n (i : Int)) (one (n + (d : Int))) := by
 intro d
 induction d with
 | zero =>
  intro i pre n hi h1 h0 hM
  subst hi
  refine Ev.step (g' := fun _ => some (one (n + 0))) (Ev.cst rfl) fun k => ?_
  show U177.l0_ k (U177.l0 k) (pre ++ []) n _ = _
  unfold U177.l0_
  simp
 | succ d ih =>
  intro i pre n hi h1 h0 hM
  subst hi
  have hlt : pre.length < (pre ++ n :: upFrom (n + 1) d).length := by simp
  refine Ev.sc ?_
  show Ev (fun k => U177.l0_ k (U177.l0 k) (pre ++ n :: upFrom (n + 1) d) n _) _
  unfold U177.l0_
  simp only [head_in hlt, head_0, Bool.and_self, cond_true, get_in hlt, wrap_nat (show pre.length < 9223372036854775807 by omega), wrap_id (x := n + 1) (by omega) (by omega)]
  refine Ev.neg (by simp) ?_
  have e : pre ++ n :: upFrom (n + 1) d = (pre ++ [n]) ++ upFrom (n + 1) d := by simp
  rw [e]
  refine (ih (pre.length + 1) (pre ++ [n]) (n + 1) (by simp) (by omega) (by omega) (by omega)).rw ?_
  have e1 : n + 1 + (d : Int) = n + ((d + 1 : Nat) : Int) := by omega
  rw [e1]
theorem heldInts (n : Int) (d : Nat) (hl : d ≤ 1048576) (h0 : 0 ≤ n) (hM : n + (d : Int) ≤ 9223372036854775807) : Ev (fun k => U177.f k (upFrom n d) n) (one (n + (d : Int))) :=
 heldInts_l d 0 [] n rfl (by omega) h0 hM
/-- The elements that count from a number up to another one. -/
def Chain {α : Type} (P : Int → α → Int → Prop) : Int → List α → Int → Prop
 | n, [], n' => n = n'
 | n, x :: l, n' => ∃ n1, P n x n1 ∧ Chain P n1 l n'
theorem held_ch {α : Type} {z : α} {P : Int → α → Int → Prop} {H : Nat → List α → Int → Int → Option IR}
  (hend : ∀ (l : List α) (n : Int) k, H (k + 1) l n (l.length : Int) = some (one n))
  (hstep : ∀ (l : List α) (i : Nat) (n n' : Int), i < l.length → l.length ≤ 1048576 → P n (l.getD i z) n' → ∀ r, Ev (fun k => H k l n' ((i + 1 : Nat) : Int)) r → Ev (fun k => H k l n (i : Int)) r) :
  ∀ (d i : Nat) (l : List α) (n n' : Int), i + d = l.length → l.length ≤ 1048576 → Chain P n (l.drop i) n' → Ev (fun k => H k l n (i : Int)) (one n') := by
 intro d
 induction d with
 | zero =>
  intro i l n n' hi hl hc
  obtain rfl : i = l.length := by omega
  rw [List.drop_length] at hc
  obtain rfl : n = n' := hc
  exact Ev.step (g' := fun _ => some (one n)) (Ev.cst rfl) (hend l n)
 | succ d ih =>
  intro i l n n' hi hl hc
  have hlt : i < l.length := by omega
  rw [List.drop_eq_getElem_cons hlt] at hc
  obtain ⟨n1, p, c⟩ := hc
  exact hstep l i n n1 hlt hl (by rw [getD_at _ _ _ hlt]; exact p) _ (ih (i + 1) l n1 n' (by omega) hl c)
theorem held_all {α : Type} {z : α} {P : Int → α → Int → Prop} {H : Nat → List α → Int → Int → Option IR}
  (hend : ∀ (l : List α) (n : Int) k, H (k + 1) l n (l.length : Int) = some (one n))
  (hstep : ∀ (l : List α) (i : Nat) (n n' : Int), i < l.length → l.length ≤ 1048576 → P n (l.getD i z) n' → ∀ r, Ev (fun k => H k l n' ((i + 1 : Nat) : Int)) r → Ev (fun k => H k l n (i : Int)) r)
  (l : List α) (n n' : Int) (hl : l.length ≤ 1048576) (hc : Chain P n l n') : Ev (fun k => H k l n 0) (one n') := held_ch hend hstep l.length 0 l n n' (by omega) hl hc
theorem Ev.sk {R : Type} {n m : Int} {o : Option R} {g : Nat → Option R} {r : R} (h : n = m) (e : Ev g r) : Ev (fun k => bif !decide (n = m) then o else g k) r := Ev.neg (by rw [dpos h]; rfl) e
def MP (n : Int) (x : tPhiD) (n' : Int) : Prop := ∃ d : Nat, d ≤ 1048576 ∧ 0 ≤ n ∧ n' = n + 1 + (d : Int) ∧ n' ≤ 9000000000000000000 ∧ x.1 = n ∧ x.2.1 = upFrom (n + 1) d
def MI (n : Int) (x : tInstD) (n' : Int) : Prop := ∃ d : Nat, d ≤ 1048576 ∧ 0 ≤ n ∧ n' = n + 1 + 1 + 1 + 1 + 1 + 1 + (d : Int) ∧ n' ≤ 9000000000000000000 ∧ x.1 = n ∧ x.2.1 = n + 1 ∧ x.2.2.1 = n + 1 + 1 ∧ x.2.2.2.1 = n + 1 + 1 + 1 ∧ x.2.2.2.2.1 = n + 1 + 1 + 1 + 1 ∧ x.2.2.2.2.2.1 = n + 1 + 1 + 1 + 1 + 1 ∧ x.2.2.2.2.2.2.1 = upFrom (n + 1 + 1 + 1 + 1 + 1 + 1) d
def MB (n : Int) (x : tBlockD) (n' : Int) : Prop := ∃ n1 n2, x.1.length ≤ 1048576 ∧ x.2.1.length ≤ 1048576 ∧ Chain MP n x.1 n1 ∧ Chain MI n1 x.2.1 n2 ∧ 0 ≤ n1 ∧ 0 ≤ n2 ∧ n' = n2 + 1 + 1 + 1 + 1 ∧ n' ≤ 9000000000000000000 ∧ x.2.2.1 = n2 ∧ x.2.2.2.1 = n2 + 1 ∧ x.2.2.2.2.1 = n2 + 1 + 1 ∧ x.2.2.2.2.2.1 = n2 + 1 + 1 + 1
theorem heldPhis (l : List tPhiD) (n n' : Int) (hl : l.length ≤ 1048576) (hc : Chain MP n l n') : Ev (fun k => U178.f k l n) (one n') := by
 refine held_all (z := tPhiZ) (P := MP) (H := U178.l0) (fun l n k => ?_) (fun l i n n1 hi hl hp r hr => Ev.sc ?_) l n n' hl hc
 ·show U178.l0_ k (U178.l0 k) l n _ = _
  unfold U178.l0_
  rw [head_end]; rfl
 ·obtain ⟨d, hd, h0, rfl, hM, e1, e2⟩ := hp
  show Ev (fun k => U178.l0_ k (U178.l0 k) l n _) _
  unfold U178.l0_
  simp only [head_in hi, head_0, Bool.and_self, cond_true, Int.toNat_natCast, wrap_nat (show i < 9223372036854775807 by omega), wrap_id (x := n + 1) (by omega) (by omega), e2]
  exact Ev.sk e1 (Ev.bind (heldInts (n + 1) d hd (by omega) (by omega)) (Ev.dn (show ¬ n + 1 + (d : Int) < 0 by omega) hr))
theorem heldInsts (l : List tInstD) (n n' : Int) (hl : l.length ≤ 1048576) (hc : Chain MI n l n') : Ev (fun k => U179.f k l n) (one n') := by
 refine held_all (z := tInstZ) (P := MI) (H := U179.l0) (fun l n k => ?_) (fun l i n n1 hi hl hp r hr => Ev.sc ?_) l n n' hl hc
 ·show U179.l0_ k (U179.l0 k) l n _ = _
  unfold U179.l0_
  rw [head_end]; rfl
 ·obtain ⟨d, hd, h0, rfl, hM, e1, e2, e3, e4, e5, e6, e7⟩ := hp
  show Ev (fun k => U179.l0_ k (U179.l0 k) l n _) _
  unfold U179.l0_
  simp only [head_in hi, head_0, Bool.and_self, cond_true, Int.toNat_natCast, wrap_nat (show i < 9223372036854775807 by omega), wrap_id (x := n + 1) (by omega) (by omega), wrap_id (x := n + 1 + 1) (by omega) (by omega), wrap_id (x := n + 1 + 1 + 1) (by omega) (by omega), wrap_id (x := n + 1 + 1 + 1 + 1) (by omega) (by omega), wrap_id (x := n + 1 + 1 + 1 + 1 + 1) (by omega) (by omega), wrap_id (x := n + 1 + 1 + 1 + 1 + 1 + 1) (by omega) (by omega), e7]
  exact Ev.sk e1 (Ev.sk e2 (Ev.sk e3 (Ev.sk e4 (Ev.sk e5 (Ev.sk e6 (Ev.bind (heldInts (n + 1 + 1 + 1 + 1 + 1 + 1) d hd (by omega) (by omega)) (Ev.dn (show ¬ n + 1 + 1 + 1 + 1 + 1 + 1 + (d : Int) < 0 by omega) hr)))))))
theorem heldBlocks (l : List tBlockD) (n n' : Int) (hl : l.length ≤ 1048576) (hc : Chain MB n l n') : Ev (fun k => U180.f k l n) (one n') := by
 refine held_all (z := tBlockZ) (P := MB) (H := U180.l0) (fun l n k => ?_) (fun l i n n1 hi hl hp r hr => Ev.sc ?_) l n n' hl hc
 ·show U180.l0_ k (U180.l0 k) l n _ = _
  unfold U180.l0_
  rw [head_end]; rfl
 ·obtain ⟨m1, m2, u1, u2, c1, c2, p1, p2, rfl, hM, e1, e2, e3, e4⟩ := hp
  show Ev (fun k => U180.l0_ k (U180.l0 k) l n _) _
  unfold U180.l0_
  simp only [head_in hi, head_0, Bool.and_self, cond_true, Int.toNat_natCast, wrap_nat (show i < 9223372036854775807 by omega)]
  refine Ev.bind (heldPhis _ n m1 u1 c1) (Ev.dn (show ¬ m1 < 0 by omega) (Ev.bind (heldInsts _ m1 m2 u2 c2) (Ev.dn (show ¬ m2 < 0 by omega) ?_)))
  simp only [wrap_id (x := m2 + 1) (by omega) (by omega), wrap_id (x := m2 + 1 + 1) (by omega) (by omega), wrap_id (x := m2 + 1 + 1 + 1) (by omega) (by omega), wrap_id (x := m2 + 1 + 1 + 1 + 1) (by omega) (by omega)]
  exact Ev.sk e1 (Ev.sk e2 (Ev.sk e3 (Ev.sk e4 hr)))
def wP (p : tPhiD) : Int := 1 + (p.2.1.length : Int)
def wI (i : tInstD) : Int := 6 + (i.2.2.2.2.2.2.1.length : Int)
def wK (x : tBlockD) : Int := sumB wP x.1 + sumB wI x.2.1 + 4
def wF (f : tFuncD) : Int := (f.1.length : Int) + 1 + sumB wK f.2.2.1
theorem wP_0 (p : tPhiD) : 0 ≤ wP p := by unfold wP; omega
theorem wI_0 (i : tInstD) : 0 ≤ wI i := by unfold wI; omega
theorem wK_0 (x : tBlockD) : 0 ≤ wK x := by
 have := sumB_nonneg (w := wP) (l := x.1) fun p _ => wP_0 p
 have := sumB_nonneg (w := wI) (l := x.2.1) fun p _ => wI_0 p
 unfold wK; omega
theorem wF_0 (f : tFuncD) : 0 ≤ wF f := by
 have := sumB_nonneg (w := wK) (l := f.2.2.1) fun p _ => wK_0 p
 unfold wF; omega
def SzW {α : Type} (wf : α → Prop) (w : α → Int) (e : Int) (f : Nat → α → Int → Option IR) : Prop := ∀ (x : α), wf x → ∀ n : Int, 0 ≤ n → n ≤ 1048576 → ∃ s, Ev (fun k => f k x n) (one s) ∧ -1 ≤ s ∧ s ≤ n ∧ (0 ≤ s → w x ≤ e + 6 * (n - s))
theorem szw_list {α : Type} {wf : α → Prop} {w : α → Int} {z : α} {f : Nat → α → Int → Option IR} (hf : SzW wf w 6 f) {L : Nat → List α → Int → Int → Option IR} {F : Nat → List α → Int → Option IR}
  (hL : ∀ k l a1 a2, L (k + 1) l a1 a2 = bif decide (a2 < (l.length : Int)) then (bif decide (0 ≤ a2) && decide (a2 < (l.length : Int)) then (Option.bind (f k (l.getD a2.toNat z) a1) fun r1 => bif decide (r1.1.1.1 < 0) then some (((-1, ()), ()), ()) else L k l r1.1.1.1 (IntKind.wrap .i64 (a2 + 1))) else none) else some (((a1, ()), ()), ()))
  (hF : ∀ k l a, F k l a = bif decide (IntKind.wrap .i64 (a - (l.length : Int)) < 0) then some (((-1, ()), ()), ()) else L k l (IntKind.wrap .i64 (a - (l.length : Int))) 0) : SzW (fun l : List α => l.length ≤ 9223372036854775807 ∧ ∀ x ∈ l, wf x) (fun l : List α => sumB w l) 0 F := by
 intro l hw n h0 h1
 obtain ⟨hlen, hel⟩ := hw
 have key : ∀ (d i : Nat) (n : Int), i + d = l.length → 0 ≤ n → n ≤ 1048576 → ∃ s, Ev (fun k => L k l n (i : Int)) (one s) ∧ -1 ≤ s ∧ s ≤ n ∧ (0 ≤ s → sumB w (l.drop i) ≤ 6 * (d : Int) + 6 * (n - s)) := by
  intro d
  induction d with
  | zero =>
   intro i n hi h0 h1
   have hi' : i = l.length := by omega
   subst hi'
   refine ⟨n, Ev.step (g' := fun _ => some (one n)) (Ev.cst rfl) fun k => ?_, by omega, Int.le_refl _, fun _ => by rw [List.drop_length]; simp only [sumB]; omega⟩
   rw [hL, head_end]; rfl
  | succ d ih =>
   intro i n hi h0 h1
   have hi' : i < l.length := by omega
   have hmem : l[i] ∈ l := List.getElem_mem hi'
   obtain ⟨s, e1, e2, e3, e4⟩ := hf (l[i]) (hel _ hmem) n h0 h1
   have hstep : ∀ k, L (k + 1) l n (i : Int) = Option.bind (f k (l[i]) n) fun r1 => bif decide (r1.1.1.1 < 0) then some (((-1, ()), ()), ()) else L k l r1.1.1.1 ((i + 1 : Nat) : Int) := fun k => by
    rw [hL]
    simp only [head_in hi', head_0, Bool.and_self, cond_true, get_in hi', wrap_nat (show i < 9223372036854775807 by omega)]
   rcases Int.lt_or_le s 0 with hs | hs
   ·refine ⟨-1, Ev.step (Ev.bind (f := fun k r1 => bif decide (r1.1.1.1 < 0) then some (((-1, ()), ()), ()) else L k l r1.1.1.1 ((i + 1 : Nat) : Int)) e1 ?_) hstep, by omega, by omega, fun h => by omega⟩
    exact Ev.pos (dpos hs) (Ev.cst rfl)
   ·obtain ⟨s', q1, q2, q3, q4⟩ := ih (i + 1) s (by omega) hs (by omega)
    refine ⟨s', Ev.step (Ev.bind (f := fun k r1 => bif decide (r1.1.1.1 < 0) then some (((-1, ()), ()), ()) else L k l r1.1.1.1 ((i + 1 : Nat) : Int)) e1 (Ev.neg (dneg (show ¬ s < 0 by omega)) q1)) hstep, q2, by omega, fun h => ?_⟩
    rw [sumB_drop w l i hi']
    have a := e4 hs
    have b := q4 h
    omega
 have hw : IntKind.wrap .i64 (n - (l.length : Int)) = n - (l.length : Int) := wrap_id (by omega) (by omega)
 rcases Int.lt_or_le (n - (l.length : Int)) 0 with hs | hs
 ·refine ⟨-1, (Ev.cst rfl : Ev (fun _ => some (one (-1 : Int))) _).congr fun k => ?_, by omega, by omega, fun h => by omega⟩
  rw [hF, hw, dpos hs]; rfl
 ·obtain ⟨s, q1, q2, q3, q4⟩ := key (l.length) 0 _ (by omega) hs (by omega)
  refine ⟨s, q1.congr fun k => ?_, q2, by omega, fun h => ?_⟩
  ·rw [hF, hw, dneg (by omega)]; rfl
  ·have := q4 h
   rw [List.drop_zero] at this
   show sumB w l ≤ _
   omega
theorem szwInts : SzW (Wf (.list (.int .i64))) (fun l => (List.length (α := Int) l : Int)) 0 U0.f := by
 intro (l : List Int) hw n h0 h1
 have hlen : List.length (α := Int) l ≤ 9223372036854775807 := hw.1
 have hwr : IntKind.wrap .i64 (n - (List.length (α := Int) l : Int)) = n - (List.length (α := Int) l : Int) := wrap_id (by omega) (by omega)
 have he : ∀ k, U0.f k l n = bif decide (n - (List.length (α := Int) l : Int) < 0) then some (one (-1)) else some (one (n - (List.length (α := Int) l : Int))) := fun k => by
  show (bif decide (IntKind.wrap .i64 (n - (List.length (α := Int) l : Int)) < 0) then _ else _) = _
  rw [hwr]
 by_cases hs : n - (List.length (α := Int) l : Int) < 0
 ·exact ⟨-1, Ev.all fun k => by rw [he, dpos hs]; rfl, by omega, by omega, fun h => by omega⟩
 ·exact ⟨_, Ev.all fun k => by rw [he, dneg hs]; rfl, by omega, by omega, fun h => by show (l.length : Int) ≤ _; omega⟩
theorem szwPhi : SzW (Wf tPhi) wP 6 U1.f := by
 intro (x : tPhiD) hw n h0 h1
 obtain ⟨s, e, a, b, c⟩ := szwInts _ hw.2.1 n h0 h1
 exact ⟨_, sz_then (n := n) e, by split <;> omega, by split <;> omega, fun h => by have u : (x.2.1.length : Int) ≤ 0 + 6 * (n - s) := c (by split at h <;> omega); unfold wP; split at h <;> split <;> omega⟩
theorem szwPhiS : SzW (Wf (.list tPhi)) (fun l => sumB wP l) 0 U2.f := szw_list (z := tPhiZ) szwPhi (L := U2.l0) (fun k l a b => rfl) fun k l a => rfl
theorem szwInst : SzW (Wf tInst) wI 6 U3.f := by
 intro (x : tInstD) hw n h0 h1
 obtain ⟨s, e, a, b, c⟩ := szwInts _ hw.2.2.2.2.2.2.1 n h0 h1
 exact ⟨_, sz_then (n := n) e, by split <;> omega, by split <;> omega, fun h => by have u : (x.2.2.2.2.2.2.1.length : Int) ≤ 0 + 6 * (n - s) := c (by split at h <;> omega); unfold wI; split at h <;> split <;> omega⟩
theorem szwInstS : SzW (Wf (.list tInst)) (fun l => sumB wI l) 0 U4.f := szw_list (z := tInstZ) szwInst (L := U4.l0) (fun k l a b => rfl) fun k l a => rfl
theorem szwBlock : SzW (Wf tBlock) wK 6 U5.f := by
 intro (x : tBlockD) hw n h0 h1
 obtain ⟨s, e, a, b, c⟩ := szwPhiS _ hw.1 n h0 h1
 by_cases hs : s < 0
 ·exact ⟨-1, sz_two (n := n) (f := fun k s => Option.bind (U4.f k x.2.1 s) fun r1 => bif decide (r1.1.1.1 < 0) then some (((-1, ()), ()), ()) else some (((r1.1.1.1, ()), ()), ())) e (fun h => by omega) (fun _ => rfl), by omega, by omega, fun h => by omega⟩
 ·obtain ⟨s', e', a', b', c'⟩ := szwInstS _ hw.2.1 s (by omega) (by omega)
  exact ⟨_, sz_two (n := n) (f := fun k s => Option.bind (U4.f k x.2.1 s) fun r1 => bif decide (r1.1.1.1 < 0) then some (((-1, ()), ()), ()) else some (((r1.1.1.1, ()), ()), ())) e (fun _ => sz_then (n := n) e') (fun h => by omega), by split <;> omega, by split <;> omega, fun h => by have u : sumB wP x.1 ≤ 0 + 6 * (n - s) := c (by omega); have v : sumB wI x.2.1 ≤ 0 + 6 * (s - s') := c' (by split at h <;> omega); unfold wK; split at h <;> split <;> omega⟩
theorem szwBlockS : SzW (Wf (.list tBlock)) (fun l => sumB wK l) 0 U6.f := szw_list (z := tBlockZ) szwBlock (L := U6.l0) (fun k l a b => rfl) fun k l a => rfl
theorem szwFunc : SzW (Wf tFunc) wF 6 U7.f := by
 intro (x : tFuncD) hw n h0 h1
 obtain ⟨s, e, a, b, c⟩ := szwInts _ hw.1 n h0 h1
 by_cases hs : s < 0
 ·exact ⟨-1, sz_two (n := n) (f := fun k s => Option.bind (U6.f k x.2.2.1 s) fun r1 => bif decide (r1.1.1.1 < 0) then some (((-1, ()), ()), ()) else some (((r1.1.1.1, ()), ()), ())) e (fun h => by omega) (fun _ => rfl), by omega, by omega, fun h => by omega⟩
 ·obtain ⟨s', e', a', b', c'⟩ := szwBlockS _ hw.2.2.1 s (by omega) (by omega)
  exact ⟨_, sz_two (n := n) (f := fun k s => Option.bind (U6.f k x.2.2.1 s) fun r1 => bif decide (r1.1.1.1 < 0) then some (((-1, ()), ()), ()) else some (((r1.1.1.1, ()), ()), ())) e (fun _ => sz_then (n := n) e') (fun h => by omega), by split <;> omega, by split <;> omega, fun h => by have u : (x.1.length : Int) ≤ 0 + 6 * (n - s) := c (by omega); have v : sumB wK x.2.2.1 ≤ 0 + 6 * (s - s') := c' (by split at h <;> omega); unfold wF; split at h <;> split <;> omega⟩
theorem szwFuncS : SzW (Wf (.list tFunc)) (fun l => sumB wF l) 0 U8.f := szw_list (z := tFuncZ) szwFunc (L := U8.l0) (fun k l a b => rfl) fun k l a => rfl
theorem szwModule : SzW (Wf tModule) (fun m => sumB wF m.1) 6 U9.f := by
 intro (x : tModuleD) hw n h0 h1
 obtain ⟨s, e, a, b, c⟩ := szwFuncS _ hw.1 n h0 h1
 exact ⟨_, sz_then (n := n) e, by split <;> omega, by split <;> omega, fun h => by have u : sumB wF x.1 ≤ 0 + 6 * (n - s) := c (by split at h <;> omega); show sumB wF x.1 ≤ _; split at h <;> split <;> omega⟩
/-- A law over a module: it is small, and how many numbers it holds. -/
theorem law_frameW {a : tModuleD} (hw : Wf tModule a) {g : Nat → Option BR} (h : Small tModule a → sumB wF a.1 ≤ 10000000 → Ev g (one true)) : Ev (fun k => Option.bind (U9.f k (a.1, ()) 1048576) fun r1 => bif decide (r1.1.1.1 < 0) then some (((true, ()), ()), ()) else g k) (one true) := by
 obtain ⟨s, e, _, _, c⟩ := szModule a hw 1048576 (by omega) (by omega)
 obtain ⟨t, e', _, _, d⟩ := szwModule a hw 1048576 (by omega) (by omega)
 have hst : one s = one t := Ev.uniq e e'
 have hst' : s = t := congrArg (fun r => r.1.1.1) hst
 refine Ev.bind (f := fun k r1 => bif decide (r1.1.1.1 < 0) then some (((true, ()), ()), ()) else g k) e ?_
 by_cases hs : s < 0
 ·exact Ev.pos (dpos hs) (Ev.cst rfl)
 ·exact Ev.neg (dneg hs) (h (c (by omega)) (by have u : sumB wF a.1 ≤ 6 + 6 * (1048576 - t) := d (by omega); omega))
theorem mark_wt {α : Type} {z : α} {w : α → Int} (hw : ∀ x, 0 ≤ w x) {small : α → Prop} {P : Int → α → Int → Prop} {L : Nat → Int → Int → List α → Option (MkR (List α))} {M : Int}
  (hend : ∀ (l : List α) (n : Int) k, L (k + 1) n (l.length : Int) l = some (mkr n l))
  (hstep : ∀ (l : List α) (i : Nat) (n : Int), i < l.length → l.length ≤ 1048576 → small (l.getD i z) → 0 ≤ n → n + w (l.getD i z) ≤ M → ∃ n' x, n ≤ n' ∧ n' ≤ n + w (l.getD i z) ∧ P n x n' ∧ ∀ r, Ev (fun k => L k n' ((i + 1 : Nat) : Int) (l.set i x)) r → Ev (fun k => L k n (i : Int) l) r) :
  ∀ (d i : Nat) (l : List α) (n : Int), i + d = l.length → l.length ≤ 1048576 → (∀ j x, i ≤ j → l[j]? = some x → small x) → 0 ≤ n → n + sumB w (l.drop i) ≤ M → ∃ n' m, Ev (fun k => L k n (i : Int) l) (mkr n' (l.take i ++ m)) ∧ Chain P n m n' ∧ n ≤ n' ∧ n' ≤ n + sumB w (l.drop i) ∧ m.length = d := by
 intro d
 induction d with
 | zero =>
  intro i l n hi hl hs h0 hM
  obtain rfl : i = l.length := by omega
  exact ⟨n, [], (Ev.step (g' := fun _ => some (mkr n l)) (Ev.cst rfl) (hend l n)).rw (by rw [List.take_length, List.append_nil]), rfl, Int.le_refl _, by rw [List.drop_length]; simp [sumB], rfl⟩
 | succ d ih =>
  intro i l n hi hl hs h0 hM
  have hlt : i < l.length := by omega
  have hnn := sumB_nonneg (w := w) (l := l.drop (i + 1)) fun x _ => hw x
  rw [sumB_drop w l i hlt, ← getD_at l z i hlt] at hM
  obtain ⟨n1, x1, a1, a2, a3, a5⟩ := hstep l i n hlt hl (hs i _ (Nat.le_refl _) (by rw [getD_at _ _ _ hlt]; exact List.getElem?_eq_getElem hlt)) h0 (by omega)
  have ed : (l.set i x1).drop (i + 1) = l.drop (i + 1) := by rw [List.drop_set_of_lt (by omega)]
  obtain ⟨n2, m2, b1, b2, b3, b4, b5⟩ := ih (i + 1) (l.set i x1) n1 (by rw [List.length_set]; omega) (by rw [List.length_set]; exact hl) (fun j x hj hx => hs j x (by omega) (by rw [List.getElem?_set_ne (by omega)] at hx; exact hx)) (by omega) (by rw [ed]; omega)
  rw [ed] at b4
  refine ⟨n2, x1 :: m2, (a5 _ b1).rw ?_, ⟨n1, a3, b2⟩, by omega, by rw [sumB_drop w l i hlt, ← getD_at l z i hlt]; omega, by rw [List.length_cons, b5]⟩
  have e2 : (l.set i x1).take (i + 1) = l.take i ++ [x1] := by
   rw [List.take_succ_eq_append_getElem (by rw [List.length_set]; exact hlt), List.getElem_set_self, List.take_set_of_le (Nat.le_refl i)]
  show mkr n2 ((l.set i x1).take (i + 1) ++ m2) = _
  rw [e2, List.append_assoc]; rfl
theorem mark_allw {α : Type} {z : α} {w : α → Int} (hw : ∀ x, 0 ≤ w x) {small : α → Prop} {P : Int → α → Int → Prop} {L : Nat → Int → Int → List α → Option (MkR (List α))} {M : Int}
  (hend : ∀ (l : List α) (n : Int) k, L (k + 1) n (l.length : Int) l = some (mkr n l))
  (hstep : ∀ (l : List α) (i : Nat) (n : Int), i < l.length → l.length ≤ 1048576 → small (l.getD i z) → 0 ≤ n → n + w (l.getD i z) ≤ M → ∃ n' x, n ≤ n' ∧ n' ≤ n + w (l.getD i z) ∧ P n x n' ∧ ∀ r, Ev (fun k => L k n' ((i + 1 : Nat) : Int) (l.set i x)) r → Ev (fun k => L k n (i : Int) l) r)
  (l : List α) (n : Int) (hl : l.length ≤ 1048576) (hs : ∀ x ∈ l, small x) (h0 : 0 ≤ n) (hM : n + sumB w l ≤ M) : ∃ n' m, Ev (fun k => L k n 0 l) (mkr n' m) ∧ Chain P n m n' ∧ n ≤ n' ∧ n' ≤ n + sumB w l ∧ m.length ≤ 1048576 := by
 obtain ⟨n', m, a, b, c, d, e⟩ := mark_wt (z := z) hw (small := small) (P := P) hend hstep l.length 0 l n (by omega) hl (fun j x _ hx => hs x (List.mem_of_getElem? hx)) h0 hM
 exact ⟨n', m, a, b, c, d, by omega⟩
theorem markPhisW (l : List tPhiD) (hs : Small (.list tPhi) l) (n : Int) (h0 : 0 ≤ n) (hM : n + sumB wP l ≤ 100000000) : ∃ n' m, Ev (fun k => U172.f k n l) (mkr n' m) ∧ Chain MP n m n' ∧ n ≤ n' ∧ n' ≤ n + sumB wP l ∧ m.length ≤ 1048576 := by
 refine mark_allw (z := tPhiZ) wP_0 (small := Small tPhi) (L := U172.l0) (M := 100000000) (fun l n k => ?_) (fun l i n hi hl hx h0 hM => ?_) l n hs.1 hs.2 h0 hM
 ·show U172.l0_ k (U172.l0 k) n _ l = _
  unfold U172.l0_
  rw [head_end]; rfl
 ·have hlen : (l.getD i tPhiZ).2.1.length ≤ 1048576 := hx.2.1.1
  unfold wP at hM ⊢
  refine ⟨n + 1 + ((l.getD i tPhiZ).2.1.length : Int), (n, upFrom (n + 1) (l.getD i tPhiZ).2.1.length, (l.getD i tPhiZ).2.2), by omega, by omega, ⟨_, hlen, h0, rfl, by omega, rfl, rfl⟩, fun r hr => Ev.sc ?_⟩
  show Ev (fun k => U172.l0_ k (U172.l0 k) n _ l) _
  unfold U172.l0_
  simp only [updAt_length, head_in hi, head_0, Bool.and_self, cond_true, Int.toNat_natCast, wrap_nat (show i < 9223372036854775807 by omega), wrap_id (x := n + 1) (by omega) (by omega), updAt_twice hi, updAt_at _ _ _ _ hi]
  exact Ev.bind (markInts _ (n + 1) hlen (by omega) (by omega)) hr
theorem markInstsW (l : List tInstD) (hs : Small (.list tInst) l) (n : Int) (h0 : 0 ≤ n) (hM : n + sumB wI l ≤ 100000000) : ∃ n' m, Ev (fun k => U173.f k n l) (mkr n' m) ∧ Chain MI n m n' ∧ n ≤ n' ∧ n' ≤ n + sumB wI l ∧ m.length ≤ 1048576 := by
 refine mark_allw (z := tInstZ) wI_0 (small := Small tInst) (L := U173.l0) (M := 100000000) (fun l n k => ?_) (fun l i n hi hl hx h0 hM => ?_) l n hs.1 hs.2 h0 hM
 ·show U173.l0_ k (U173.l0 k) n _ l = _
  unfold U173.l0_
  rw [head_end]; rfl
 ·have hlen : (l.getD i tInstZ).2.2.2.2.2.2.1.length ≤ 1048576 := hx.2.2.2.2.2.2.1.1
  unfold wI at hM ⊢
  refine ⟨n + 1 + 1 + 1 + 1 + 1 + 1 + ((l.getD i tInstZ).2.2.2.2.2.2.1.length : Int), (n, n + 1, n + 1 + 1, n + 1 + 1 + 1, n + 1 + 1 + 1 + 1, n + 1 + 1 + 1 + 1 + 1, upFrom (n + 1 + 1 + 1 + 1 + 1 + 1) (l.getD i tInstZ).2.2.2.2.2.2.1.length, (l.getD i tInstZ).2.2.2.2.2.2.2), by omega, by omega, ⟨_, hlen, h0, rfl, by omega, rfl, rfl, rfl, rfl, rfl, rfl, rfl⟩, fun r hr => Ev.sc ?_⟩
  show Ev (fun k => U173.l0_ k (U173.l0 k) n _ l) _
  unfold U173.l0_
  simp only [updAt_length, head_in hi, head_0, Bool.and_self, cond_true, Int.toNat_natCast, wrap_nat (show i < 9223372036854775807 by omega), wrap_id (x := n + 1) (by omega) (by omega), wrap_id (x := n + 1 + 1) (by omega) (by omega), wrap_id (x := n + 1 + 1 + 1) (by omega) (by omega), wrap_id (x := n + 1 + 1 + 1 + 1) (by omega) (by omega), wrap_id (x := n + 1 + 1 + 1 + 1 + 1) (by omega) (by omega), wrap_id (x := n + 1 + 1 + 1 + 1 + 1 + 1) (by omega) (by omega), updAt_twice hi, updAt_at _ _ _ _ hi]
  exact Ev.bind (markInts _ (n + 1 + 1 + 1 + 1 + 1 + 1) hlen (by omega) (by omega)) hr
theorem markBlocksW (l : List tBlockD) (hs : Small (.list tBlock) l) (n : Int) (h0 : 0 ≤ n) (hM : n + sumB wK l ≤ 100000000) : ∃ n' m, Ev (fun k => U174.f k n l) (mkr n' m) ∧ Chain MB n m n' ∧ n ≤ n' ∧ n' ≤ n + sumB wK l ∧ m.length ≤ 1048576 := by
 refine mark_allw (z := tBlockZ) wK_0 (small := Small tBlock) (L := U174.l0) (M := 100000000) (fun l n k => ?_) (fun l i n hi hl hx h0 hM => ?_) l n hs.1 hs.2 h0 hM
 ·show U174.l0_ k (U174.l0 k) n _ l = _
  unfold U174.l0_
  rw [head_end]; rfl
 ·have z1 := sumB_nonneg (w := wP) (l := (l.getD i tBlockZ).1) fun p _ => wP_0 p
  have z2 := sumB_nonneg (w := wI) (l := (l.getD i tBlockZ).2.1) fun p _ => wI_0 p
  unfold wK at hM ⊢
  obtain ⟨n1, p1, e1, q1, a1, b1, c1⟩ := markPhisW (l.getD i tBlockZ).1 hx.1 n h0 (by omega)
  obtain ⟨n2, p2, e2, q2, a2, b2, c2⟩ := markInstsW (l.getD i tBlockZ).2.1 hx.2.1 n1 (by omega) (by omega)
  refine ⟨n2 + 1 + 1 + 1 + 1, (p1, p2, n2, n2 + 1, n2 + 1 + 1, n2 + 1 + 1 + 1, (l.getD i tBlockZ).2.2.2.2.2.2), by omega, by omega, ⟨n1, n2, c1, c2, q1, q2, by omega, by omega, rfl, by omega, rfl, rfl, rfl, rfl⟩, fun r hr => Ev.sc ?_⟩
  show Ev (fun k => U174.l0_ k (U174.l0 k) n _ l) _
  unfold U174.l0_
  simp only [updAt_length, head_in hi, head_0, Bool.and_self, cond_true, Int.toNat_natCast, wrap_nat (show i < 9223372036854775807 by omega), updAt_twice hi, updAt_at _ _ _ _ hi]
  refine Ev.bind e1 (Ev.bind e2 ?_)
  simp only [mkr, wrap_id (x := n2 + 1) (by omega) (by omega), wrap_id (x := n2 + 1 + 1) (by omega) (by omega), wrap_id (x := n2 + 1 + 1 + 1) (by omega) (by omega), wrap_id (x := n2 + 1 + 1 + 1 + 1) (by omega) (by omega)]
  exact hr
def MF (n : Int) (x : tFuncD) (n' : Int) : Prop := ∃ d : Nat, d ≤ 1048576 ∧ 0 ≤ n ∧ n ≤ 100000000 ∧ x.1 = upFrom n d ∧ x.2.1 = n + (d : Int) ∧ x.2.2.1.length ≤ 1048576 ∧ Chain MB (n + (d : Int) + 1) x.2.2.1 n' ∧ 0 ≤ n'
theorem markFuncsW (l : List tFuncD) (hs : Small (.list tFunc) l) (n : Int) (h0 : 0 ≤ n) (hM : n + sumB wF l ≤ 100000000) : ∃ n' m, Ev (fun k => U175.f k n l) (mkr n' m) ∧ Chain MF n m n' ∧ n ≤ n' ∧ n' ≤ n + sumB wF l ∧ m.length ≤ 1048576 := by
 refine mark_allw (z := tFuncZ) wF_0 (small := Small tFunc) (L := U175.l0) (M := 100000000) (fun l n k => ?_) (fun l i n hi hl hx h0 hM => ?_) l n hs.1 hs.2 h0 hM
 ·show U175.l0_ k (U175.l0 k) n _ l = _
  unfold U175.l0_
  rw [head_end]; rfl
 ·have hlen : (l.getD i tFuncZ).1.length ≤ 1048576 := hx.1.1
  have z1 := sumB_nonneg (w := wK) (l := (l.getD i tFuncZ).2.2.1) fun p _ => wK_0 p
  unfold wF at hM ⊢
  obtain ⟨n2, p2, e2, q2, a2, b2, c2⟩ := markBlocksW (l.getD i tFuncZ).2.2.1 hx.2.2.1 (n + ((l.getD i tFuncZ).1.length : Int) + 1) (by omega) (by omega)
  refine ⟨n2, (upFrom n (l.getD i tFuncZ).1.length, n + ((l.getD i tFuncZ).1.length : Int), p2, (l.getD i tFuncZ).2.2.2), by omega, by omega, ⟨_, hlen, h0, by omega, rfl, rfl, c2, q2, by omega⟩, fun r hr => Ev.sc ?_⟩
  show Ev (fun k => U175.l0_ k (U175.l0 k) n _ l) _
  unfold U175.l0_
  simp only [updAt_length, head_in hi, head_0, Bool.and_self, cond_true, Int.toNat_natCast, wrap_nat (show i < 9223372036854775807 by omega), updAt_twice hi, updAt_at _ _ _ _ hi]
  refine Ev.bind (markInts _ n hlen (by omega) (by omega)) ?_
  simp only [mkr, wrap_id (x := n + ((l.getD i tFuncZ).1.length : Int) + 1) (by omega) (by omega)]
  exact Ev.bind e2 hr
theorem heldFuncsW (l : List tFuncD) (n n' : Int) (hl : l.length ≤ 1048576) (hc : Chain MF n l n') : Ev (fun k => U181.f k l n) (one n') := by
 refine held_all (z := tFuncZ) (P := MF) (H := U181.l0) (fun l n k => ?_) (fun l i n n1 hi hl hp r hr => Ev.sc ?_) l n n' hl hc
 ·show U181.l0_ k (U181.l0 k) l n _ = _
  unfold U181.l0_
  rw [head_end]; rfl
 ·obtain ⟨d, hd, h0, hM, e1, e2, hb, hc, hn1⟩ := hp
  show Ev (fun k => U181.l0_ k (U181.l0 k) l n _) _
  unfold U181.l0_
  simp only [head_in hi, head_0, Bool.and_self, cond_true, Int.toNat_natCast, wrap_nat (show i < 9223372036854775807 by omega), e1]
  refine Ev.bind (heldInts n d hd (by omega) (by omega)) (Ev.dn (show ¬ n + (d : Int) < 0 by omega) (Ev.sk e2 ?_))
  simp only [wrap_id (x := n + (d : Int) + 1) (by omega) (by omega)]
  exact Ev.bind (heldBlocks _ _ n1 hb hc) (Ev.dn (show ¬ n1 < 0 by omega) hr)
/-- What is laid over a module is read back. -/
theorem markHeldM {l : List tFuncD} (hs : Small (.list tFunc) l) (hw : sumB wF l ≤ 10000000) : ∃ n' l', Ev (fun k => U176.f k 1 l) (mkr n' l') ∧ 0 ≤ n' ∧ Ev (fun k => U182.f k (l', ()) 1) (one n') := by
 obtain ⟨n2, m, e2, q2, a2, b2, c2⟩ := markFuncsW l hs 1 (by omega) (by omega)
 exact ⟨n2, m, Ev.bind e2 (Ev.cst rfl), by omega, Ev.bind (heldFuncsW m _ n2 c2 q2) (Ev.dn (show ¬ n2 < 0 by omega) (Ev.cst rfl))⟩
theorem sumB_map {α β : Type} (w : β → Int) (g : α → β) : ∀ l : List α, sumB w (l.map g) = sumB (fun x => w (g x)) l
 | [] => rfl
 | x :: l => by simp only [List.map_cons, sumB, sumB_map w g l]
theorem sumB_mono {α : Type} {w v : α → Int} : ∀ {l : List α}, (∀ x ∈ l, w x ≤ v x) → sumB w l ≤ sumB v l
 | [], _ => Int.le_refl _
 | x :: l, h => by
  have a := h x (by simp)
  have b := sumB_mono (l := l) fun y hy => h y (by simp [hy])
  simp only [sumB]; omega
theorem subF_w (to : List Int) (f : tFuncD) : wF (subF to f) ≤ wF f := by
 have hk : ∀ x, wK (subB to x) ≤ wK x := fun x => by
  have h1 : sumB wP (x.1.map (subPhi to)) ≤ sumB wP x.1 := by
   rw [sumB_map]
   refine sumB_mono fun p _ => ?_
   show 1 + ((p.2.1.map (subI to)).length : Int) ≤ 1 + (p.2.1.length : Int)
   rw [List.length_map]; exact Int.le_refl _
  have h2 : sumB wI (x.2.1.map (subInst to)) ≤ sumB wI x.2.1 := by
   rw [sumB_map]
   refine sumB_mono fun i _ => ?_
   show 6 + ((subInst to i).2.2.2.2.2.2.1.length : Int) ≤ 6 + (i.2.2.2.2.2.2.1.length : Int)
   rw [subInst_args]; exact Int.le_refl _
  show sumB wP (x.1.map (subPhi to)) + sumB wI (x.2.1.map (subInst to)) + 4 ≤ sumB wP x.1 + sumB wI x.2.1 + 4
  omega
 have h3 : sumB wK (f.2.2.1.map (subB to)) ≤ sumB wK f.2.2.1 := by
  rw [sumB_map]
  exact sumB_mono fun x _ => hk x
 show (f.1.length : Int) + 1 + sumB wK (f.2.2.1.map (subB to)) ≤ (f.1.length : Int) + 1 + sumB wK f.2.2.1
 omega
theorem turnM_small {m : tModuleD} {g : tFuncD → tFuncD} (hs : Small tModule m) (hg : ∀ f, Small tFunc f → Small tFunc (g f)) : Small (.list tFunc) (turnM g m) := by
 unfold turnM
 cases okM m
 ·exact ⟨by show (0 : Nat) ≤ _; omega, fun _ h => by cases h⟩
 ·refine ⟨by show (m.1.map g).length ≤ _; rw [List.length_map]; exact hs.1.1, fun x hx => ?_⟩
  obtain ⟨f, hf, rfl⟩ := List.mem_map.1 (show x ∈ m.1.map g from hx)
  exact hg f (hs.1.2 f hf)
theorem turnM_w {m : tModuleD} {g : tFuncD → tFuncD} (hw : sumB wF m.1 ≤ 10000000) (hg : ∀ f, wF (g f) ≤ wF f) : sumB wF (turnM g m) ≤ 10000000 := by
 unfold turnM
 cases okM m
 ·show (0 : Int) ≤ _; omega
 ·show sumB wF (m.1.map g) ≤ _
  rw [sumB_map]
  exact Int.le_trans (sumB_mono fun f _ => hg f) hw
section
variable {funcs : Int} {f : tFuncD}
def needD (f : tFuncD) (b : Nat) : Bool := (needM f).getD b false
/-- The ids that are not needed, up to a place. -/
def clS (f : tFuncD) (i : Nat) : List Int := ((List.range i).filter fun j => !needD f (f.1.length + j)).map fun j => ((f.1.length + j : Nat) : Int)
def clI (f : tFuncD) : List Int := clS f (cntN f - f.1.length)
theorem clS_skip {i : Nat} (h : needD f (f.1.length + i) = true) : clS f i = clS f (i + 1) := by
 unfold clS
 rw [List.range_succ, List.filter_append, List.filter_cons, if_neg (by rw [h]; decide)]
 simp
theorem clS_push {i : Nat} (h : needD f (f.1.length + i) = false) : clS f i ++ [((f.1.length + i : Nat) : Int)] = clS f (i + 1) := by
 unfold clS
 rw [List.range_succ, List.filter_append, List.filter_cons, if_pos (by rw [h]; rfl)]
 simp
theorem clS_len (f : tFuncD) (i : Nat) : (clS f i).length ≤ i := by
 unfold clS
 rw [List.length_map]
 exact Nat.le_trans (List.length_filter_le _ _) (Nat.le_of_eq List.length_range)
theorem clI_mem {x : Int} : x ∈ clI f ↔ (f.1.length : Int) ≤ x ∧ x < (cntN f : Int) ∧ needD f x.toNat = false := by
 unfold clI clS
 rw [List.mem_map]
 constructor
 ·rintro ⟨j, hj, rfl⟩
  rw [List.mem_filter, List.mem_range] at hj
  refine ⟨by omega, by omega, ?_⟩
  rw [Int.toNat_natCast]
  simpa using hj.2
 ·rintro ⟨h1, h2, h3⟩
  refine ⟨x.toNat - f.1.length, ?_, by omega⟩
  rw [List.mem_filter, List.mem_range]
  refine ⟨by omega, ?_⟩
  rw [show f.1.length + (x.toNat - f.1.length) = x.toNat by omega, h3]; rfl
theorem needM_lenN (f : tFuncD) : (needM f).length = cntN f := by
 have := needM_length f
 rw [cntN_eq] at this
 omega
theorem goneCl (hf : Fm funcs f) : GoneC f (clI f) (needM f) := fun x h0 h1 => by
 rw [cntN_eq] at h1
 have hl := needM_lenN f
 refine Ev.all fun k => ?_
 unfold U149.f
 by_cases hp : (f.1.length : Int) ≤ x
 ·rw [dpos hp, cond_true, dpos h0, dpos (show x < ((List.length (needM f) : Nat) : Int) by omega)]
  show some (one (!needD f x.toNat)) = _
  congr 2
  cases h : needD f x.toNat with
  | true => rw [dneg (fun hm => by have := (clI_mem.1 hm).2.2; rw [h] at this; cases this)]; rfl
  | false => rw [dpos (clI_mem.2 ⟨hp, h1, h⟩)]; rfl
 ·rw [dneg hp, dneg (fun hm => hp (clI_mem.1 hm).1)]; rfl
theorem need_cl (hf : Fm funcs f) (x : Int) : mk (needM f) x ↔ Cl (namesF f) (fun x => mk (List.replicate (cntB f).toNat false) x ∨ x ∈ blkSeeds f (f.1.length : Int) f.2.2.1) x := by
 have h2 := hf.cnt
 have h0 := cnt0 f
 have h3 := seeds_few hf
 refine spread_spec (c := cntB f) (fun x hx => namesF_ok hf hx) 3000 _ _ (by rw [List.length_replicate]; omega) (fun x hx => seeds_v hf x ((seeds_same hf x).2 hx)) (by rw [offs_replicate]; omega) (fun x hx => ?_) x
 have := hx.2
 simp only [List.getD, List.getElem?_replicate] at this
 split at this <;> cases this
theorem need_seed (hf : Fm funcs f) {x : Int} (h : x ∈ blkSeeds f (f.1.length : Int) f.2.2.1) : mk (needM f) x := (need_cl hf x).2 (.base (.inr h))
theorem need_step (hf : Fm funcs f) {x y : Int} (h : mk (needM f) x) (hy : y ∈ namesF f x) : mk (needM f) y := (need_cl hf y).2 (.step ((need_cl hf x).1 h) hy)
theorem need_not {x : Int} (h : mk (needM f) x) : x ∉ clI f := fun hm => by
 have h1 := (clI_mem.1 hm).2.2
 have h2 : needD f x.toNat = true := h.2
 rw [h2] at h1; cases h1
theorem fst_eq (f : tFuncD) (i j : Nat) : ((fstN f i + j : Nat) : Int) = (f.1.length : Int) + sumB wB (f.2.2.1.take i) + (j : Int) := by
 rw [sumB_N]; unfold fstN; omega
theorem names_phi {i : Nat} (hi : i < f.2.2.1.length) {j : Nat} (hj : j < (f.2.2.1[i]).1.length) : namesF f ((fstN f i + j : Nat) : Int) = ((f.2.2.1[i]).1[j]).2.1 := by
 have hp : placeOf f ((fstN f i + j : Nat) : Int) = ((i : Int), (j : Int)) := by
  rw [fst_eq]
  exact place_of hi (by omega) (by unfold wB; omega)
 unfold namesF
 rw [hp, if_neg (by show ¬ ((i : Int) = -1); omega)]
 simp only [Int.toNat_natCast, getD_at _ _ _ hi, getD_at _ _ _ hj]
 rw [if_pos (by omega)]
theorem names_inst {i : Nat} (hi : i < f.2.2.1.length) {j : Nat} (hj : j < (f.2.2.1[i]).2.1.length) : namesF f ((fstN f i + (f.2.2.1[i]).1.length + j : Nat) : Int) = opsB ((f.2.2.1[i]).2.1[j]) := by
 have hp : placeOf f ((fstN f i + (f.2.2.1[i]).1.length + j : Nat) : Int) = ((i : Int), (((f.2.2.1[i]).1.length + j : Nat) : Int)) := by
  rw [Nat.add_assoc, fst_eq]
  exact place_of hi (by omega) (by unfold wB; omega)
 have hq : (instP f ((fstN f i + (f.2.2.1[i]).1.length + j : Nat) : Int)).1 = (f.2.2.1[i]).2.1[j] := by
  unfold instP
  rw [hp, if_neg (by show ¬ ((i : Int) = -1); omega)]
  simp only [Int.toNat_natCast, getD_at _ _ _ hi]
  rw [if_neg (by omega)]
  simp only []
  rw [show ((((f.2.2.1[i]).1.length + j : Nat) : Int) - (((f.2.2.1[i]).1.length : Nat) : Int)).toNat = j by omega, getD_at _ _ _ hj]
 unfold namesF
 rw [hq, hp, if_neg (by show ¬ ((i : Int) = -1); omega)]
 simp only [Int.toNat_natCast, getD_at _ _ _ hi]
 rw [if_neg (by omega)]
theorem kept_mk {x : Nat} (h0 : f.1.length ≤ x) (h1 : x < cntN f) (hn : (x : Int) ∉ clI f) : mk (needM f) (x : Int) := by
 refine ⟨by omega, ?_⟩
 rw [Int.toNat_natCast]
 cases h : (needM f).getD x false with
 | true => rfl
 | false => exact absurd (clI_mem.2 ⟨by omega, by omega, by rw [Int.toNat_natCast]; exact h⟩) hn
theorem clean_left (hf : Fm funcs f) : ∀ y ∈ keepBs (clI f) f, ∀ x ∈ namesB y, x ∉ clI f := fun y hy x hx => by
 obtain ⟨i, hi, rfl⟩ := mapB_iff.1 (show y ∈ mapB (keepB (clI f)) f.1.length f.2.2.1 from hy)
 have hle := fstN_le f (i + 1)
 rw [fstN_succ hi] at hle
 unfold wN at hle
 have hlo : f.1.length ≤ fstN f i := by unfold fstN; omega
 refine need_not ?_
 rcases names_iff.1 hx with ⟨p, hp, h⟩ | ⟨p, hp, h⟩ | h
 ·obtain ⟨q, a, b, rfl⟩ := keepL_iff.1 hp
  obtain ⟨j, hj, rfl⟩ := tagL_iff.1 a
  exact need_step hf (kept_mk (by omega) (by omega) b) (by rw [names_phi hi hj]; exact h)
 ·obtain ⟨q, a, b, rfl⟩ := keepL_iff.1 hp
  obtain ⟨j, hj, rfl⟩ := tagL_iff.1 a
  exact need_step hf (kept_mk (by omega) (by omega) b) (by rw [names_inst hi hj]; exact h)
 ·exact need_seed hf ((mem_seeds f f.2.2.1 _ x).2 ⟨i, hi, .inr h⟩)
def clF (f : tFuncD) : tFuncD := subF (toN f.1.length (clI f) (cntN f)) (keepF (clI f) f)
theorem clI_len (hf : Fm funcs f) : (clI f).length ≤ 60 := by
 have h1 := clS_len f (cntN f - f.1.length)
 have h2 := hf.cnt
 rw [cntN_eq] at h2
 unfold clI; omega
theorem implClF (hs : Small tFunc f) (hf : Fm funcs f) : Ev (fun k => U156.f k f) (fR true (clF f)) :=
 Ev.bind (Ev.bind (implneeded hs hf) (Ev.bind (implWithout (need := needM f) hf hs (goneCl hf) fun id h => (clI_mem.1 h).1) (Ev.cst rfl))) (Ev.cst rfl)
theorem specClF (hs : Small tFunc f) (hf : Fm funcs f) {i : Nat} (hi : i ≤ 1048576) {fs a3 out : List tFuncD} (ho : out.length ≤ 1048576) {r : U64.R}
  (e : Ev (fun k => U64.l0 k ((i + 1 : Nat) : Int) fs a3 (out ++ [clF f])) r) : Ev (fun k => U64.l1 k (i : Int) (idx (needM f) 0) (f.1.length : Int) fs a3 out f []) r := by
 have hcnt := hf.cnt
 rw [cntN_eq] at hcnt
 have hp : f.1.length ≤ cntN f := by unfold cntN; omega
 have hix : (idx (needM f) 0).length ≤ 1048576 := by
  have := idx_length (needM f) 0
  have := needM_lenN f
  omega
 have hsame : (keepBs (clI f) f).map (subB (toS f.1.length (clI f) (cntN f) (cntN f))) = (keepBs (clI f) f).map (subB (toN f.1.length (clI f) (cntN f))) := sub_left hf (clean_left hf)
 have h := st_loop (n0 := cntN f - f.1.length) (L := fun k a s => U64.l1 k (i : Int) (idx (needM f) 0) ((f.1.length : Int) + a) fs a3 out f s) (T := fun k s => Option.bind (U63.f k f s) fun r3 => bif decide ((List.length out + List.length [((r3.2.1, r3.1.1.2.1, r3.2.2.1, ()) : tFuncD)]) * 56 ≤ 140737488355328) then (U64.l0 k ((i + 1 : Nat) : Int) fs a3 (out ++ [((r3.2.1, r3.1.1.2.1, r3.2.2.1, ()) : tFuncD)])) else none) (clS f) (fun r e => Ev.sk1 ?_) (fun j r hlt e => Ev.sk1 ?_) (r := r) ?_
 ·simp only [Int.add_zero] at h
  exact h
 ·show Ev (fun k => U64.l1_ k (U64.l0 k) (U64.l1 k) _ _ _ _ _ _ _ _) _
  simp only [U64.l1_, wrap_nat (show i < 9223372036854775807 by omega)]
  refine Ev.bind (specCount hs) (Ev.dn (by show ¬ ((f.1.length : Int) + ((cntN f - f.1.length : Nat) : Int) < cntB f); rw [cntN_eq]; omega) ?_)
  exact e
 ·show Ev (fun k => U64.l1_ k (U64.l0 k) (U64.l1 k) _ _ _ _ _ _ _ _) _
  have hw : IntKind.wrap .i64 ((f.1.length : Int) + (j : Int) + 1) = (f.1.length : Int) + ((j + 1 : Nat) : Int) := by rw [wrap_id (by omega) (by omega)]; omega
  simp only [U64.l1_, hw]
  refine Ev.bind (specCount hs) (Ev.dp (by show ((f.1.length : Int) + (j : Int) < cntB f); rw [cntN_eq]; omega) (Ev.bind (specHas (idx (needM f) 0) _ hix) ?_))
  have hm : ((f.1.length : Int) + (j : Int)) ∈ idx (needM f) 0 ↔ needD f (f.1.length + j) = true := by
   rw [mem_idx0 _ _ (by omega), show ((f.1.length : Int) + (j : Int)).toNat = f.1.length + j by omega]; rfl
  cases hn : needD f (f.1.length + j) with
  | true =>
   refine Ev.neg (by rw [dpos (hm.2 hn)]; rfl) ?_
   rw [← clS_skip hn] at e
   exact e
  | false =>
   refine Ev.pos (by rw [dneg (fun h => by have := hm.1 h; rw [hn] at this; cases this)]; rfl) (Ev.dp (len_capS (by decide) (by have := clS_len f j; omega)) ?_)
   rw [← clS_push hn, Int.natCast_add] at e
   exact e
 ·refine Ev.bind (specWithout hf hs (ids := clI f) (by have := clI_len hf; omega)) ?_
  rw [hsame]
  exact Ev.dp (len_capS (by decide) ho) e
end
section
variable {m : tModuleD}
theorem specCl (hs : Small tModule m) : Ev (fun k => U64.f k m) (mR (okM m) (turnM clF m)) := by
 have hl : m.1.length ≤ 1048576 := hs.1.1
 unfold U64.f turnM
 refine Ev.bind (specM (m := (m.1, ())) hs) ?_
 cases hok : okM m with
 | false => exact Ev.pos (by show (!okM m) = true; rw [hok]; rfl) (Ev.cst rfl)
 | true =>
  refine Ev.neg (by show (!okM m) = false; rw [hok]; rfl) ?_
  refine st_loop (n0 := m.1.length) (L := fun k a s => U64.l0 k a m.1 [] s) (T := fun k s => some (mR true s)) (fun i => (m.1.take i).map clF) (fun r e => Ev.sk1 ?_) (fun i r hlt e => Ev.sk1 ?_) ?_
  ·show Ev (fun k => U64.l0_ k (U64.l0 k) (U64.l1 k) _ _ _ _) _
   simp only [U64.l0_, head_end, cond_false]
   exact e
  ·show Ev (fun k => U64.l0_ k (U64.l0 k) (U64.l1 k) _ _ _ _) _
   have hmem := List.getElem_mem hlt
   simp only [U64.l0_, head_in hlt, head_0, Bool.and_self, cond_true, Int.toNat_natCast, getD_at _ _ _ hlt]
   refine Ev.bind (specneeded (okM_fm hok _ hmem)) (specClF (hs.1.2 _ hmem) (okM_fm hok _ hmem) (by omega) (by rw [List.length_map, List.length_take]; omega) ?_)
   simp only [← take_push hlt, List.map_append] at e
   exact e
  ·simp only [List.take_length]
   exact Ev.cst rfl
theorem implCl (hs : Small tModule m) : Ev (fun k => U159.f k m) (mR (okM m) (turnM clF m)) :=
 Ev.bind (implTurned hs fun hok f hf => implClF (hs.1.2 _ hf) (okM_fm hok _ hf)) (Ev.cst rfl)
end
theorem keepL_cons {α : Type} {ids : List Int} {n : Nat} {x : α} {l : List α} : keepL ids n (x :: l) = (bif decide ((n : Int) ∈ ids) then [] else [x]) ++ keepL ids (n + 1) l := by
 unfold keepL keepT
 simp only [tagL, List.filter_cons]
 by_cases hm : (n : Int) ∈ ids
 ·have : keepP ids ((n : Int), x) = false := by unfold keepP; rw [dpos hm]; rfl
  rw [this, dpos hm]; rfl
 ·have : keepP ids ((n : Int), x) = true := by unfold keepP; rw [dneg hm]; rfl
  rw [this, dneg hm]; rfl
theorem sumB_keep {α : Type} {w : α → Int} (h0 : ∀ x, 0 ≤ w x) (ids : List Int) : ∀ (l : List α) (n : Nat), sumB w (keepL ids n l) ≤ sumB w l
 | [], n => Int.le_refl _
 | x :: l, n => by
  have ih := sumB_keep h0 ids l (n + 1)
  have := h0 x
  rw [keepL_cons]
  cases decide ((n : Int) ∈ ids) <;> simp only [cond_true, cond_false, List.nil_append, List.cons_append, sumB] <;> omega
theorem sumB_mapB (ids : List Int) : ∀ (l : List tBlockD) (n : Nat), sumB wK (mapB (keepB ids) n l) ≤ sumB wK l
 | [], n => Int.le_refl _
 | x :: l, n => by
  have ih := sumB_mapB ids l (n + wN x)
  have h1 := sumB_keep wP_0 ids x.1 n
  have h2 := sumB_keep wI_0 ids x.2.1 (n + x.1.length)
  have h3 : wK (keepB ids n x) ≤ wK x := by
   show sumB wP (keepL ids n x.1) + sumB wI (keepL ids (n + x.1.length) x.2.1) + 4 ≤ sumB wP x.1 + sumB wI x.2.1 + 4
   omega
  simp only [mapB, sumB]; omega
theorem clF_w (f : tFuncD) : wF (clF f) ≤ wF f := by
 refine Int.le_trans (subF_w _ _) ?_
 have := sumB_mapB (clI f) f.2.2.1 f.1.length
 show (f.1.length : Int) + 1 + sumB wK (mapB (keepB (clI f)) f.1.length f.2.2.1) ≤ (f.1.length : Int) + 1 + sumB wK f.2.2.1
 omega
theorem PureFnExactCleaned : ∀ (a0 : tModuleD), Wf tModule a0 → ∃ k, laws_FnExactCleaned.f k a0 = some (((true, ()), ()), ()) := by
 intro a hw
 refine Ev.ex (g := fun k => laws_FnExactCleaned.f k a) ?_
 unfold laws_FnExactCleaned.f
 refine law_frameW hw fun h hww => ?_
 have ho : Small (.list tFunc) (turnM clF a) := turnM_small h fun f hf => subF_small (keepF_small hf)
 have hg : Small tModule (turnM clF a, ()) := ⟨ho, trivial⟩
 obtain ⟨n1, p1, em, hn1, _⟩ := markHeldM h.1 hww
 obtain ⟨n2, p2, em2, hn2, eh⟩ := markHeldM ho (turnM_w hww clF_w)
 have heq : (!decide (n2 = n2)) = false := by simp
 have hb : (!(okM a == okM a)) = false := by simp
 refine Ev.bind (toModule h) (Ev.bind (specCl h) (Ev.bind (toModule h) (Ev.bind (implCl h) (Ev.yes (eqModule hg) (Ev.neg hb (Ev.bind (toModule h) (Ev.yes (eqModule h) (Ev.bind em ?_))))))))
 refine Ev.dn (show ¬ n1 < 0 by omega) (Ev.yes (eqModule hg) (Ev.neg hb (Ev.bind em2 (Ev.bind eh (Ev.dn (show ¬ n2 < 0 by omega) (Ev.neg heq ?_))))))
 exact Ev.bind (toModule h) (Ev.bind (implCl h) (Ev.yes (eqModule hg) (Ev.neg hb (Ev.bind eh (Ev.dn (show ¬ n2 < 0 by omega) (Ev.neg heq (Ev.cst rfl)))))))
end
end Go.Proofs.YtebgkcjpocfmmaaGreat.V
