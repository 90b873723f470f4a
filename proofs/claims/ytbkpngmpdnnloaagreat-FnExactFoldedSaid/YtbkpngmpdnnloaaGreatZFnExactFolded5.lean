/- PROVED HERE: what the functions that the law FnExactFolded reaches do in memory, each as a plain Lean function, and what these tell: part 6 of 7 of the proof of that law; no condition beyond those written out at each theorem. -/
import Derived.Test.YtbkpngmpdnnloaaGreatZFnExactFolded2
import Derived.Test.YtbkpngmpdnnloaaGreatZFnExactFolded3
import Derived.Test.YtbkpngmpdnnloaaGreatZFnExactFolded4
namespace Go.Proofs.YtbkpngmpdnnloaaGreat.V
open Go
set_option linter.unusedVariables false
set_option linter.unusedSimpArgs false
noncomputable section
section
variable {funcs : Int} {f : tFuncD}
def markB (f : tFuncD) (p : Int) : Bool := (reachB f.2.2.1 (-1)).getD p.toNat false
def allOf (f : tFuncD) (p : Int) : Int := wB (f.2.2.1.getD p.toNat tBlockZ)
def zipS (f : tFuncD) : List Int → List Int → Bool
 | id :: is, q :: qs => (bif markB f q then seesB f id q (allOf f q) else true) && zipS f is qs
 | _, _ => true
theorem zipS_cons {f : tFuncD} {id q : Int} {is qs : List Int} : zipS f (id :: is) (q :: qs) = ((bif markB f q then seesB f id q (allOf f q) else true) && zipS f is qs) := rfl
def instS (f : tFuncD) (b : Int) (x : tBlockD) (i : Nat) (ins : tInstD) : Bool := (opsB ins).all fun id => seesB f id b (((List.length x.1 : Nat) : Int) + (i : Int))
def endS (f : tFuncD) (b : Int) (x : tBlockD) : Bool := bif decide (x.2.2.1 = 1) || decide (x.2.2.1 = 3) then seesB f x.2.2.2.1 b (wB x) else true
def blkS (f : tFuncD) (b : Int) (x : tBlockD) : Bool := x.1.all (fun p => zipS f p.2.1 (preds f b)) && (allI (instS f b x) x.2.1 0 && endS f b x)
theorem allI_get {α : Type} {p : Nat → α → Bool} : ∀ {l : List α} {i : Nat}, allI p l i = true → ∀ j (h : j < l.length), p (i + j) l[j] = true
 | [], i, _, j, h => by simp at h
 | x :: l, i, ha, j, h => by
  simp only [allI, Bool.and_eq_true] at ha
  cases j with
  | zero => exact ha.1
  | succ j =>
   have := allI_get ha.2 j (by simpa using h)
   rw [show i + (j + 1) = i + 1 + j by omega]
   exact this
theorem phiN_len (h : allI (phiN f) f.2.2.1 0 = true) {b : Nat} (hb : b < f.2.2.1.length) {p : tPhiD} (hp : p ∈ f.2.2.1[b].1) : p.2.1.length = (preds f b).length := by
 have := allI_get h b hb
 rw [Nat.zero_add] at this
 unfold phiN at this
 simp only [List.all_eq_true, decide_eq_true_eq] at this
 exact this p hp
theorem preds_in {b p : Int} (h : p ∈ preds f b) : 0 ≤ p ∧ p < (f.2.2.1.length : Int) := by
 have := predsL_in b _ 0 p h
 omega
theorem all_wrap (hf : Fm funcs f) {q : Int} (h : 0 ≤ q ∧ q < (f.2.2.1.length : Int)) : IntKind.wrap .i64 (((List.length (f.2.2.1.getD q.toNat tBlockZ).1 : Nat) : Int) + ((List.length (f.2.2.1.getD q.toNat tBlockZ).2.1 : Nat) : Int)) = allOf f q := by
 have hlt : q.toNat < f.2.2.1.length := by omega
 unfold allOf
 rw [getD_at _ _ _ hlt]
 exact blk_wrap (hf.w60 (List.getElem_mem hlt))
theorem mark_iff {q : Int} (h : 0 ≤ q) : decide (q ∈ idx (reachB f.2.2.1 (-1)) 0) = markB f q := by
 unfold markB
 have := mem_idx0 (reachB f.2.2.1 (-1)) q h
 cases hm : (reachB f.2.2.1 (-1)).getD q.toNat false with
 | true => exact dpos (this.2 hm)
 | false => exact dneg fun hh => by rw [this.1 hh] at hm; cases hm
/-- The specification's look at one block. -/
theorem specBlk (hf : Fm funcs f) (hN : allI (phiN f) f.2.2.1 0 = true) {live : List Int} (hl : live = idx (reachB f.2.2.1 (-1)) 0) {a : Nat} (ha : a < 9223372036854775807) {b : Nat} (hb : b < f.2.2.1.length) {r : Bool}
  (hr : Ev (fun k => U47.l0 k live ((a + 1 : Nat) : Int) f) (one r)) : Ev (fun k => U47.l1 k live (a : Int) (b : Int) (wB f.2.2.1[b]) 0 f f.2.2.1[b] (preds f b)) (one (blkS f b f.2.2.1[b] && r)) := by
 have hx := List.getElem_mem hb
 obtain ⟨hp, hq⟩ := hf.phis hx
 have h10 := hf.b10
 have hpl := preds_len f b
 have hlive : smI live := by rw [hl]; exact reach_few hf.b10 _
 -- the end
 have lend : Ev (fun k => U47.l3 k live (a : Int) (b : Int) (wB f.2.2.1[b]) ((List.length f.2.2.1[b].2.1 : Nat) : Int) f f.2.2.1[b]) (one (endS f b f.2.2.1[b] && r)) := by
  refine Ev.succ ?_
  show Ev (fun k => U47.l3_ k (U47.l0 k) (U47.l1 k) (U47.l2 k) (U47.l3 k) (U47.l4 k) _ _ _ _ _ f _) _
  unfold U47.l3_ endS
  simp only [head_end, cond_false, wrap_nat ha]
  by_cases h1 : f.2.2.1[b].2.2.1 = 1
  ·rw [dpos h1, Bool.true_or, cond_true]
   exact Ev.pos rfl (Ev.bind (specSees hf (hf.vt hx (.inl h1)) (by omega) _) (ev_and hr))
  ·rw [dneg h1, Bool.false_or]
   refine Ev.neg rfl ?_
   by_cases h3 : f.2.2.1[b].2.2.1 = 3
   ·rw [dpos h3, cond_true]
    exact Ev.pos rfl (Ev.bind (specSees hf (hf.vt hx (.inr h3)) (by omega) _) (ev_and hr))
   ·rw [dneg h3, cond_false, Bool.true_and]
    exact Ev.neg rfl hr
 have l3 := Ev.down (G := fun j k => U47.l3 k live (a : Int) (b : Int) (wB f.2.2.1[b]) (j : Int) f f.2.2.1[b]) (V := fun j => one (allI (instS f b f.2.2.1[b]) (f.2.2.1[b].2.1.drop j) j && (endS f b f.2.2.1[b] && r))) f.2.2.1[b].2.1.length ?_ ?_ 0 (Nat.zero_le _)
 ·have l1 := Ev.down (G := fun i k => U47.l1 k live (a : Int) (b : Int) (wB f.2.2.1[b]) (i : Int) f f.2.2.1[b] (preds f b)) (V := fun i => one ((f.2.2.1[b].1.drop i).all (fun p => zipS f p.2.1 (preds f b)) && (allI (instS f b f.2.2.1[b]) f.2.2.1[b].2.1 0 && (endS f b f.2.2.1[b] && r)))) f.2.2.1[b].1.length ?_ ?_ 0 (Nat.zero_le _)
  ·refine Ev.rw l1 ?_
   unfold blkS
   rw [List.drop_zero, Bool.and_assoc, Bool.and_assoc]
  ·rw [List.drop_length, List.all_nil, Bool.true_and]
   refine Ev.step l3 fun k => ?_
   show U47.l1_ k (U47.l0 k) (U47.l1 k) (U47.l2 k) (U47.l3 k) (U47.l4 k) _ _ _ _ _ f _ _ = _
   unfold U47.l1_
   simp only [head_end, cond_false]
   rfl
  ·intro i hi ih
   have hpm := List.getElem_mem hi
   have hlen := phiN_len hN hb hpm
   rw [List.drop_eq_getElem_cons hi, List.all_cons, Bool.and_assoc]
   have l2 := Ev.down (G := fun q k => U47.l2 k live (a : Int) (b : Int) (wB f.2.2.1[b]) (i : Int) (q : Int) f f.2.2.1[b] (preds f b)) (V := fun q => one (zipS f (f.2.2.1[b].1[i].2.1.drop q) ((preds f b).drop q) && ((f.2.2.1[b].1.drop (i + 1)).all (fun p => zipS f p.2.1 (preds f b)) && (allI (instS f b f.2.2.1[b]) f.2.2.1[b].2.1 0 && (endS f b f.2.2.1[b] && r))))) (preds f b).length ?_ ?_ 0 (Nat.zero_le _)
   ·refine Ev.step l2 fun k => ?_
    show U47.l1_ k (U47.l0 k) (U47.l1 k) (U47.l2 k) (U47.l3 k) (U47.l4 k) _ _ _ _ _ f _ _ = _
    unfold U47.l1_
    simp only [head_in hi, cond_true]
    rfl
   ·rw [← hlen, List.drop_length]
    refine Ev.step ih fun k => ?_
    show U47.l2_ k (U47.l0 k) (U47.l1 k) (U47.l2 k) (U47.l3 k) (U47.l4 k) _ _ _ _ _ _ f _ _ = _
    unfold U47.l2_
    rw [hlen]
    simp only [head_end, cond_false, wrap_nat (show i < 9223372036854775807 by omega)]
   ·intro q hq1 ihq
    have hq2 : q < f.2.2.1[b].1[i].2.1.length := by omega
    have hpi := preds_in (List.getElem_mem hq1)
    rw [List.drop_eq_getElem_cons hq1, List.drop_eq_getElem_cons hq2]
    rw [zipS_cons, Bool.and_assoc]
    refine Ev.succ ?_
    show Ev (fun k => U47.l2_ k (U47.l0 k) (U47.l1 k) (U47.l2 k) (U47.l3 k) (U47.l4 k) _ _ _ _ _ _ f _ _) _
    unfold U47.l2_
    simp only [head_in hq1, head_0, Bool.and_self, cond_true, get_in hq1, head_in hi, get_in hi, head_in hq2, get_in hq2, all_wrap hf hpi, wrap_nat (show q < 9223372036854775807 by omega)]
    refine Ev.dd hpi.1 hpi.2 (Ev.bind (has_ev live _ hlive) ?_)
    rw [hl, mark_iff hpi.1]
    cases hm : markB f (preds f b)[q] with
    | true =>
     rw [cond_true]
     rw [← hl]
     exact Ev.pos rfl (Ev.bind (specSees hf (hf.vp hx hpm (List.getElem_mem hq2)) hpi.1 _) (ev_and ihq))
    | false =>
     rw [cond_false, Bool.true_and, ← hl]
     exact Ev.neg rfl ihq
 ·rw [List.drop_length]
  exact lend
 ·intro j hj ihj
  have hjm := List.getElem_mem hj
  obtain ⟨ho4, hov⟩ := hf.vo hx hjm
  have hol := opsB_len (i := f.2.2.1[b].2.1[j]) (by omega)
  rw [List.drop_eq_getElem_cons hj]
  unfold allI
  rw [Bool.and_assoc]
  have l4 : Ev (fun k => U47.l4 k live (a : Int) (b : Int) (wB f.2.2.1[b]) (j : Int) 0 f f.2.2.1[b] (opsB f.2.2.1[b].2.1[j])) (one (instS f b f.2.2.1[b] j f.2.2.1[b].2.1[j] && (allI (instS f b f.2.2.1[b]) (f.2.2.1[b].2.1.drop (j + 1)) (j + 1) && (endS f b f.2.2.1[b] && r)))) := by
   refine each_ev (z := 0) (l := opsB f.2.2.1[b].2.1[j]) (L := fun k q => U47.l4 k live (a : Int) (b : Int) (wB f.2.2.1[b]) (j : Int) q f f.2.2.1[b] (opsB f.2.2.1[b].2.1[j])) (V := fun m => one ((m.all fun id => seesB f id b (((List.length f.2.2.1[b].1 : Nat) : Int) + (j : Int))) && (allI (instS f b f.2.2.1[b]) (f.2.2.1[b].2.1.drop (j + 1)) (j + 1) && (endS f b f.2.2.1[b] && r))))
    (q := fun k id g => Option.bind (U46.f k f id (b : Int) (IntKind.wrap .i64 (((List.length f.2.2.1[b].1 : Nat) : Int) + (j : Int)))) fun r1 => bif !r1.1.1.1 then some (((false, ()), ()), ()) else g k) (by omega) (fun k q => rfl) ?_ ?_
   ·rw [List.all_nil, Bool.true_and, wrap_nat (show j < 9223372036854775807 by omega)]
    exact ihj
   ·intro id mm g hid hg
    rw [wrap_id (by omega) (by omega), List.all_cons, Bool.and_assoc]
    exact Ev.bind (specSees hf (hov id hid) (by omega) _) (ev_and hg)
  refine Ev.succ ?_
  show Ev (fun k => U47.l3_ k (U47.l0 k) (U47.l1 k) (U47.l2 k) (U47.l3 k) (U47.l4 k) _ _ _ _ _ f _) _
  unfold U47.l3_
  simp only [head_in hj, head_0, Bool.and_self, cond_true, get_in hj]
  exact Ev.bind (Ev.all fun k => specOps k (by omega)) l4
theorem specDoms (hf : Fm funcs f) (hN : allI (phiN f) f.2.2.1 0 = true) : Ev (fun k => U47.f k f) (one ((idx (reachB f.2.2.1 (-1)) 0).all fun b => blkS f b (f.2.2.1.getD b.toNat tBlockZ))) := by
 have hb1 := hf.b1
 have hin : ∀ b ∈ idx (reachB f.2.2.1 (-1)) 0, 0 ≤ b ∧ b < (f.2.2.1.length : Int) := fun b hb => by
  have h0 := idx_ge _ _ _ hb
  have h1 := (mem_idx0 _ b h0).1 hb
  refine ⟨h0, ?_⟩
  rcases Nat.lt_or_ge b.toNat f.2.2.1.length with h | h
  ·omega
  ·rw [List.getD, List.getElem?_eq_none (by rw [reachB_length]; exact h)] at h1
   cases h1
 unfold U47.f
 refine Ev.bind (specReach_ev f (-1) hf.there (by omega)) ?_
 generalize hl : idx (reachB f.2.2.1 (-1)) 0 = live at hin
 have hls : live.length ≤ 1048576 := by rw [← hl]; exact reach_few hf.b10 _
 have key := Ev.down (G := fun i k => U47.l0 k live (i : Int) f) (V := fun i => one ((live.drop i).all fun b => blkS f b (f.2.2.1.getD b.toNat tBlockZ))) live.length ?_ ?_ 0 (Nat.zero_le _)
 ·exact key
 ·rw [List.drop_length]
  refine Ev.step (g' := fun _ => some (one true)) (Ev.cst rfl) fun k => ?_
  show U47.l0_ k (U47.l0 k) (U47.l1 k) (U47.l2 k) (U47.l3 k) (U47.l4 k) _ _ f = _
  unfold U47.l0_
  simp only [head_end, cond_false]
 ·intro i hi ih
  obtain ⟨b0, b1⟩ := hin _ (List.getElem_mem hi)
  rw [List.drop_eq_getElem_cons hi, List.all_cons]
  refine Ev.succ ?_
  show Ev (fun k => U47.l0_ k (U47.l0 k) (U47.l1 k) (U47.l2 k) (U47.l3 k) (U47.l4 k) _ _ f) _
  unfold U47.l0_
  simp only [head_in hi, head_0, Bool.and_self, cond_true, get_in hi]
  have hbt : (live[i]).toNat < f.2.2.1.length := by omega
  have hcast : ((live[i].toNat : Nat) : Int) = live[i] := by omega
  have hall := all_wrap hf ⟨b0, b1⟩
  refine Ev.dd b0 b1 (Ev.bind (specPreds hf.b10 _) ?_)
  rw [hall]
  unfold allOf
  have := specBlk (a := i) hf hN hl.symm (by omega) hbt ih
  rw [hcast] at this
  rw [getD_at _ _ _ hbt]
  exact this
end
def shapeB (m : tModuleD) : Bool := inB 1 3 (m.1.length : Int) && m.1.all (funcB (m.1.length : Int))
theorem specShape {m : tModuleD} (hm : Small tModule m) : Ev (fun k => U31.f k m) (one (shapeB m)) := by
 have hs := hm.1
 have hlen : m.1.length ≤ 1048576 := hs.1
 unfold U31.f shapeB
 refine Ev.bind (Ev.all fun k => specIn k _ _ _) (ev_and ?_)
 exact each_ev (z := tFuncZ) (l := m.1) (L := fun k a => U31.l0 k a m.1) (V := fun l => one (l.all (funcB (m.1.length : Int)))) (q := fun k y g => Option.bind (U30.f k y ((List.length m.1 : Nat) : Int)) fun r1 => bif !r1.1.1.1 then some (((false, ()), ()), ()) else g k)
  (by omega) (fun k a => rfl) (Ev.cst rfl) fun y l g hy hg => by
   refine Ev.bind (specFunc (hs.2 y hy) (by omega) (by omega)) ?_
   rw [List.all_cons]
   exact ev_and hg
theorem implFuncs {l : List tFuncD} (hs : Small (.list tFunc) l) {funcs : Int} (h2 : 0 ≤ funcs) (h3 : funcs ≤ 9223372036854775807) : Ev (fun k => U103.f k l funcs) (one (!l.all (funcB funcs))) := by
 have hl : l.length ≤ 1048576 := hs.1
 rw [← any_not]
 refine index_ev (z := tFuncZ) (L := fun k b a => U102.l0 k l b a funcs) (q := fun k x => U101.f k x funcs) (by omega) (fun k b a => rfl) fun x hx => ?_
 exact Ev.bind (implFunc (hs.2 x hx) h2 h3) (Ev.cst rfl)
theorem implShape {m : tModuleD} (hm : Small tModule m) : Ev (fun k => U104.f k m) (one (shapeB m)) := by
 have hlen : m.1.length ≤ 1048576 := hm.1.1
 unfold U104.f shapeB
 refine Ev.bind (Ev.all fun k => implIn k _ _ _) ?_
 cases inB 1 3 (m.1.length : Int) with
 | false => exact Ev.neg rfl (Ev.cst rfl)
 | true => exact Ev.pos rfl (Ev.bind (implFuncs hm.1 (by omega) (by omega)) (Ev.cst (by show some (one (!(!_))) = _; rw [Bool.not_not, Bool.true_and])))
section
variable {funcs : Int} {f : tFuncD}
theorem place_end (hf : Fm funcs f) {id : Int} (v : vid f id) {q : Int} (hq : 0 ≤ q ∧ q < (f.2.2.1.length : Int)) : (placeOf f id).1 = q → (id < cntB f ↔ (placeOf f id).2 < allOf f q) := by
 intro h
 rcases place_cases id v.1 v.2 with ⟨hl, hp⟩ | ⟨hl, j, hj, hp, ha, hb⟩
 ·rw [hp] at h
  have h' : (-1 : Int) = q := h
  omega
 ·rw [hp] at h ⊢
  have h' : (j : Int) = q := h
  have hqj : q.toNat = j := by omega
  unfold allOf
  rw [hqj, getD_at _ _ _ hj]
  exact ⟨fun _ => hb, fun _ => v.2⟩
theorem place_at {id : Int} (v : vid f id) {b : Nat} {at' : Int} : (placeOf f id).1 = (b : Int) → (id < firstB f b + at' ↔ (placeOf f id).2 < at') := by
 intro h
 rcases place_cases id v.1 v.2 with ⟨hl, hp⟩ | ⟨hl, j, hj, hp, ha, hb⟩
 ·rw [hp] at h
  have h' : (-1 : Int) = (b : Int) := h
  omega
 ·rw [hp] at h ⊢
  have h' : (j : Int) = (b : Int) := h
  have e : j = b := by omega
  subst e
  show _ ↔ id - (f.1.length : Int) - sumB wB (f.2.2.1.take j) < at'
  unfold firstB
  omega
theorem sum_take_le (hf : Fm funcs f) (b : Nat) : 0 ≤ sumB wB (f.2.2.1.take b) ∧ sumB wB (f.2.2.1.take b) ≤ 600 := by
 have h10 := hf.b10
 have := sumB_le (w := wB) (m := 60) (l := f.2.2.1.take b) fun x hx => ⟨wB_nonneg x, hf.w60 (List.mem_of_mem_take hx)⟩
 have hl : (f.2.2.1.take b).length ≤ 10 := by rw [List.length_take]; omega
 omega
theorem implBlk (hs : Small tFunc f) (hf : Fm funcs f) (hN : allI (phiN f) f.2.2.1 0 = true) {b : Nat} (hb : b < f.2.2.1.length) : Ev (fun k => U140.f k f (b : Int) (reachB f.2.2.1 (-1))) (one (blkS f b f.2.2.1[b])) := by
 have hx := List.getElem_mem hb
 obtain ⟨hp, hq⟩ := hf.phis hx
 have h10 := hf.b10
 have h4 := hf.p4
 have hpl := preds_len f b
 have hst := sum_take_le hf b
 have hml := reachB_length f.2.2.1 (-1)
 obtain ⟨c0, c1⟩ := cntB_le hs
 have tail : ∀ {A : Int}, vid f A → Ev (fun k => Option.bind (U74.f k f) fun r3 => Option.bind (U136.f k f A (b : Int) r3.1.1.1) fun r4 => some (((r4.1.1.1, ()), ()), ())) (one (seesB f A b (wB f.2.2.1[b]))) := by
  intro A v
  refine Ev.bind (implCount hs) (Ev.bind (implSeen hs hf v (by omega) (by omega) (at' := wB f.2.2.1[b]) ?_) (Ev.cst rfl))
  have := place_end hf v (q := (b : Int)) ⟨by omega, by omega⟩
  unfold allOf at this
  rw [Int.toNat_natCast, getD_at _ _ _ hb] at this
  exact this
 have lend : Ev (fun k => U140.l2 k f.2.2.1[b].2.1 ((List.length f.2.2.1[b].2.1 : Nat) : Int) ((List.length f.2.2.1[b].2.1 : Nat) : Int) f (b : Int) f.2.2.1[b] (firstB f b + ((List.length f.2.2.1[b].1 : Nat) : Int))) (one (endS f b f.2.2.1[b])) := by
  refine Ev.succ ?_
  show Ev (fun k => U140.l2_ k (U140.l0 k) (U140.l1 k) (U140.l2 k) _ _ _ f _ _ _) _
  unfold U140.l2_ endS
  simp only [head_end, cond_false]
  by_cases h1 : f.2.2.1[b].2.2.1 = 1
  ·rw [dpos h1, Bool.true_or, cond_true]
   exact Ev.pos rfl (tail (hf.vt hx (.inl h1)))
  ·rw [dneg h1, Bool.false_or]
   refine Ev.neg rfl ?_
   by_cases h3 : f.2.2.1[b].2.2.1 = 3
   ·rw [dpos h3, cond_true]
    exact Ev.neg rfl (tail (hf.vt hx (.inr h3)))
   ·rw [dneg h3, cond_false]
    exact Ev.pos rfl (Ev.cst rfl)
 have l2 := Ev.down (G := fun j k => U140.l2 k f.2.2.1[b].2.1 ((List.length f.2.2.1[b].2.1 : Nat) : Int) (j : Int) f (b : Int) f.2.2.1[b] (firstB f b + ((List.length f.2.2.1[b].1 : Nat) : Int))) (V := fun j => one (allI (instS f b f.2.2.1[b]) (f.2.2.1[b].2.1.drop j) j && endS f b f.2.2.1[b])) f.2.2.1[b].2.1.length ?_ ?_ 0 (Nat.zero_le _)
 ·have l0 := Ev.down (G := fun i k => U140.l0 k (reachB f.2.2.1 (-1)) f.2.2.1[b].1 ((List.length f.2.2.1[b].1 : Nat) : Int) (i : Int) f (b : Int) f.2.2.1[b] (preds f b)) (V := fun i => one ((f.2.2.1[b].1.drop i).all (fun p => zipS f p.2.1 (preds f b)) && (allI (instS f b f.2.2.1[b]) f.2.2.1[b].2.1 0 && endS f b f.2.2.1[b]))) f.2.2.1[b].1.length ?_ ?_ 0 (Nat.zero_le _)
  ·unfold U140.f
   refine Ev.dd (by omega) (by omega) (Ev.bind (implPreds h10 b) ?_)
   rw [get_in hb]
   exact l0
  ·rw [List.drop_length, List.all_nil, Bool.true_and]
   refine Ev.succ ?_
   show Ev (fun k => U140.l0_ k (U140.l0 k) (U140.l1 k) (U140.l2 k) _ _ _ _ f _ _ _) _
   unfold U140.l0_
   simp only [head_end, cond_false]
   refine Ev.bind (implFirst hf hb) ?_
   rw [show IntKind.wrap .i64 ((one (firstB f b)).1.1.1 + ((List.length f.2.2.1[b].1 : Nat) : Int)) = firstB f b + ((List.length f.2.2.1[b].1 : Nat) : Int) from wrap_id (by show _ ≤ firstB f b + _; unfold firstB; omega) (by show firstB f b + _ ≤ _; unfold firstB; omega)]
   exact l2
  ·intro i hi ih
   have hpm := List.getElem_mem hi
   have hlen := phiN_len hN hb hpm
   have l1 := Ev.down (G := fun q k => U140.l1 k (reachB f.2.2.1 (-1)) f.2.2.1[b].1 ((List.length f.2.2.1[b].1 : Nat) : Int) (i : Int) f.2.2.1[b].1[i].2.1 ((List.length f.2.2.1[b].1[i].2.1 : Nat) : Int) (q : Int) f (b : Int) f.2.2.1[b] (preds f b)) (V := fun q => one (zipS f (f.2.2.1[b].1[i].2.1.drop q) ((preds f b).drop q) && ((f.2.2.1[b].1.drop (i + 1)).all (fun p => zipS f p.2.1 (preds f b)) && (allI (instS f b f.2.2.1[b]) f.2.2.1[b].2.1 0 && endS f b f.2.2.1[b])))) f.2.2.1[b].1[i].2.1.length ?_ ?_ 0 (Nat.zero_le _)
   ·rw [List.drop_eq_getElem_cons hi, List.all_cons, Bool.and_assoc]
    refine Ev.step l1 fun k => ?_
    show U140.l0_ k (U140.l0 k) (U140.l1 k) (U140.l2 k) _ _ _ _ f _ _ _ = _
    unfold U140.l0_
    simp only [head_in hi, head_0, Bool.and_self, cond_true, get_in hi]
    rfl
   ·rw [List.drop_length]
    refine Ev.step ih fun k => ?_
    show U140.l1_ k (U140.l0 k) (U140.l1 k) (U140.l2 k) _ _ _ _ _ _ _ f _ _ _ = _
    unfold U140.l1_
    simp only [head_end, cond_false, wrap_nat (show i < 9223372036854775807 by omega)]
   ·intro q hq1 ihq
    have hq2 : q < (preds f b).length := by omega
    have hpi := preds_in (List.getElem_mem hq2)
    rw [List.drop_eq_getElem_cons hq1, List.drop_eq_getElem_cons hq2, zipS_cons, Bool.and_assoc]
    refine Ev.succ ?_
    show Ev (fun k => U140.l1_ k (U140.l0 k) (U140.l1 k) (U140.l2 k) _ _ _ _ _ _ _ f _ _ _) _
    unfold U140.l1_
    simp only [head_in hq1, head_0, Bool.and_self, cond_true, get_in hq1, head_in hq2, get_in hq2, wrap_nat (show q < 9223372036854775807 by omega)]
    refine Ev.dd hpi.1 (by omega) ?_
    cases hm : markB f (preds f b)[q] with
    | true =>
     rw [cond_true]
     have v := hf.vp hx hpm (List.getElem_mem hq1)
     exact Ev.pos hm (Ev.bind (implCount hs) (Ev.bind (implSeen hs hf v hpi.1 hpi.2 (place_end hf v hpi)) (ev_and ihq)))
    | false =>
     rw [cond_false, Bool.true_and]
     exact Ev.neg hm ihq
 ·rw [List.drop_length]
  exact lend
 ·intro j hj ihj
  have hjm := List.getElem_mem hj
  obtain ⟨ho4, hov⟩ := hf.vo hx hjm
  have hol := opsB_len (i := f.2.2.1[b].2.1[j]) (by omega)
  rw [List.drop_eq_getElem_cons hj]
  unfold allI
  rw [Bool.and_assoc]
  have hc : Ev (fun k => U139.f k (opsB f.2.2.1[b].2.1[j]) f (b : Int) (firstB f b + ((List.length f.2.2.1[b].1 : Nat) : Int)) (j : Int)) (one (!instS f b f.2.2.1[b] j f.2.2.1[b].2.1[j])) := by
   unfold instS
   rw [← any_not]
   refine index_ev (z := 0) (L := fun k e a => U138.l0 k (opsB f.2.2.1[b].2.1[j]) e a f (b : Int) (firstB f b + ((List.length f.2.2.1[b].1 : Nat) : Int)) (j : Int)) (q := fun k y => U137.f k y f (b : Int) (firstB f b + ((List.length f.2.2.1[b].1 : Nat) : Int)) (j : Int)) (by omega) (fun k e a => rfl) fun id hid => ?_
   unfold U137.f
   have v := hov id hid
   have hw : IntKind.wrap .i64 (firstB f b + ((List.length f.2.2.1[b].1 : Nat) : Int) + (j : Int)) = firstB f b + (((List.length f.2.2.1[b].1 : Nat) : Int) + (j : Int)) := by
    rw [wrap_id (by unfold firstB; omega) (by unfold firstB; omega)]; omega
   rw [hw]
   exact Ev.bind (implSeen hs hf v (by omega) (by omega) (place_at v)) (Ev.cst rfl)
  refine Ev.succ ?_
  show Ev (fun k => U140.l2_ k (U140.l0 k) (U140.l1 k) (U140.l2 k) _ _ _ f _ _ _) _
  unfold U140.l2_
  simp only [head_in hj, head_0, Bool.and_self, cond_true, get_in hj, wrap_nat (show j < 9223372036854775807 by omega)]
  have h2 := ev_and' (b := !instS f b f.2.2.1[b] j f.2.2.1[b].2.1[j]) ihj
  rw [Bool.not_not] at h2
  exact Ev.bind (Ev.all fun k => implOps k (by omega)) (Ev.bind hc h2)
def domsB (f : tFuncD) : Bool := (idx (reachB f.2.2.1 (-1)) 0).all fun b => blkS f b (f.2.2.1.getD b.toNat tBlockZ)
theorem all_idx (p : Int → Bool) : ∀ (l : List Bool) (i : Nat), (idx l (i : Int)).all p = allI (fun j x => !x || p (j : Int)) l i
 | [], i => rfl
 | x :: l, i => by
  have ih := all_idx p l (i + 1)
  simp only [idx, allI]
  rw [show ((i : Int) + 1) = ((i + 1 : Nat) : Int) by omega]
  cases x with
  | true => rw [if_pos rfl, List.all_cons, ih]; rfl
  | false => rw [if_neg (by decide), ih]; rfl
def code (m : List tFuncD) (f : tFuncD) : Int :=
 bif entryB f then (bif allI (phiN f) f.2.2.1 0 then (bif f.2.2.1.all (blkW f) then (bif f.2.2.1.all (fun x => x.2.1.all (callB m f)) then (bif domsB f then 0 else 6) else 5) else 4) else 3) else 2
theorem Ev.cnd {R : Type} {g h : Nat → Option R} {b : Bool} {x y : R} (hg : b = true → Ev g x) (hh : b = false → Ev h y) : Ev (fun k => bif b then g k else h k) (bif b then x else y) := by
 cases b with
 | true => exact Ev.pos rfl (hg rfl)
 | false => exact Ev.neg rfl (hh rfl)
theorem Ev.cndn {R : Type} {g h : Nat → Option R} {b : Bool} {x y : R} (hg : b = true → Ev g x) (hh : b = false → Ev h y) : Ev (fun k => bif !b then h k else g k) (bif b then x else y) := by
 cases b with
 | true => exact Ev.neg rfl (hg rfl)
 | false => exact Ev.pos rfl (hh rfl)
theorem one_cnd {b : Bool} {x y : Int} : one (bif b then x else y) = bif b then one x else one y := by cases b <;> rfl
variable {m : List tFuncD}
theorem specFn (hm : ∀ g ∈ m, g.1.length ≤ 4) (hf : Fm (m.length : Int) f) : Ev (fun k => U48.f k (m, ()) f) (one (code m f)) := by
 have hb1 := hf.b1
 unfold U48.f code
 refine Ev.bind (specPreds hf.b10 0) ?_
 have rest : Ev (R := IR) (fun k => Option.bind (U35.f k f) fun r2 => bif !r2.1.1.1 then some (((3, ()), ()), ()) else Option.bind (U41.f k f) fun r3 => bif !r3.1.1.1 then some (((4, ()), ()), ()) else Option.bind (U42.f k (m, ()) f) fun r4 => bif !r4.1.1.1 then some (((5, ()), ()), ()) else Option.bind (U47.f k f) fun r5 => bif !r5.1.1.1 then some (((6, ()), ()), ()) else some (((0, ()), ()), ()))
   (one (bif allI (phiN f) f.2.2.1 0 then (bif f.2.2.1.all (blkW f) then (bif f.2.2.1.all (fun x => x.2.1.all (callB m f)) then (bif domsB f then (0 : Int) else 6) else 5) else 4) else 3)) := by
  rw [one_cnd]
  refine Ev.bind (specArePhis hf) (Ev.cndn (fun hN => ?_) fun _ => Ev.cst rfl)
  rw [one_cnd]
  refine Ev.bind (specTypes hf) (Ev.cndn (fun _ => ?_) fun _ => Ev.cst rfl)
  rw [one_cnd]
  refine Ev.bind (specCalls hm hf) (Ev.cndn (fun _ => ?_) fun _ => Ev.cst rfl)
  rw [one_cnd]
  exact Ev.bind (specDoms hf hN) (Ev.cndn (fun _ => Ev.cst rfl) fun _ => Ev.cst rfl)
 unfold entryB
 by_cases h0 : (preds f 0).length = 0
 ·rw [dpos h0, Bool.and_true]
  refine Ev.neg (dneg (show ¬ (0 < (((preds f 0).length : Nat) : Int)) by omega)) (Ev.dd (by omega) (by omega) ?_)
  by_cases h1 : (f.2.2.1.getD 0 tBlockZ).1.length = 0
  ·rw [dpos h1]
   exact Ev.dn (by omega) rest
  ·rw [dneg h1]
   exact Ev.dp (by omega) (Ev.cst rfl)
 ·rw [dneg h0, Bool.and_false]
  exact Ev.pos (dpos (show 0 < (((preds f 0).length : Nat) : Int) by omega)) (Ev.cst rfl)
theorem implFn (hs : Small tFunc f) (hm : ∀ g ∈ m, g.1.length ≤ 4) (hf : Fm (m.length : Int) f) : Ev (fun k => U141.f k (m, ()) f) (one (code m f)) := by
 have hb1 := hf.b1
 have h10 := hf.b10
 unfold U141.f code
 rw [one_cnd]
 refine Ev.bind (implEntry hb1 h10) (Ev.cndn (fun _ => ?_) fun _ => Ev.cst rfl)
 rw [one_cnd]
 refine Ev.bind (implArePhis hs h10) (Ev.cndn (fun hN => ?_) fun _ => Ev.cst rfl)
 rw [one_cnd]
 refine Ev.bind (implTypes hs hf) (Ev.cndn (fun _ => ?_) fun _ => Ev.cst rfl)
 -- the blocks that are reached
 have hml := reachB_length f.2.2.1 (-1)
 have l1 := Ev.down (G := fun i k => U141.l1 k ((List.length (reachB f.2.2.1 (-1)) : Nat) : Int) (i : Int) f (reachB f.2.2.1 (-1))) (V := fun i => one (bif allI (fun j x => !x || blkS f (j : Int) (f.2.2.1.getD (Int.toNat (j : Int)) tBlockZ)) ((reachB f.2.2.1 (-1)).drop i) i then (0 : Int) else 6)) (reachB f.2.2.1 (-1)).length ?_ ?_ 0 (Nat.zero_le _)
 ·have l1' : Ev (fun k => U141.l1 k ((List.length (reachB f.2.2.1 (-1)) : Nat) : Int) 0 f (reachB f.2.2.1 (-1))) (one (bif domsB f then (0 : Int) else 6)) := by
   refine Ev.rw l1 ?_
   have e : domsB f = allI (fun j x => !x || blkS f (j : Int) (f.2.2.1.getD (Int.toNat (j : Int)) tBlockZ)) (reachB f.2.2.1 (-1)) 0 := all_idx (fun b => blkS f b (f.2.2.1.getD b.toNat tBlockZ)) (reachB f.2.2.1 (-1)) 0
   rw [e]; rfl
  exact each_ev (z := tBlockZ) (l := f.2.2.1) (L := fun k a => U141.l0 k f.2.2.1 ((List.length f.2.2.1 : Nat) : Int) a m f) (V := fun l => one (bif l.all (fun x => x.2.1.all (callB m f)) then (bif domsB f then (0 : Int) else 6) else 5)) (q := fun k x g => Option.bind (U132.f k x.2.1 m f) fun r1 => bif r1.1.1.1 then some (((5, ()), ()), ()) else g k)
   (by omega) (fun k a => rfl) (Ev.bind (implReach_ev f (-1) hf.there (by omega)) l1') fun x l g hx hg => by
    refine Ev.bind (implCalls hs hm hf hx) ?_
    rw [List.all_cons]
    cases x.2.1.all (callB m f) with
    | true => rw [Bool.true_and]; exact Ev.neg rfl hg
    | false => exact Ev.pos rfl (Ev.cst rfl)
 ·rw [List.drop_length]
  refine Ev.step (g' := fun _ => some (one (0 : Int))) (Ev.cst rfl) fun k => ?_
  show U141.l1_ k (U141.l0 k) (U141.l1 k) _ _ f _ = _
  unfold U141.l1_
  simp only [head_end, cond_false]
 ·intro i hi ih
  have hib : i < f.2.2.1.length := by omega
  rw [List.drop_eq_getElem_cons hi]
  refine Ev.succ ?_
  show Ev (fun k => U141.l1_ k (U141.l0 k) (U141.l1 k) _ _ f _) _
  unfold U141.l1_ allI
  simp only [head_in hi, head_0, Bool.and_self, cond_true, get_in hi, wrap_nat (show i < 9223372036854775807 by omega)]
  cases hmk : (reachB f.2.2.1 (-1))[i] with
  | false =>
   rw [Bool.not_false, Bool.true_or, Bool.true_and]
   exact Ev.neg rfl ih
  | true =>
   rw [Bool.not_true, Bool.false_or]
   refine Ev.pos rfl (Ev.bind (implBlk hs hf hN hib) ?_)
   rw [get_in hib]
   cases blkS f (i : Int) f.2.2.1[i] with
   | true => rw [Bool.true_and]; exact Ev.neg rfl ih
   | false => exact Ev.pos rfl (Ev.cst rfl)
end
def codeL (m : List tFuncD) : List tFuncD → Int
 | [] => 0
 | f :: l => bif !decide (code m f = 0) then code m f else codeL m l
def codeM (m : tModuleD) : Int := bif shapeB m then codeL m.1 m.1 else 1
theorem shape_fm {m : tModuleD} (h : shapeB m = true) : (∀ f ∈ m.1, Fm (m.1.length : Int) f) ∧ ∀ g ∈ m.1, g.1.length ≤ 4 := by
 simp only [shapeB, Bool.and_eq_true, List.all_eq_true] at h
 have h1 : ∀ f ∈ m.1, Fm (m.1.length : Int) f := fun f hf => Fm.of (h.2 f hf)
 exact ⟨h1, fun g hg => (h1 g hg).p4⟩
theorem specM {m : tModuleD} (hs : Small tModule m) : Ev (fun k => U49.f k m) (one (codeM m)) := by
 have hlen : m.1.length ≤ 1048576 := hs.1.1
 unfold U49.f codeM
 rw [one_cnd]
 refine Ev.bind (specShape (m := (m.1, ())) hs) (Ev.cndn (fun h => ?_) fun _ => Ev.cst rfl)
 obtain ⟨h1, h2⟩ := shape_fm h
 exact each_ev (z := tFuncZ) (l := m.1) (L := fun k a => U49.l0 k a m.1) (V := fun l => one (codeL m.1 l)) (q := fun k f g => Option.bind (U48.f k (m.1, ()) f) fun r1 => bif !decide (r1.1.1.1 = 0) then some (((r1.1.1.1, ()), ()), ()) else g k) (by omega) (fun k a => rfl) (Ev.cst rfl) fun f l g hf hg => by
  refine Ev.bind (specFn h2 (h1 _ hf)) ?_
  unfold codeL
  rw [one_cnd]
  exact Ev.cnd (fun _ => Ev.cst rfl) fun _ => hg
theorem implM {m : tModuleD} (hs : Small tModule m) : Ev (fun k => U142.f k m) (one (codeM m)) := by
 have hlen : m.1.length ≤ 1048576 := hs.1.1
 unfold U142.f codeM
 rw [one_cnd]
 refine Ev.bind (implShape (m := (m.1, ())) hs) (Ev.cndn (fun h => ?_) fun _ => Ev.cst rfl)
 obtain ⟨h1, h2⟩ := shape_fm h
 exact each_ev (z := tFuncZ) (l := m.1) (L := fun k a => U142.l0 k m.1 ((List.length m.1 : Nat) : Int) a m.1) (V := fun l => one (codeL m.1 l)) (q := fun k f g => Option.bind (U141.f k (m.1, ()) f) fun r1 => bif !decide (r1.1.1.1 = 0) then some (((r1.1.1.1, ()), ()), ()) else g k) (by omega) (fun k a => rfl) (Ev.cst rfl) fun f l g hf hg => by
  refine Ev.bind (implFn (hs.1.2 _ hf) h2 (h1 _ hf)) ?_
  unfold codeL
  rw [one_cnd]
  exact Ev.cnd (fun _ => Ev.cst rfl) fun _ => hg
/-- A module and whether there is one, as it is returned. -/
abbrev mR (c : Bool) (l : List tFuncD) : (((Unit × Unit) × (Bool × Unit) × Unit) × ((List tFuncD) × Unit)) := ((((), ()), (c, ()), ()), (l, ()))
def okM (m : tModuleD) : Bool := decide (codeM m = 0)
theorem okM_fm {m : tModuleD} (h : okM m = true) : ∀ f ∈ m.1, Fm (m.1.length : Int) f := by
 unfold okM codeM at h
 cases hs : shapeB m with
 | true => exact (shape_fm hs).1
 | false => rw [hs] at h; cases h
def turnM (g : tFuncD → tFuncD) (m : tModuleD) : List tFuncD := bif okM m then m.1.map g else []
theorem len_pushM {α β : Type} {l : List α} {g : α → β} {i : Nat} {x : β} (h : l.length ≤ 1048576) : (List.length ((l.take i).map g) + List.length [x]) * 56 ≤ 140737488355328 := by
 have h1 : List.length ((l.take i).map g) + List.length [x] ≤ 1048577 := by simp only [List.length_map, List.length_take, List.length_cons, List.length_nil]; omega
 exact Nat.le_trans (Nat.mul_le_mul_right 56 h1) (by decide)
section
variable {m : tModuleD} {g : tFuncD → tFuncD}
theorem implTurned (hs : Small tModule m) (hg : okM m = true → ∀ f ∈ m.1, Ev (fun k => U162.f k f.2.1 f.1 f.2.2.1) (fR true (g f))) : Ev (fun k => U164.f k m) (mR (okM m) (turnM g m)) := by
 have hl : m.1.length ≤ 1048576 := hs.1.1
 unfold U164.f
 refine Ev.bind (a := mR (okM m) (turnM g m)) ?_ (Ev.cst rfl)
 unfold U163.f
 refine Ev.bind (a := one (okM m)) (Ev.bind (implM (m := (m.1, ())) hs) (Ev.cst rfl)) ?_
 unfold turnM
 cases hok : okM m with
 | false => exact Ev.pos rfl (Ev.cst rfl)
 | true =>
  refine Ev.neg rfl ?_
  refine st_loop (n0 := m.1.length) (L := fun k a s => U163.l0 k m.1 (m.1.length : Int) a [] s) (T := fun k s => some (mR true s)) (fun i => (m.1.take i).map g) (fun r e => Ev.sk1 ?_) (fun i r hlt e => Ev.sk1 ?_) ?_
  ·show Ev (fun k => U163.l0_ k (U163.l0 k) _ _ _ _ _) _
   simp only [U163.l0_, head_end, cond_false]
   exact e
  ·show Ev (fun k => U163.l0_ k (U163.l0 k) _ _ _ _ _) _
   have hmem := List.getElem_mem hlt
   simp only [U163.l0_, head_in hlt, head_0, Bool.and_self, cond_true, Int.toNat_natCast, getD_at _ _ _ hlt, wrap_nat (show i < 9223372036854775807 by omega)]
   refine Ev.bind (implOwnFunc (hs.1.2 _ hmem)) (Ev.bind (hg hok _ hmem) (Ev.neg rfl (Ev.dp (len_pushM hl) ?_)))
   simp only [← take_push hlt, List.map_append] at e
   exact e
  ·simp only [List.take_length]
   exact Ev.cst rfl
end
theorem szFuncS : SzOK (.list tFunc) U8.f := sz_list (z := tFuncZ) szFunc (L := U8.l0) (fun k l a b => rfl) fun k l a => rfl
theorem szModule : SzOK tModule U9.f := by
 intro x hw n h0 h1
 obtain ⟨s, e, a, b, c⟩ := szFuncS _ hw.1 n h0 h1
 exact ⟨_, sz_then (n := n) e, by split <;> omega, by split <;> omega, fun h => ⟨c (by split at h <;> omega), trivial⟩⟩
theorem toFuncS {l : List tFuncD} (h : Small (.list tFunc) l) : Ev (fun k => U19.f k l) (rowR l) :=
 to_list (z := tFuncZ) (L := U19.l0) (q := fun k x h => Option.bind (U18.f k x) fun r1 => h (r1.2.1, r1.1.1.2.1, r1.2.2.1, ())) (b := 56) (R := Unit) (fun k l a b => rfl) (fun k l => rfl) h.1 (by omega) (by omega) fun x hx g r hh => Ev.bind (toFunc (h.2 x hx)) hh
theorem toModule {x : tModuleD} (h : Small tModule x) : Ev (fun k => U20.f k x) ((((), ()), ()), (x.1, ())) := Ev.bind (toFuncS h.1) (Ev.cst rfl)
theorem eqFuncS {l : List tFuncD} (h : Small (.list tFunc) l) : Ev (fun k => U175.f k l l) (one true) :=
 eq_list (z := tFuncZ) (L := U175.l0) (q := fun k x y g => Option.bind (U174.f k x y) fun r1 => bif !r1.1.1.1 then some (((false, ()), ()), ()) else g) (fun k l m a => rfl) (fun k l m => rfl) h.1 fun x hx g r hh => Ev.yes (eqFunc (h.2 x hx)) hh
theorem eqModule {x : tModuleD} (h : Small tModule x) : Ev (fun k => U176.f k x x) (one true) := Ev.yes (eqFuncS h.1) (Ev.cst rfl)
theorem Ev.sc {R : Type} {g : Nat → Option R} {r : R} (h : Ev (fun k => g (k + 1)) r) : Ev g r := Ev.step h fun _ => rfl
theorem updAt_length {α : Type} (z : α) (l : List α) (i : Nat) (f : α → α) : (updAt z l i f).length = l.length := by simp [updAt]
theorem updAt_at {α : Type} (z : α) (l : List α) (i : Nat) (f : α → α) (h : i < l.length) : (updAt z l i f).getD i z = f (l.getD i z) := by
 rw [getD_at _ _ _ (by rw [updAt_length]; exact h)]
 simp [updAt]
theorem updAt_twice {α : Type} {z : α} {l : List α} {i : Nat} (h : i < l.length) (f g : α → α) : updAt z (updAt z l i f) i g = updAt z l i (fun x => g (f x)) := by
 show (updAt z l i f).set i (g ((updAt z l i f).getD i z)) = _
 rw [updAt_at _ _ _ _ h]
 simp [updAt]
abbrev MkR (α : Type) := (((Int × Unit) × Unit) × (α × Unit))
abbrev mkr {α : Type} (n : Int) (l : α) : MkR α := (((n, ()), ()), (l, ()))
/-- The numbers n, n + 1, .. -/
def upFrom : Int → Nat → List Int
 | _, 0 => []
 | n, d + 1 => n :: upFrom (n + 1) d
theorem markInts_l : ∀ (d i : Nat) (pre : List Int) (l : List Int) (n : Int), pre.length = i → l.length = d → i + d ≤ 1048576 → 0 ≤ n → n + (d : Int) ≤ 9223372036854775807 → Ev (fun k => U177.l0 k n (i : Int) (pre ++ l)) (mkr (n + (d : Int)) (pre ++ upFrom n d)) := by
 intro d
 induction d with
 | zero =>
  intro i pre l n hi hl h1 h0 hM
  obtain rfl : l = [] := List.eq_nil_of_length_eq_zero hl
  subst hi
  refine Ev.step (g' := fun _ => some (mkr (n + 0) (pre ++ []))) (Ev.cst rfl) fun k => ?_
  show U177.l0_ k (U177.l0 k) n _ (pre ++ []) = _
  unfold U177.l0_
  simp
 | succ d ih =>
  intro i pre l n hi hl h1 h0 hM
  obtain ⟨x, l, rfl⟩ : ∃ x m, l = x :: m := by
   cases l with
   | nil => simp at hl
   | cons x m => exact ⟨x, m, rfl⟩
  subst hi
  have hlt : pre.length < (pre ++ x :: l).length := by simp
  refine Ev.sc ?_
  show Ev (fun k => U177.l0_ k (U177.l0 k) n _ (pre ++ x :: l)) _
  unfold U177.l0_
  simp only [head_in hlt, head_0, Bool.and_self, cond_true, Int.toNat_natCast, wrap_nat (show pre.length < 9223372036854775807 by omega), wrap_id (x := n + 1) (by omega) (by omega)]
  have e : (pre ++ x :: l).set pre.length n = (pre ++ [n]) ++ l := by simp
  rw [e]
  refine (ih (pre.length + 1) (pre ++ [n]) l (n + 1) (by simp) (by simpa using hl) (by omega) (by omega) (by omega)).rw ?_
  have e1 : n + 1 + (d : Int) = n + ((d + 1 : Nat) : Int) := by omega
  simp [upFrom, e1]
theorem markInts (l : List Int) (n : Int) (hl : l.length ≤ 1048576) (h0 : 0 ≤ n) (hM : n + (l.length : Int) ≤ 9223372036854775807) : Ev (fun k => U177.f k n l) (mkr (n + (l.length : Int)) (upFrom n l.length)) :=
 markInts_l l.length 0 [] l n rfl rfl (by omega) h0 hM
theorem heldInts_l : ∀ (d i : Nat) (pre : List Int) (n : Int), pre.length = i → i + d ≤ 1048576 → 0 ≤ n → n + (d : Int) ≤ 9223372036854775807 → Ev (fun k => U183.l0 k (pre ++ upFrom n d) n (i : Int)) (one (n + (d : Int))) := by
 intro d
 induction d with
 | zero =>
  intro i pre n hi h1 h0 hM
  subst hi
  refine Ev.step (g' := fun _ => some (one (n + 0))) (Ev.cst rfl) fun k => ?_
  show U183.l0_ k (U183.l0 k) (pre ++ []) n _ = _
  unfold U183.l0_
  simp
 | succ d ih =>
  intro i pre n hi h1 h0 hM
  subst hi
  have hlt : pre.length < (pre ++ n :: upFrom (n + 1) d).length := by simp
  refine Ev.sc ?_
  show Ev (fun k => U183.l0_ k (U183.l0 k) (pre ++ n :: upFrom (n + 1) d) n _) _
  unfold U183.l0_
  simp only [head_in hlt, head_0, Bool.and_self, cond_true, get_in hlt, wrap_nat (show pre.length < 9223372036854775807 by omega), wrap_id (x := n + 1) (by omega) (by omega)]
  refine Ev.neg (by simp) ?_
  have e : pre ++ n :: upFrom (n + 1) d = (pre ++ [n]) ++ upFrom (n + 1) d := by simp
  rw [e]
  refine (ih (pre.length + 1) (pre ++ [n]) (n + 1) (by simp) (by omega) (by omega) (by omega)).rw ?_
  have e1 : n + 1 + (d : Int) = n + ((d + 1 : Nat) : Int) := by omega
  rw [e1]
theorem heldInts (n : Int) (d : Nat) (hl : d ≤ 1048576) (h0 : 0 ≤ n) (hM : n + (d : Int) ≤ 9223372036854775807) : Ev (fun k => U183.f k (upFrom n d) n) (one (n + (d : Int))) :=
 heldInts_l d 0 [] n rfl (by omega) h0 hM
/-- The elements that count from a number up to another one. -/
def Chain {α : Type} (P : Int → α → Int → Prop) : Int → List α → Int → Prop
 | n, [], n' => n = n'
 | n, x :: l, n' => ∃ n1, P n x n1 ∧ Chain P n1 l n'
theorem held_ch {α : Type} {z : α} {P : Int → α → Int → Prop} {H : Nat → List α → Int → Int → Option IR}
  (hend : ∀ (l : List α) (n : Int) k, H (k + 1) l n (l.length : Int) = some (one n))
  (hstep : ∀ (l : List α) (i : Nat) (n n' : Int), i < l.length → l.length ≤ 1048576 → P n (l.getD i z) n' → ∀ r, Ev (fun k => H k l n' ((i + 1 : Nat) : Int)) r → Ev (fun k => H k l n (i : Int)) r) :
  ∀ (d i : Nat) (l : List α) (n n' : Int), i + d = l.length → l.length ≤ 1048576 → Chain P n (l.drop i) n' → Ev (fun k => H k l n (i : Int)) (one n') := by
 intro d
 induction d with
 | zero =>
  intro i l n n' hi hl hc
  obtain rfl : i = l.length := by omega
  rw [List.drop_length] at hc
  obtain rfl : n = n' := hc
  exact Ev.step (g' := fun _ => some (one n)) (Ev.cst rfl) (hend l n)
 | succ d ih =>
  intro i l n n' hi hl hc
  have hlt : i < l.length := by omega
  rw [List.drop_eq_getElem_cons hlt] at hc
  obtain ⟨n1, p, c⟩ := hc
  exact hstep l i n n1 hlt hl (by rw [getD_at _ _ _ hlt]; exact p) _ (ih (i + 1) l n1 n' (by omega) hl c)
theorem held_all {α : Type} {z : α} {P : Int → α → Int → Prop} {H : Nat → List α → Int → Int → Option IR}
  (hend : ∀ (l : List α) (n : Int) k, H (k + 1) l n (l.length : Int) = some (one n))
  (hstep : ∀ (l : List α) (i : Nat) (n n' : Int), i < l.length → l.length ≤ 1048576 → P n (l.getD i z) n' → ∀ r, Ev (fun k => H k l n' ((i + 1 : Nat) : Int)) r → Ev (fun k => H k l n (i : Int)) r)
  (l : List α) (n n' : Int) (hl : l.length ≤ 1048576) (hc : Chain P n l n') : Ev (fun k => H k l n 0) (one n') := held_ch hend hstep l.length 0 l n n' (by omega) hl hc
theorem Ev.sk {R : Type} {n m : Int} {o : Option R} {g : Nat → Option R} {r : R} (h : n = m) (e : Ev g r) : Ev (fun k => bif !decide (n = m) then o else g k) r := Ev.neg (by rw [dpos h]; rfl) e
def MP (n : Int) (x : tPhiD) (n' : Int) : Prop := ∃ d : Nat, d ≤ 1048576 ∧ 0 ≤ n ∧ n' = n + 1 + (d : Int) ∧ n' ≤ 9000000000000000000 ∧ x.1 = n ∧ x.2.1 = upFrom (n + 1) d
def MI (n : Int) (x : tInstD) (n' : Int) : Prop := ∃ d : Nat, d ≤ 1048576 ∧ 0 ≤ n ∧ n' = n + 1 + 1 + 1 + 1 + 1 + 1 + (d : Int) ∧ n' ≤ 9000000000000000000 ∧ x.1 = n ∧ x.2.1 = n + 1 ∧ x.2.2.1 = n + 1 + 1 ∧ x.2.2.2.1 = n + 1 + 1 + 1 ∧ x.2.2.2.2.1 = n + 1 + 1 + 1 + 1 ∧ x.2.2.2.2.2.1 = n + 1 + 1 + 1 + 1 + 1 ∧ x.2.2.2.2.2.2.1 = upFrom (n + 1 + 1 + 1 + 1 + 1 + 1) d
def MB (n : Int) (x : tBlockD) (n' : Int) : Prop := ∃ n1 n2, x.1.length ≤ 1048576 ∧ x.2.1.length ≤ 1048576 ∧ Chain MP n x.1 n1 ∧ Chain MI n1 x.2.1 n2 ∧ 0 ≤ n1 ∧ 0 ≤ n2 ∧ n' = n2 + 1 + 1 + 1 + 1 ∧ n' ≤ 9000000000000000000 ∧ x.2.2.1 = n2 ∧ x.2.2.2.1 = n2 + 1 ∧ x.2.2.2.2.1 = n2 + 1 + 1 ∧ x.2.2.2.2.2.1 = n2 + 1 + 1 + 1
theorem heldPhis (l : List tPhiD) (n n' : Int) (hl : l.length ≤ 1048576) (hc : Chain MP n l n') : Ev (fun k => U184.f k l n) (one n') := by
 refine held_all (z := tPhiZ) (P := MP) (H := U184.l0) (fun l n k => ?_) (fun l i n n1 hi hl hp r hr => Ev.sc ?_) l n n' hl hc
 ·show U184.l0_ k (U184.l0 k) l n _ = _
  unfold U184.l0_
  rw [head_end]; rfl
 ·obtain ⟨d, hd, h0, rfl, hM, e1, e2⟩ := hp
  show Ev (fun k => U184.l0_ k (U184.l0 k) l n _) _
  unfold U184.l0_
  simp only [head_in hi, head_0, Bool.and_self, cond_true, Int.toNat_natCast, wrap_nat (show i < 9223372036854775807 by omega), wrap_id (x := n + 1) (by omega) (by omega), e2]
  exact Ev.sk e1 (Ev.bind (heldInts (n + 1) d hd (by omega) (by omega)) (Ev.dn (show ¬ n + 1 + (d : Int) < 0 by omega) hr))
theorem heldInsts (l : List tInstD) (n n' : Int) (hl : l.length ≤ 1048576) (hc : Chain MI n l n') : Ev (fun k => U185.f k l n) (one n') := by
 refine held_all (z := tInstZ) (P := MI) (H := U185.l0) (fun l n k => ?_) (fun l i n n1 hi hl hp r hr => Ev.sc ?_) l n n' hl hc
 ·show U185.l0_ k (U185.l0 k) l n _ = _
  unfold U185.l0_
  rw [head_end]; rfl
 ·obtain ⟨d, hd, h0, rfl, hM, e1, e2, e3, e4, e5, e6, e7⟩ := hp
  show Ev (fun k => U185.l0_ k (U185.l0 k) l n _) _
  unfold U185.l0_
  simp only [head_in hi, head_0, Bool.and_self, cond_true, Int.toNat_natCast, wrap_nat (show i < 9223372036854775807 by omega), wrap_id (x := n + 1) (by omega) (by omega), wrap_id (x := n + 1 + 1) (by omega) (by omega), wrap_id (x := n + 1 + 1 + 1) (by omega) (by omega), wrap_id (x := n + 1 + 1 + 1 + 1) (by omega) (by omega), wrap_id (x := n + 1 + 1 + 1 + 1 + 1) (by omega) (by omega), wrap_id (x := n + 1 + 1 + 1 + 1 + 1 + 1) (by omega) (by omega), e7]
  exact Ev.sk e1 (Ev.sk e2 (Ev.sk e3 (Ev.sk e4 (Ev.sk e5 (Ev.sk e6 (Ev.bind (heldInts (n + 1 + 1 + 1 + 1 + 1 + 1) d hd (by omega) (by omega)) (Ev.dn (show ¬ n + 1 + 1 + 1 + 1 + 1 + 1 + (d : Int) < 0 by omega) hr)))))))
theorem heldBlocks (l : List tBlockD) (n n' : Int) (hl : l.length ≤ 1048576) (hc : Chain MB n l n') : Ev (fun k => U186.f k l n) (one n') := by
 refine held_all (z := tBlockZ) (P := MB) (H := U186.l0) (fun l n k => ?_) (fun l i n n1 hi hl hp r hr => Ev.sc ?_) l n n' hl hc
 ·show U186.l0_ k (U186.l0 k) l n _ = _
  unfold U186.l0_
  rw [head_end]; rfl
 ·obtain ⟨m1, m2, u1, u2, c1, c2, p1, p2, rfl, hM, e1, e2, e3, e4⟩ := hp
  show Ev (fun k => U186.l0_ k (U186.l0 k) l n _) _
  unfold U186.l0_
  simp only [head_in hi, head_0, Bool.and_self, cond_true, Int.toNat_natCast, wrap_nat (show i < 9223372036854775807 by omega)]
  refine Ev.bind (heldPhis _ n m1 u1 c1) (Ev.dn (show ¬ m1 < 0 by omega) (Ev.bind (heldInsts _ m1 m2 u2 c2) (Ev.dn (show ¬ m2 < 0 by omega) ?_)))
  simp only [wrap_id (x := m2 + 1) (by omega) (by omega), wrap_id (x := m2 + 1 + 1) (by omega) (by omega), wrap_id (x := m2 + 1 + 1 + 1) (by omega) (by omega), wrap_id (x := m2 + 1 + 1 + 1 + 1) (by omega) (by omega)]
  exact Ev.sk e1 (Ev.sk e2 (Ev.sk e3 (Ev.sk e4 hr)))
def wP (p : tPhiD) : Int := 1 + (p.2.1.length : Int)
def wI (i : tInstD) : Int := 6 + (i.2.2.2.2.2.2.1.length : Int)
def wK (x : tBlockD) : Int := sumB wP x.1 + sumB wI x.2.1 + 4
def wF (f : tFuncD) : Int := (f.1.length : Int) + 1 + sumB wK f.2.2.1
theorem wP_0 (p : tPhiD) : 0 ≤ wP p := by unfold wP; omega
theorem wI_0 (i : tInstD) : 0 ≤ wI i := by unfold wI; omega
theorem wK_0 (x : tBlockD) : 0 ≤ wK x := by
 have := sumB_nonneg (w := wP) (l := x.1) fun p _ => wP_0 p
 have := sumB_nonneg (w := wI) (l := x.2.1) fun p _ => wI_0 p
 unfold wK; omega
theorem wF_0 (f : tFuncD) : 0 ≤ wF f := by
 have := sumB_nonneg (w := wK) (l := f.2.2.1) fun p _ => wK_0 p
 unfold wF; omega
def SzW {α : Type} (wf : α → Prop) (w : α → Int) (e : Int) (f : Nat → α → Int → Option IR) : Prop := ∀ (x : α), wf x → ∀ n : Int, 0 ≤ n → n ≤ 1048576 → ∃ s, Ev (fun k => f k x n) (one s) ∧ -1 ≤ s ∧ s ≤ n ∧ (0 ≤ s → w x ≤ e + 6 * (n - s))
theorem szw_list {α : Type} {wf : α → Prop} {w : α → Int} {z : α} {f : Nat → α → Int → Option IR} (hf : SzW wf w 6 f) {L : Nat → List α → Int → Int → Option IR} {F : Nat → List α → Int → Option IR}
  (hL : ∀ k l a1 a2, L (k + 1) l a1 a2 = bif decide (a2 < (l.length : Int)) then (bif decide (0 ≤ a2) && decide (a2 < (l.length : Int)) then (Option.bind (f k (l.getD a2.toNat z) a1) fun r1 => bif decide (r1.1.1.1 < 0) then some (((-1, ()), ()), ()) else L k l r1.1.1.1 (IntKind.wrap .i64 (a2 + 1))) else none) else some (((a1, ()), ()), ()))
  (hF : ∀ k l a, F k l a = bif decide (IntKind.wrap .i64 (a - (l.length : Int)) < 0) then some (((-1, ()), ()), ()) else L k l (IntKind.wrap .i64 (a - (l.length : Int))) 0) : SzW (fun l : List α => l.length ≤ 9223372036854775807 ∧ ∀ x ∈ l, wf x) (fun l : List α => sumB w l) 0 F := by
 intro l hw n h0 h1
 obtain ⟨hlen, hel⟩ := hw
 have key : ∀ (d i : Nat) (n : Int), i + d = l.length → 0 ≤ n → n ≤ 1048576 → ∃ s, Ev (fun k => L k l n (i : Int)) (one s) ∧ -1 ≤ s ∧ s ≤ n ∧ (0 ≤ s → sumB w (l.drop i) ≤ 6 * (d : Int) + 6 * (n - s)) := by
  intro d
  induction d with
  | zero =>
   intro i n hi h0 h1
   have hi' : i = l.length := by omega
   subst hi'
   refine ⟨n, Ev.step (g' := fun _ => some (one n)) (Ev.cst rfl) fun k => ?_, by omega, Int.le_refl _, fun _ => by rw [List.drop_length]; simp only [sumB]; omega⟩
   rw [hL, head_end]; rfl
  | succ d ih =>
   intro i n hi h0 h1
   have hi' : i < l.length := by omega
   have hmem : l[i] ∈ l := List.getElem_mem hi'
   obtain ⟨s, e1, e2, e3, e4⟩ := hf (l[i]) (hel _ hmem) n h0 h1
   have hstep : ∀ k, L (k + 1) l n (i : Int) = Option.bind (f k (l[i]) n) fun r1 => bif decide (r1.1.1.1 < 0) then some (((-1, ()), ()), ()) else L k l r1.1.1.1 ((i + 1 : Nat) : Int) := fun k => by
    rw [hL]
    simp only [head_in hi', head_0, Bool.and_self, cond_true, get_in hi', wrap_nat (show i < 9223372036854775807 by omega)]
   rcases Int.lt_or_le s 0 with hs | hs
   ·refine ⟨-1, Ev.step (Ev.bind (f := fun k r1 => bif decide (r1.1.1.1 < 0) then some (((-1, ()), ()), ()) else L k l r1.1.1.1 ((i + 1 : Nat) : Int)) e1 ?_) hstep, by omega, by omega, fun h => by omega⟩
    exact Ev.pos (dpos hs) (Ev.cst rfl)
   ·obtain ⟨s', q1, q2, q3, q4⟩ := ih (i + 1) s (by omega) hs (by omega)
    refine ⟨s', Ev.step (Ev.bind (f := fun k r1 => bif decide (r1.1.1.1 < 0) then some (((-1, ()), ()), ()) else L k l r1.1.1.1 ((i + 1 : Nat) : Int)) e1 (Ev.neg (dneg (show ¬ s < 0 by omega)) q1)) hstep, q2, by omega, fun h => ?_⟩
    rw [sumB_drop w l i hi']
    have a := e4 hs
    have b := q4 h
    omega
 have hw : IntKind.wrap .i64 (n - (l.length : Int)) = n - (l.length : Int) := wrap_id (by omega) (by omega)
 rcases Int.lt_or_le (n - (l.length : Int)) 0 with hs | hs
 ·refine ⟨-1, (Ev.cst rfl : Ev (fun _ => some (one (-1 : Int))) _).congr fun k => ?_, by omega, by omega, fun h => by omega⟩
  rw [hF, hw, dpos hs]; rfl
 ·obtain ⟨s, q1, q2, q3, q4⟩ := key (l.length) 0 _ (by omega) hs (by omega)
  refine ⟨s, q1.congr fun k => ?_, q2, by omega, fun h => ?_⟩
  ·rw [hF, hw, dneg (by omega)]; rfl
  ·have := q4 h
   rw [List.drop_zero] at this
   show sumB w l ≤ _
   omega
theorem szwInts : SzW (Wf (.list (.int .i64))) (fun l => (List.length (α := Int) l : Int)) 0 U0.f := by
 intro (l : List Int) hw n h0 h1
 have hlen : List.length (α := Int) l ≤ 9223372036854775807 := hw.1
 have hwr : IntKind.wrap .i64 (n - (List.length (α := Int) l : Int)) = n - (List.length (α := Int) l : Int) := wrap_id (by omega) (by omega)
 have he : ∀ k, U0.f k l n = bif decide (n - (List.length (α := Int) l : Int) < 0) then some (one (-1)) else some (one (n - (List.length (α := Int) l : Int))) := fun k => by
  show (bif decide (IntKind.wrap .i64 (n - (List.length (α := Int) l : Int)) < 0) then _ else _) = _
  rw [hwr]
 by_cases hs : n - (List.length (α := Int) l : Int) < 0
 ·exact ⟨-1, Ev.all fun k => by rw [he, dpos hs]; rfl, by omega, by omega, fun h => by omega⟩
 ·exact ⟨_, Ev.all fun k => by rw [he, dneg hs]; rfl, by omega, by omega, fun h => by show (l.length : Int) ≤ _; omega⟩
theorem szwPhi : SzW (Wf tPhi) wP 6 U1.f := by
 intro (x : tPhiD) hw n h0 h1
 obtain ⟨s, e, a, b, c⟩ := szwInts _ hw.2.1 n h0 h1
 exact ⟨_, sz_then (n := n) e, by split <;> omega, by split <;> omega, fun h => by have u : (x.2.1.length : Int) ≤ 0 + 6 * (n - s) := c (by split at h <;> omega); unfold wP; split at h <;> split <;> omega⟩
theorem szwPhiS : SzW (Wf (.list tPhi)) (fun l => sumB wP l) 0 U2.f := szw_list (z := tPhiZ) szwPhi (L := U2.l0) (fun k l a b => rfl) fun k l a => rfl
theorem szwInst : SzW (Wf tInst) wI 6 U3.f := by
 intro (x : tInstD) hw n h0 h1
 obtain ⟨s, e, a, b, c⟩ := szwInts _ hw.2.2.2.2.2.2.1 n h0 h1
 exact ⟨_, sz_then (n := n) e, by split <;> omega, by split <;> omega, fun h => by have u : (x.2.2.2.2.2.2.1.length : Int) ≤ 0 + 6 * (n - s) := c (by split at h <;> omega); unfold wI; split at h <;> split <;> omega⟩
theorem szwInstS : SzW (Wf (.list tInst)) (fun l => sumB wI l) 0 U4.f := szw_list (z := tInstZ) szwInst (L := U4.l0) (fun k l a b => rfl) fun k l a => rfl
theorem szwBlock : SzW (Wf tBlock) wK 6 U5.f := by
 intro (x : tBlockD) hw n h0 h1
 obtain ⟨s, e, a, b, c⟩ := szwPhiS _ hw.1 n h0 h1
 by_cases hs : s < 0
 ·exact ⟨-1, sz_two (n := n) (f := fun k s => Option.bind (U4.f k x.2.1 s) fun r1 => bif decide (r1.1.1.1 < 0) then some (((-1, ()), ()), ()) else some (((r1.1.1.1, ()), ()), ())) e (fun h => by omega) (fun _ => rfl), by omega, by omega, fun h => by omega⟩
 ·obtain ⟨s', e', a', b', c'⟩ := szwInstS _ hw.2.1 s (by omega) (by omega)
  exact ⟨_, sz_two (n := n) (f := fun k s => Option.bind (U4.f k x.2.1 s) fun r1 => bif decide (r1.1.1.1 < 0) then some (((-1, ()), ()), ()) else some (((r1.1.1.1, ()), ()), ())) e (fun _ => sz_then (n := n) e') (fun h => by omega), by split <;> omega, by split <;> omega, fun h => by have u : sumB wP x.1 ≤ 0 + 6 * (n - s) := c (by omega); have v : sumB wI x.2.1 ≤ 0 + 6 * (s - s') := c' (by split at h <;> omega); unfold wK; split at h <;> split <;> omega⟩
theorem szwBlockS : SzW (Wf (.list tBlock)) (fun l => sumB wK l) 0 U6.f := szw_list (z := tBlockZ) szwBlock (L := U6.l0) (fun k l a b => rfl) fun k l a => rfl
theorem szwFunc : SzW (Wf tFunc) wF 6 U7.f := by
 intro (x : tFuncD) hw n h0 h1
 obtain ⟨s, e, a, b, c⟩ := szwInts _ hw.1 n h0 h1
 by_cases hs : s < 0
 ·exact ⟨-1, sz_two (n := n) (f := fun k s => Option.bind (U6.f k x.2.2.1 s) fun r1 => bif decide (r1.1.1.1 < 0) then some (((-1, ()), ()), ()) else some (((r1.1.1.1, ()), ()), ())) e (fun h => by omega) (fun _ => rfl), by omega, by omega, fun h => by omega⟩
 ·obtain ⟨s', e', a', b', c'⟩ := szwBlockS _ hw.2.2.1 s (by omega) (by omega)
  exact ⟨_, sz_two (n := n) (f := fun k s => Option.bind (U6.f k x.2.2.1 s) fun r1 => bif decide (r1.1.1.1 < 0) then some (((-1, ()), ()), ()) else some (((r1.1.1.1, ()), ()), ())) e (fun _ => sz_then (n := n) e') (fun h => by omega), by split <;> omega, by split <;> omega, fun h => by have u : (x.1.length : Int) ≤ 0 + 6 * (n - s) := c (by omega); have v : sumB wK x.2.2.1 ≤ 0 + 6 * (s - s') := c' (by split at h <;> omega); unfold wF; split at h <;> split <;> omega⟩
theorem szwFuncS : SzW (Wf (.list tFunc)) (fun l => sumB wF l) 0 U8.f := szw_list (z := tFuncZ) szwFunc (L := U8.l0) (fun k l a b => rfl) fun k l a => rfl
theorem szwModule : SzW (Wf tModule) (fun m => sumB wF m.1) 6 U9.f := by
 intro (x : tModuleD) hw n h0 h1
 obtain ⟨s, e, a, b, c⟩ := szwFuncS _ hw.1 n h0 h1
 exact ⟨_, sz_then (n := n) e, by split <;> omega, by split <;> omega, fun h => by have u : sumB wF x.1 ≤ 0 + 6 * (n - s) := c (by split at h <;> omega); show sumB wF x.1 ≤ _; split at h <;> split <;> omega⟩
/-- A law over a module: it is small, and how many numbers it holds. -/
theorem law_frameW {a : tModuleD} (hw : Wf tModule a) {g : Nat → Option BR} (h : Small tModule a → sumB wF a.1 ≤ 10000000 → Ev g (one true)) : Ev (fun k => Option.bind (U9.f k (a.1, ()) 1048576) fun r1 => bif decide (r1.1.1.1 < 0) then some (((true, ()), ()), ()) else g k) (one true) := by
 obtain ⟨s, e, _, _, c⟩ := szModule a hw 1048576 (by omega) (by omega)
 obtain ⟨t, e', _, _, d⟩ := szwModule a hw 1048576 (by omega) (by omega)
 have hst : one s = one t := Ev.uniq e e'
 have hst' : s = t := congrArg (fun r => r.1.1.1) hst
 refine Ev.bind (f := fun k r1 => bif decide (r1.1.1.1 < 0) then some (((true, ()), ()), ()) else g k) e ?_
 by_cases hs : s < 0
 ·exact Ev.pos (dpos hs) (Ev.cst rfl)
 ·exact Ev.neg (dneg hs) (h (c (by omega)) (by have u : sumB wF a.1 ≤ 6 + 6 * (1048576 - t) := d (by omega); omega))
theorem mark_wt {α : Type} {z : α} {w : α → Int} (hw : ∀ x, 0 ≤ w x) {small : α → Prop} {P : Int → α → Int → Prop} {L : Nat → Int → Int → List α → Option (MkR (List α))} {M : Int}
  (hend : ∀ (l : List α) (n : Int) k, L (k + 1) n (l.length : Int) l = some (mkr n l))
  (hstep : ∀ (l : List α) (i : Nat) (n : Int), i < l.length → l.length ≤ 1048576 → small (l.getD i z) → 0 ≤ n → n + w (l.getD i z) ≤ M → ∃ n' x, n ≤ n' ∧ n' ≤ n + w (l.getD i z) ∧ P n x n' ∧ ∀ r, Ev (fun k => L k n' ((i + 1 : Nat) : Int) (l.set i x)) r → Ev (fun k => L k n (i : Int) l) r) :
  ∀ (d i : Nat) (l : List α) (n : Int), i + d = l.length → l.length ≤ 1048576 → (∀ j x, i ≤ j → l[j]? = some x → small x) → 0 ≤ n → n + sumB w (l.drop i) ≤ M → ∃ n' m, Ev (fun k => L k n (i : Int) l) (mkr n' (l.take i ++ m)) ∧ Chain P n m n' ∧ n ≤ n' ∧ n' ≤ n + sumB w (l.drop i) ∧ m.length = d := by
 intro d
 induction d with
 | zero =>
  intro i l n hi hl hs h0 hM
  obtain rfl : i = l.length := by omega
  exact ⟨n, [], (Ev.step (g' := fun _ => some (mkr n l)) (Ev.cst rfl) (hend l n)).rw (by rw [List.take_length, List.append_nil]), rfl, Int.le_refl _, by rw [List.drop_length]; simp [sumB], rfl⟩
 | succ d ih =>
  intro i l n hi hl hs h0 hM
  have hlt : i < l.length := by omega
  have hnn := sumB_nonneg (w := w) (l := l.drop (i + 1)) fun x _ => hw x
  rw [sumB_drop w l i hlt, ← getD_at l z i hlt] at hM
  obtain ⟨n1, x1, a1, a2, a3, a5⟩ := hstep l i n hlt hl (hs i _ (Nat.le_refl _) (by rw [getD_at _ _ _ hlt]; exact List.getElem?_eq_getElem hlt)) h0 (by omega)
  have ed : (l.set i x1).drop (i + 1) = l.drop (i + 1) := by rw [List.drop_set_of_lt (by omega)]
  obtain ⟨n2, m2, b1, b2, b3, b4, b5⟩ := ih (i + 1) (l.set i x1) n1 (by rw [List.length_set]; omega) (by rw [List.length_set]; exact hl) (fun j x hj hx => hs j x (by omega) (by rw [List.getElem?_set_ne (by omega)] at hx; exact hx)) (by omega) (by rw [ed]; omega)
  rw [ed] at b4
  refine ⟨n2, x1 :: m2, (a5 _ b1).rw ?_, ⟨n1, a3, b2⟩, by omega, by rw [sumB_drop w l i hlt, ← getD_at l z i hlt]; omega, by rw [List.length_cons, b5]⟩
  have e2 : (l.set i x1).take (i + 1) = l.take i ++ [x1] := by
   rw [List.take_succ_eq_append_getElem (by rw [List.length_set]; exact hlt), List.getElem_set_self, List.take_set_of_le (Nat.le_refl i)]
  show mkr n2 ((l.set i x1).take (i + 1) ++ m2) = _
  rw [e2, List.append_assoc]; rfl
theorem mark_allw {α : Type} {z : α} {w : α → Int} (hw : ∀ x, 0 ≤ w x) {small : α → Prop} {P : Int → α → Int → Prop} {L : Nat → Int → Int → List α → Option (MkR (List α))} {M : Int}
  (hend : ∀ (l : List α) (n : Int) k, L (k + 1) n (l.length : Int) l = some (mkr n l))
  (hstep : ∀ (l : List α) (i : Nat) (n : Int), i < l.length → l.length ≤ 1048576 → small (l.getD i z) → 0 ≤ n → n + w (l.getD i z) ≤ M → ∃ n' x, n ≤ n' ∧ n' ≤ n + w (l.getD i z) ∧ P n x n' ∧ ∀ r, Ev (fun k => L k n' ((i + 1 : Nat) : Int) (l.set i x)) r → Ev (fun k => L k n (i : Int) l) r)
  (l : List α) (n : Int) (hl : l.length ≤ 1048576) (hs : ∀ x ∈ l, small x) (h0 : 0 ≤ n) (hM : n + sumB w l ≤ M) : ∃ n' m, Ev (fun k => L k n 0 l) (mkr n' m) ∧ Chain P n m n' ∧ n ≤ n' ∧ n' ≤ n + sumB w l ∧ m.length ≤ 1048576 := by
 obtain ⟨n', m, a, b, c, d, e⟩ := mark_wt (z := z) hw (small := small) (P := P) hend hstep l.length 0 l n (by omega) hl (fun j x _ hx => hs x (List.mem_of_getElem? hx)) h0 hM
 exact ⟨n', m, a, b, c, d, by omega⟩
theorem markPhisW (l : List tPhiD) (hs : Small (.list tPhi) l) (n : Int) (h0 : 0 ≤ n) (hM : n + sumB wP l ≤ 100000000) : ∃ n' m, Ev (fun k => U178.f k n l) (mkr n' m) ∧ Chain MP n m n' ∧ n ≤ n' ∧ n' ≤ n + sumB wP l ∧ m.length ≤ 1048576 := by
 refine mark_allw (z := tPhiZ) wP_0 (small := Small tPhi) (L := U178.l0) (M := 100000000) (fun l n k => ?_) (fun l i n hi hl hx h0 hM => ?_) l n hs.1 hs.2 h0 hM
 ·show U178.l0_ k (U178.l0 k) n _ l = _
  unfold U178.l0_
  rw [head_end]; rfl
 ·have hlen : (l.getD i tPhiZ).2.1.length ≤ 1048576 := hx.2.1.1
  unfold wP at hM ⊢
  refine ⟨n + 1 + ((l.getD i tPhiZ).2.1.length : Int), (n, upFrom (n + 1) (l.getD i tPhiZ).2.1.length, (l.getD i tPhiZ).2.2), by omega, by omega, ⟨_, hlen, h0, rfl, by omega, rfl, rfl⟩, fun r hr => Ev.sc ?_⟩
  show Ev (fun k => U178.l0_ k (U178.l0 k) n _ l) _
  unfold U178.l0_
  simp only [updAt_length, head_in hi, head_0, Bool.and_self, cond_true, Int.toNat_natCast, wrap_nat (show i < 9223372036854775807 by omega), wrap_id (x := n + 1) (by omega) (by omega), updAt_twice hi, updAt_at _ _ _ _ hi]
  exact Ev.bind (markInts _ (n + 1) hlen (by omega) (by omega)) hr
theorem markInstsW (l : List tInstD) (hs : Small (.list tInst) l) (n : Int) (h0 : 0 ≤ n) (hM : n + sumB wI l ≤ 100000000) : ∃ n' m, Ev (fun k => U179.f k n l) (mkr n' m) ∧ Chain MI n m n' ∧ n ≤ n' ∧ n' ≤ n + sumB wI l ∧ m.length ≤ 1048576 := by
 refine mark_allw (z := tInstZ) wI_0 (small := Small tInst) (L := U179.l0) (M := 100000000) (fun l n k => ?_) (fun l i n hi hl hx h0 hM => ?_) l n hs.1 hs.2 h0 hM
 ·show U179.l0_ k (U179.l0 k) n _ l = _
  unfold U179.l0_
  rw [head_end]; rfl
 ·have hlen : (l.getD i tInstZ).2.2.2.2.2.2.1.length ≤ 1048576 := hx.2.2.2.2.2.2.1.1
  unfold wI at hM ⊢
  refine ⟨n + 1 + 1 + 1 + 1 + 1 + 1 + ((l.getD i tInstZ).2.2.2.2.2.2.1.length : Int), (n, n + 1, n + 1 + 1, n + 1 + 1 + 1, n + 1 + 1 + 1 + 1, n + 1 + 1 + 1 + 1 + 1, upFrom (n + 1 + 1 + 1 + 1 + 1 + 1) (l.getD i tInstZ).2.2.2.2.2.2.1.length, (l.getD i tInstZ).2.2.2.2.2.2.2), by omega, by omega, ⟨_, hlen, h0, rfl, by omega, rfl, rfl, rfl, rfl, rfl, rfl, rfl⟩, fun r hr => Ev.sc ?_⟩
  show Ev (fun k => U179.l0_ k (U179.l0 k) n _ l) _
  unfold U179.l0_
  simp only [updAt_length, head_in hi, head_0, Bool.and_self, cond_true, Int.toNat_natCast, wrap_nat (show i < 9223372036854775807 by omega), wrap_id (x := n + 1) (by omega) (by omega), wrap_id (x := n + 1 + 1) (by omega) (by omega), wrap_id (x := n + 1 + 1 + 1) (by omega) (by omega), wrap_id (x := n + 1 + 1 + 1 + 1) (by omega) (by omega), wrap_id (x := n + 1 + 1 + 1 + 1 + 1) (by omega) (by omega), wrap_id (x := n + 1 + 1 + 1 + 1 + 1 + 1) (by omega) (by omega), updAt_twice hi, updAt_at _ _ _ _ hi]
  exact Ev.bind (markInts _ (n + 1 + 1 + 1 + 1 + 1 + 1) hlen (by omega) (by omega)) hr
theorem markBlocksW (l : List tBlockD) (hs : Small (.list tBlock) l) (n : Int) (h0 : 0 ≤ n) (hM : n + sumB wK l ≤ 100000000) : ∃ n' m, Ev (fun k => U180.f k n l) (mkr n' m) ∧ Chain MB n m n' ∧ n ≤ n' ∧ n' ≤ n + sumB wK l ∧ m.length ≤ 1048576 := by
 refine mark_allw (z := tBlockZ) wK_0 (small := Small tBlock) (L := U180.l0) (M := 100000000) (fun l n k => ?_) (fun l i n hi hl hx h0 hM => ?_) l n hs.1 hs.2 h0 hM
 ·show U180.l0_ k (U180.l0 k) n _ l = _
  unfold U180.l0_
  rw [head_end]; rfl
 ·have z1 := sumB_nonneg (w := wP) (l := (l.getD i tBlockZ).1) fun p _ => wP_0 p
  have z2 := sumB_nonneg (w := wI) (l := (l.getD i tBlockZ).2.1) fun p _ => wI_0 p
  unfold wK at hM ⊢
  obtain ⟨n1, p1, e1, q1, a1, b1, c1⟩ := markPhisW (l.getD i tBlockZ).1 hx.1 n h0 (by omega)
  obtain ⟨n2, p2, e2, q2, a2, b2, c2⟩ := markInstsW (l.getD i tBlockZ).2.1 hx.2.1 n1 (by omega) (by omega)
  refine ⟨n2 + 1 + 1 + 1 + 1, (p1, p2, n2, n2 + 1, n2 + 1 + 1, n2 + 1 + 1 + 1, (l.getD i tBlockZ).2.2.2.2.2.2), by omega, by omega, ⟨n1, n2, c1, c2, q1, q2, by omega, by omega, rfl, by omega, rfl, rfl, rfl, rfl⟩, fun r hr => Ev.sc ?_⟩
  show Ev (fun k => U180.l0_ k (U180.l0 k) n _ l) _
  unfold U180.l0_
  simp only [updAt_length, head_in hi, head_0, Bool.and_self, cond_true, Int.toNat_natCast, wrap_nat (show i < 9223372036854775807 by omega), updAt_twice hi, updAt_at _ _ _ _ hi]
  refine Ev.bind e1 (Ev.bind e2 ?_)
  simp only [mkr, wrap_id (x := n2 + 1) (by omega) (by omega), wrap_id (x := n2 + 1 + 1) (by omega) (by omega), wrap_id (x := n2 + 1 + 1 + 1) (by omega) (by omega), wrap_id (x := n2 + 1 + 1 + 1 + 1) (by omega) (by omega)]
  exact hr
def MF (n : Int) (x : tFuncD) (n' : Int) : Prop := ∃ d : Nat, d ≤ 1048576 ∧ 0 ≤ n ∧ n ≤ 100000000 ∧ x.1 = upFrom n d ∧ x.2.1 = n + (d : Int) ∧ x.2.2.1.length ≤ 1048576 ∧ Chain MB (n + (d : Int) + 1) x.2.2.1 n' ∧ 0 ≤ n'
theorem markFuncsW (l : List tFuncD) (hs : Small (.list tFunc) l) (n : Int) (h0 : 0 ≤ n) (hM : n + sumB wF l ≤ 100000000) : ∃ n' m, Ev (fun k => U181.f k n l) (mkr n' m) ∧ Chain MF n m n' ∧ n ≤ n' ∧ n' ≤ n + sumB wF l ∧ m.length ≤ 1048576 := by
 refine mark_allw (z := tFuncZ) wF_0 (small := Small tFunc) (L := U181.l0) (M := 100000000) (fun l n k => ?_) (fun l i n hi hl hx h0 hM => ?_) l n hs.1 hs.2 h0 hM
 ·show U181.l0_ k (U181.l0 k) n _ l = _
  unfold U181.l0_
  rw [head_end]; rfl
 ·have hlen : (l.getD i tFuncZ).1.length ≤ 1048576 := hx.1.1
  have z1 := sumB_nonneg (w := wK) (l := (l.getD i tFuncZ).2.2.1) fun p _ => wK_0 p
  unfold wF at hM ⊢
  obtain ⟨n2, p2, e2, q2, a2, b2, c2⟩ := markBlocksW (l.getD i tFuncZ).2.2.1 hx.2.2.1 (n + ((l.getD i tFuncZ).1.length : Int) + 1) (by omega) (by omega)
  refine ⟨n2, (upFrom n (l.getD i tFuncZ).1.length, n + ((l.getD i tFuncZ).1.length : Int), p2, (l.getD i tFuncZ).2.2.2), by omega, by omega, ⟨_, hlen, h0, by omega, rfl, rfl, c2, q2, by omega⟩, fun r hr => Ev.sc ?_⟩
  show Ev (fun k => U181.l0_ k (U181.l0 k) n _ l) _
  unfold U181.l0_
  simp only [updAt_length, head_in hi, head_0, Bool.and_self, cond_true, Int.toNat_natCast, wrap_nat (show i < 9223372036854775807 by omega), updAt_twice hi, updAt_at _ _ _ _ hi]
  refine Ev.bind (markInts _ n hlen (by omega) (by omega)) ?_
  simp only [mkr, wrap_id (x := n + ((l.getD i tFuncZ).1.length : Int) + 1) (by omega) (by omega)]
  exact Ev.bind e2 hr
theorem heldFuncsW (l : List tFuncD) (n n' : Int) (hl : l.length ≤ 1048576) (hc : Chain MF n l n') : Ev (fun k => U187.f k l n) (one n') := by
 refine held_all (z := tFuncZ) (P := MF) (H := U187.l0) (fun l n k => ?_) (fun l i n n1 hi hl hp r hr => Ev.sc ?_) l n n' hl hc
 ·show U187.l0_ k (U187.l0 k) l n _ = _
  unfold U187.l0_
  rw [head_end]; rfl
 ·obtain ⟨d, hd, h0, hM, e1, e2, hb, hc, hn1⟩ := hp
  show Ev (fun k => U187.l0_ k (U187.l0 k) l n _) _
  unfold U187.l0_
  simp only [head_in hi, head_0, Bool.and_self, cond_true, Int.toNat_natCast, wrap_nat (show i < 9223372036854775807 by omega), e1]
  refine Ev.bind (heldInts n d hd (by omega) (by omega)) (Ev.dn (show ¬ n + (d : Int) < 0 by omega) (Ev.sk e2 ?_))
  simp only [wrap_id (x := n + (d : Int) + 1) (by omega) (by omega)]
  exact Ev.bind (heldBlocks _ _ n1 hb hc) (Ev.dn (show ¬ n1 < 0 by omega) hr)
/-- What is laid over a module is read back. -/
theorem markHeldM {l : List tFuncD} (hs : Small (.list tFunc) l) (hw : sumB wF l ≤ 10000000) : ∃ n' l', Ev (fun k => U182.f k 1 l) (mkr n' l') ∧ 0 ≤ n' ∧ Ev (fun k => U188.f k (l', ()) 1) (one n') := by
 obtain ⟨n2, m, e2, q2, a2, b2, c2⟩ := markFuncsW l hs 1 (by omega) (by omega)
 exact ⟨n2, m, Ev.bind e2 (Ev.cst rfl), by omega, Ev.bind (heldFuncsW m _ n2 c2 q2) (Ev.dn (show ¬ n2 < 0 by omega) (Ev.cst rfl))⟩
theorem sumB_map {α β : Type} (w : β → Int) (g : α → β) : ∀ l : List α, sumB w (l.map g) = sumB (fun x => w (g x)) l
 | [] => rfl
 | x :: l => by simp only [List.map_cons, sumB, sumB_map w g l]
theorem sumB_mono {α : Type} {w v : α → Int} : ∀ {l : List α}, (∀ x ∈ l, w x ≤ v x) → sumB w l ≤ sumB v l
 | [], _ => Int.le_refl _
 | x :: l, h => by
  have a := h x (by simp)
  have b := sumB_mono (l := l) fun y hy => h y (by simp [hy])
  simp only [sumB]; omega
theorem turnM_w {m : tModuleD} {g : tFuncD → tFuncD} (hw : sumB wF m.1 ≤ 10000000) (hg : ∀ f, wF (g f) ≤ wF f) : sumB wF (turnM g m) ≤ 10000000 := by
 unfold turnM
 cases okM m
 ·show (0 : Int) ≤ _; omega
 ·show sumB wF (m.1.map g) ≤ _
  rw [sumB_map]
  exact Int.le_trans (sumB_mono fun f _ => hg f) hw
section
variable {m : tModuleD} {f : tFuncD}
theorem setF_w (f : tFuncD) (b : Nat) (l : List tInstD) (h : sumB wI l ≤ sumB wI (f.2.2.1.getD b tBlockZ).2.1) : wF (setF f b l) ≤ wF f := by
 have h3 : sumB wK (f.2.2.1.set b ((f.2.2.1.getD b tBlockZ).1, l, (f.2.2.1.getD b tBlockZ).2.2)) ≤ sumB wK f.2.2.1 := by
  refine sumB_set_le wK _ b _ fun hb => ?_
  rw [getD_at _ _ _ hb] at h ⊢
  show sumB wP f.2.2.1[b].1 + sumB wI l + 4 ≤ sumB wP f.2.2.1[b].1 + sumB wI f.2.2.1[b].2.1 + 4
  omega
 show (f.1.length : Int) + 1 + sumB wK (f.2.2.1.set b _) ≤ (f.1.length : Int) + 1 + sumB wK f.2.2.1
 omega
theorem insF_w (f : tFuncD) (b : Nat) : ∀ n, sumB wI (insF f b n) ≤ sumB wI (f.2.2.1.getD b tBlockZ).2.1
 | 0 => Int.le_refl _
 | n + 1 => by
  refine Int.le_trans (sumB_set_le wI (insF f b n) n _ fun hn => ?_) (insF_w f b n)
  have := foldF_args (setF f b (insF f b n)) ((insF f b n).getD n tInstZ)
  rw [getD_at _ _ _ hn] at this ⊢
  show 6 + ((foldF (setF f b (insF f b n)) (insF f b n)[n]).2.2.2.2.2.2.1.length : Int) ≤ 6 + ((insF f b n)[n].2.2.2.2.2.2.1.length : Int)
  omega
theorem funF_w (f : tFuncD) : ∀ n, wF (funF f n) ≤ wF f
 | 0 => Int.le_refl _
 | n + 1 => Int.le_trans (setF_w (funF f n) n _ (insF_w (funF f n) n _)) (funF_w f n)
theorem foldFn_w (f : tFuncD) : wF (foldFn f) ≤ wF f := funF_w f _
theorem turnM_smallF {g : tFuncD → tFuncD} (hs : Small tModule m) (hg : okM m = true → ∀ f ∈ m.1, Small tFunc (g f)) : Small (.list tFunc) (turnM g m) := by
 unfold turnM
 cases h : okM m
 ·exact ⟨by show (0 : Nat) ≤ _; omega, fun _ h => by cases h⟩
 ·refine ⟨by show (m.1.map g).length ≤ _; rw [List.length_map]; exact hs.1.1, fun x hx => ?_⟩
  obtain ⟨f, hf, rfl⟩ := List.mem_map.1 (show x ∈ m.1.map g from hx)
  exact hg h f hf
theorem foldM_small (hs : Small tModule m) : Small (.list tFunc) (turnM foldFn m) := turnM_smallF hs fun h f hf => (funF_fm (okM_fm h f hf) _ (Nat.le_refl _)).small
theorem len_capF {α : Type} {l : List α} {x : α} {b : Nat} (hb : b ≤ 100) (h : l.length ≤ 1048576) : (List.length l + List.length [x]) * b ≤ 140737488355328 := by
 have h1 : List.length l + List.length [x] ≤ 1048577 := by simp only [List.length_cons, List.length_nil]; omega
 exact Nat.le_trans (Nat.mul_le_mul h1 hb) (by decide)
theorem specFo (hs : Small tModule m) : Ev (fun k => U68.f k m) (mR (okM m) (turnM foldFn m)) := by
 have hl : m.1.length ≤ 1048576 := hs.1.1
 unfold U68.f turnM
 refine Ev.bind (specM (m := (m.1, ())) hs) ?_
 cases hok : okM m with
 | false => exact Ev.pos (by show (!okM m) = true; rw [hok]; rfl) (Ev.cst rfl)
 | true =>
  refine Ev.neg (by show (!okM m) = false; rw [hok]; rfl) ?_
  refine st_loop (n0 := m.1.length) (L := fun k a s => U68.l0 k a m.1 [] s) (T := fun k s => some (mR true s)) (fun i => (m.1.take i).map foldFn) (fun r e => Ev.sk1 ?_) (fun i r hlt e => Ev.sk1 ?_) ?_
  ·show Ev (fun k => U68.l0_ k (U68.l0 k) _ _ _ _) _
   simp only [U68.l0_, head_end, cond_false]
   exact e
  ·show Ev (fun k => U68.l0_ k (U68.l0 k) _ _ _ _) _
   have hmem := List.getElem_mem hlt
   have hfm := okM_fm hok _ hmem
   simp only [U68.l0_, head_in hlt, head_0, Bool.and_self, cond_true, Int.toNat_natCast, getD_at _ _ _ hlt, wrap_nat (show i < 9223372036854775807 by omega)]
   refine Ev.bind (specFoldFn hfm) (Ev.dp (len_capF (by decide) (by rw [List.length_map, List.length_take]; omega)) ?_)
   have e1 : ((m.1[i].1, m.1[i].2.1, (foldFn m.1[i]).2.2.1, ()) : tFuncD) = foldFn m.1[i] := by
    have a := (funF_12 m.1[i] m.1[i].2.2.1.length).1
    have b := (funF_12 m.1[i] m.1[i].2.2.1.length).2
    rw [← a, ← b]; rfl
   simp only [← take_push hlt, List.map_append] at e
   show Ev (fun k => U68.l0 k ((i + 1 : Nat) : Int) m.1 [] ((m.1.take i).map foldFn ++ [((m.1[i].1, m.1[i].2.1, (foldFn m.1[i]).2.2.1, ()) : tFuncD)])) r
   rw [e1]
   exact e
  ·simp only [List.take_length]
   exact Ev.cst rfl
theorem implFo (hs : Small tModule m) : Ev (fun k => U165.f k m) (mR (okM m) (turnM foldFn m)) :=
 Ev.bind (implTurned hs fun hok f hf => implFoldFn (okM_fm hok _ hf)) (Ev.cst rfl)
end
theorem PureFnExactFolded : ∀ (a0 : tModuleD), Wf tModule a0 → ∃ k, laws_FnExactFolded.f k a0 = some (((true, ()), ()), ()) := by
 intro a hw
 refine Ev.ex (g := fun k => laws_FnExactFolded.f k a) ?_
 unfold laws_FnExactFolded.f
 refine law_frameW hw fun h hww => ?_
 have ho : Small (.list tFunc) (turnM foldFn a) := foldM_small h
 have hg : Small tModule (turnM foldFn a, ()) := ⟨ho, trivial⟩
 obtain ⟨n1, p1, em, hn1, _⟩ := markHeldM h.1 hww
 obtain ⟨n2, p2, em2, hn2, eh⟩ := markHeldM ho (turnM_w hww foldFn_w)
 have heq : (!decide (n2 = n2)) = false := by simp
 have hb : (!(okM a == okM a)) = false := by simp
 refine Ev.bind (toModule h) (Ev.bind (specFo h) (Ev.bind (toModule h) (Ev.bind (implFo h) (Ev.yes (eqModule hg) (Ev.neg hb (Ev.bind (toModule h) (Ev.yes (eqModule h) (Ev.bind em ?_))))))))
 refine Ev.dn (show ¬ n1 < 0 by omega) (Ev.yes (eqModule hg) (Ev.neg hb (Ev.bind em2 (Ev.bind eh (Ev.dn (show ¬ n2 < 0 by omega) (Ev.neg heq ?_))))))
 exact Ev.bind (toModule h) (Ev.bind (implFo h) (Ev.yes (eqModule hg) (Ev.neg hb (Ev.bind eh (Ev.dn (show ¬ n2 < 0 by omega) (Ev.neg heq (Ev.cst rfl)))))))
end
end Go.Proofs.YtbkpngmpdnnloaaGreat.V
