/- PROVED HERE: what the functions that the law FnExactShared reaches do in memory, each as a plain Lean function, and what these tell: part 6 of 7 of the proof of that law; no condition beyond those written out at each theorem. -/
import Derived.Test.YtbkpngmpdnnloaaGreatDoorZFnExactShared2
import Derived.Test.YtbkpngmpdnnloaaGreatDoorZFnExactShared3
import Derived.Test.YtbkpngmpdnnloaaGreatDoorZFnExactShared4
namespace Go.Proofs.YtbkpngmpdnnloaaGreatDoor.V
open Go
set_option linter.unusedVariables false
set_option linter.unusedSimpArgs false
noncomputable section
section
variable {funcs : Int} {f : tFuncD}
abbrev liveS (f : tFuncD) : List Int := idx (reachB f.2.2.1 (-1)) 0
theorem specDone (hs : Small tFunc f) {live ps : List Int} {id b n i d ret : Int} {key : ByteArray} {bs : List tBlockD} {r : U61.R} (e : Ev (fun k => U61.l1 k live (IntKind.wrap .i64 (id + 1)) b n (IntKind.wrap .i64 (i + 1)) f 0 [] [] ret ps bs) r) :
  Ev (fun k => U61.l2 k live id b n i key true d f 0 [] [] ret ps bs) r := by
 refine Ev.sk1 ?_
 show Ev (fun k => U61.l2_ k (U61.l0 k) (U61.l1 k) (U61.l2 k) _ _ _ _ _ _ _ _ _ _ _ _ _ _ _) _
 unfold U61.l2_
 refine Ev.bind (specCount hs) ?_
 by_cases c : d < cntB f
 ·exact Ev.dp c (Ev.neg rfl e)
 ·exact Ev.dn c e
theorem specTgt (hs : Small tFunc f) (hf : Fm funcs f) (hm : funcs ≤ 3) {live ps : List Int} {b n i : Nat} {ret : Int} {key : ByteArray} {bs : List tBlockD} (hb : b < f.2.2.1.length) (hL : Like f bs) (hi : i < (blk f b).2.1.length) (hn : n ≤ 100) {r : U61.R} :
  ∀ (m : Nat) (d : Int), 0 ≤ d → d + m = cntB f → (e : Ev (fun k => U61.l1 k live (IntKind.wrap .i64 (firstB f b + ((n : Int) + (i : Int)) + 1)) (b : Int) (n : Int) (IntKind.wrap .i64 ((i : Int) + 1)) f 0 [] [] ret ps (updB bs b i (widthI ((blk f b).2.1.getD i tInstZ)) (fndL f (firstB f b + ((n : Int) + (i : Int))) (b : Int) ((n : Int) + (i : Int)) key m d))) r) →
  Ev (fun k => U61.l2 k live (firstB f b + ((n : Int) + (i : Int))) (b : Int) (n : Int) (i : Int) key false d f 0 [] [] ret ps bs) r := by
 have h60 := hf.cnt
 have hbl : b < bs.length := by rw [hL.1]; exact hb
 have hil : i < (bs.getD b tBlockZ).2.1.length := by rw [hL.2 b]; exact hi
 have hi60 : i < 100 := by
  have : (blk f b).2.1.length ≤ 60 := by rw [show blk f b = f.2.2.1[b] from getD_at _ _ _ hb]; exact (hf.phis (List.getElem_mem hb)).2
  omega
 intro m
 induction m with
 | zero =>
  intro d h0 hd e
  refine Ev.sk1 ?_
  show Ev (fun k => U61.l2_ k (U61.l0 k) (U61.l1 k) (U61.l2 k) _ _ _ _ _ _ _ _ _ _ _ _ _ _ _) _
  unfold U61.l2_
  exact Ev.bind (specCount hs) (Ev.dn (by show ¬ d < cntB f; omega) e)
 | succ m ih =>
  intro d h0 hd e
  have v : vid f d := ⟨h0, by omega⟩
  have hr := ih (d + 1) (by omega) (by omega)
  refine Ev.sk1 ?_
  show Ev (fun k => U61.l2_ k (U61.l0 k) (U61.l1 k) (U61.l2 k) _ _ _ _ _ _ _ _ _ _ _ _ _ _ _) _
  unfold U61.l2_
  have e' : Ev (fun k => U61.l1 k live (IntKind.wrap .i64 (firstB f b + ((n : Int) + (i : Int)) + 1)) (b : Int) (n : Int) (IntKind.wrap .i64 ((i : Int) + 1)) f 0 [] [] ret ps (updB bs b i (widthI ((blk f b).2.1.getD i tInstZ)) (bif mtB f (firstB f b + ((n : Int) + (i : Int))) (b : Int) ((n : Int) + (i : Int)) key d then some d else fndL f (firstB f b + ((n : Int) + (i : Int))) (b : Int) ((n : Int) + (i : Int)) key m (d + 1)))) r := e
  unfold mtB at e'
  rw [wrap_id (x := d + 1) (by omega) (by omega), wrap_id (x := (n : Int) + (i : Int)) (by omega) (by omega)]
  refine Ev.bind (specCount hs) (Ev.dp (by show d < cntB f; omega) (Ev.pos rfl (Ev.bind (specKeyL hf hm (by omega)) ?_)))
  by_cases c : d = firstB f b + ((n : Int) + (i : Int))
  ·rw [dpos c] at e' ⊢
   exact Ev.neg rfl (hr e')
  ·rw [dneg c] at e' ⊢
   refine Ev.pos rfl ?_
   cases hq : keyQ f d with
   | false => rw [hq] at e'; exact Ev.neg rfl (hr e')
   | true =>
    rw [hq] at e'
    refine Ev.pos rfl ?_
    show Ev (fun k => bif strEq (keyS f d) key then _ else _) _
    cases he : strEq (keyS f d) key with
    | false => rw [he] at e'; exact Ev.neg rfl (hr e')
    | true =>
     rw [he] at e'
     refine Ev.pos rfl (Ev.bind (specSees hf v (by omega) _) ?_)
     cases hse : seesB f d (b : Int) ((n : Int) + (i : Int)) with
     | false => rw [hse] at e'; exact Ev.neg rfl (hr e')
     | true =>
      rw [hse] at e'
      have e2 := specDone (key := key) (d := d + 1) hs e'
      simp only [Int.toNat_natCast]
      exact Ev.pos rfl (Ev.dd (by omega) (by omega) (Ev.dd (by omega) (by omega) (Ev.dp trivial (Ev.dd (by omega) (by omega) (Ev.dd (by omega) (show (i : Int) < (((blk f b).2.1.length : Nat) : Int) by omega) (Ev.bind (Ev.all fun k => specWidth k _) (Ev.bind (Ev.all fun k => specCpy k _ _) (Ev.dd (by omega) (by omega) e2))))))))
theorem specShI (hs : Small tFunc f) (hf : Fm funcs f) (hm : funcs ≤ 3) {b : Nat} (hb : b < f.2.2.1.length) {bs : List tBlockD} (hL : Like f bs) {r : U61.R} (e : Ev (fun k => U61.l0 k (liveS f) (firstB f (b + 1)) ((b + 1 : Nat) : Int) f 0 [] [] f.2.1 f.1 (inS f b bs (blk f b).2.1.length)) r) :
  ∀ d j, j + d = (blk f b).2.1.length → Ev (fun k => U61.l1 k (liveS f) (firstB f b + (((blk f b).1.length : Int) + (j : Int))) (b : Int) (((blk f b).1.length : Nat) : Int) (j : Int) f 0 [] [] f.2.1 f.1 (inS f b bs j)) r := by
 have hb10 := hf.b10
 have h60 := hf.cnt
 have hw : (blk f b).1.length ≤ 60 ∧ (blk f b).2.1.length ≤ 60 := by rw [show blk f b = f.2.2.1[b] from getD_at _ _ _ hb]; exact hf.phis (List.getElem_mem hb)
 have hfl := first_lt hb
 have hge := first_ge f b
 unfold wB at hfl
 intro d
 induction d with
 | zero =>
  intro j hj
  obtain rfl : j = (blk f b).2.1.length := by omega
  refine Ev.sk1 ?_
  show Ev (fun k => U61.l1_ k (U61.l0 k) (U61.l1 k) (U61.l2 k) _ _ _ _ _ _ _ _ _ _ _ _) _
  unfold U61.l1_
  have hx := first_next hb
  unfold wB at hx
  rw [hx, wrap_nat (show b < 9223372036854775807 by omega)]
  exact Ev.dd (by omega) (by omega) (Ev.dn (by show ¬ (((blk f b).2.1.length : Nat) : Int) < (((blk f b).2.1.length : Nat) : Int); omega) e)
 | succ d ih =>
  intro j hj
  have hjl : j < (blk f b).2.1.length := by omega
  have hr := ih (j + 1) (by omega)
  have hLj := hL.ins b j
  have hid : IntKind.wrap .i64 (firstB f b + (((blk f b).1.length : Int) + (j : Int)) + 1) = firstB f b + (((blk f b).1.length : Int) + ((j + 1 : Nat) : Int)) := by rw [wrap_id (by omega) (by omega)]; omega
  have hjw : IntKind.wrap .i64 ((j : Int) + 1) = ((j + 1 : Nat) : Int) := wrap_nat (by omega)
  rw [← hid, ← hjw] at hr
  have hr' : Ev (fun k => U61.l1 k (liveS f) (IntKind.wrap .i64 (firstB f b + (((blk f b).1.length : Int) + (j : Int)) + 1)) (b : Int) (((blk f b).1.length : Nat) : Int) (IntKind.wrap .i64 ((j : Int) + 1)) f 0 [] [] f.2.1 f.1 (updB (inS f b bs j) b j (widthI ((blk f b).2.1.getD j tInstZ)) (tgt f b (((blk f b).1.length : Int) + (j : Int))))) r := hr
  unfold tgt at hr'
  refine Ev.sk1 ?_
  show Ev (fun k => U61.l1_ k (U61.l0 k) (U61.l1 k) (U61.l2 k) _ _ _ _ _ _ _ _ _ _ _ _) _
  unfold U61.l1_
  refine Ev.dd (by omega) (by omega) (Ev.dp (by show (j : Int) < (((blk f b).2.1.length : Nat) : Int); omega) (Ev.bind (specKeyL hf hm (by omega)) ?_))
  cases hq : keyQ f (firstB f b + (((blk f b).1.length : Int) + (j : Int))) with
  | false => rw [hq] at hr'; exact Ev.pos rfl (specDone hs hr')
  | true =>
   rw [hq] at hr'
   have hmk : decide ((b : Int) ∈ liveS f) = markB f (b : Int) := mark_iff (by omega)
   refine Ev.neg rfl (Ev.bind (has_ev (liveS f) (b : Int) (reach_few hb10 (-1))) ?_)
   rw [hmk]
   cases hmb : markB f (b : Int) with
   | false => rw [hmb] at hr'; exact specDone hs hr'
   | true =>
    rw [hmb] at hr'
    have hc := cnt_ge f
    exact specTgt hs hf hm hb hLj hjl (by omega) _ _ (by omega) (by omega) hr'
theorem specShB (hs : Small tFunc f) (hf : Fm funcs f) (hm : funcs ≤ 3) : ∀ d b, b + d = f.2.2.1.length → Ev (fun k => U61.l0 k (liveS f) (firstB f b) (b : Int) f 0 [] [] f.2.1 f.1 (ouS f b)) ((((), f.2.1, (), ()), ()), (f.1, ouS f f.2.2.1.length, ())) := by
 have hb10 := hf.b10
 have h60 := hf.cnt
 intro d
 induction d with
 | zero =>
  intro b hb
  obtain rfl : b = f.2.2.1.length := by omega
  refine Ev.sk1 ?_
  show Ev (fun k => U61.l0_ k (U61.l0 k) (U61.l1 k) (U61.l2 k) _ _ _ _ _ _ _ _ _ _) _
  unfold U61.l0_
  exact Ev.dn (by omega) (Ev.cst rfl)
 | succ d ih =>
  intro b hb
  have hlt : b < f.2.2.1.length := by omega
  have hw : (blk f b).1.length ≤ 60 ∧ (blk f b).2.1.length ≤ 60 := by rw [show blk f b = f.2.2.1[b] from getD_at _ _ _ hlt]; exact hf.phis (List.getElem_mem hlt)
  have hfl := first_lt hlt
  have hge := first_ge f b
  unfold wB at hfl
  refine Ev.sk1 ?_
  show Ev (fun k => U61.l0_ k (U61.l0 k) (U61.l1 k) (U61.l2 k) _ _ _ _ _ _ _ _ _ _) _
  unfold U61.l0_
  refine Ev.dp (by omega) (Ev.dd (by omega) (by omega) ?_)
  have h := specShI hs hf hm hlt (Like.ous f b) (ih (b + 1) (by omega)) _ 0 (Nat.zero_add _)
  rw [show firstB f b + (((blk f b).1.length : Int) + ((0 : Nat) : Int)) = IntKind.wrap .i64 (firstB f b + (((blk f b).1.length : Nat) : Int)) by rw [wrap_id (by omega) (by omega)]; omega] at h
  exact h
theorem first_0 (f : tFuncD) : firstB f 0 = (f.1.length : Int) := by
 unfold firstB
 rw [List.take_zero]
 show (f.1.length : Int) + 0 = _
 omega
theorem specShareFn (hf : Fm funcs f) (hm : funcs ≤ 3) : Ev (fun k => U61.f k f) ((((), f.2.1, (), ()), ()), (f.1, (shareFn f).2.2.1, ())) := by
 unfold U61.f
 refine Ev.bind (specCopyFunc hf.small) (Ev.bind (specReach_ev f (-1) hf.there (by have := hf.b1; omega)) ?_)
 have h := specShB hf.small hf hm _ 0 (Nat.zero_add _)
 rw [first_0] at h
 exact h
theorem implShI (hs : Small tFunc f) (hf : Fm funcs f) (hm : funcs ≤ 3) {b : Nat} (hb : b < f.2.2.1.length) {bs : List tBlockD} (hL : Like f bs) {n : Int} {r : U149.R} (e : Ev (fun k => U149.l0 k n ((b + 1 : Nat) : Int) f 0 [] [] f.2.1 f.1 (inS f b bs (blk f b).2.1.length) (reachB f.2.2.1 (-1))) r) :
  ∀ d j, j + d = (blk f b).2.1.length → Ev (fun k => U149.l1 k (b : Int) (firstB f b + (((blk f b).1.length : Int) + (j : Int))) n (b : Int) (blk f b).2.1 (((blk f b).2.1.length : Nat) : Int) (j : Int) f 0 [] [] f.2.1 f.1 (inS f b bs j) (reachB f.2.2.1 (-1))) r := by
 have hb10 := hf.b10
 have h60 := hf.cnt
 have hw : (blk f b).1.length ≤ 60 ∧ (blk f b).2.1.length ≤ 60 := by rw [show blk f b = f.2.2.1[b] from getD_at _ _ _ hb]; exact hf.phis (List.getElem_mem hb)
 have hfl := first_lt hb
 have hge := first_ge f b
 unfold wB at hfl
 intro d
 induction d with
 | zero =>
  intro j hj
  obtain rfl : j = (blk f b).2.1.length := by omega
  refine Ev.sk1 ?_
  show Ev (fun k => U149.l1_ k (U149.l0 k) (U149.l1 k) _ _ _ _ _ _ _ _ _ _ _ _ _ _ _) _
  unfold U149.l1_
  rw [wrap_nat (show b < 9223372036854775807 by omega)]
  exact Ev.dn (by omega) e
 | succ d ih =>
  intro j hj
  have hjl : j < (blk f b).2.1.length := by omega
  have hr := ih (j + 1) (by omega)
  have hLj := hL.ins b j
  have hbl : b < (inS f b bs j).length := by rw [hLj.1]; exact hb
  have hil : j < ((inS f b bs j).getD b tBlockZ).2.1.length := by rw [hLj.2 b]; exact hjl
  have hid : IntKind.wrap .i64 (firstB f b + (((blk f b).1.length : Int) + (j : Int)) + 1) = firstB f b + (((blk f b).1.length : Int) + ((j + 1 : Nat) : Int)) := by rw [wrap_id (by omega) (by omega)]; omega
  have hjw : IntKind.wrap .i64 ((j : Int) + 1) = ((j + 1 : Nat) : Int) := wrap_nat (by omega)
  rw [← hid, ← hjw] at hr
  have hr' : Ev (fun k => U149.l1 k (b : Int) (IntKind.wrap .i64 (firstB f b + (((blk f b).1.length : Int) + (j : Int)) + 1)) n (b : Int) (blk f b).2.1 (((blk f b).2.1.length : Nat) : Int) (IntKind.wrap .i64 ((j : Int) + 1)) f 0 [] [] f.2.1 f.1 (updB (inS f b bs j) b j (widthI ((blk f b).2.1.getD j tInstZ)) (tgt f b (((blk f b).1.length : Int) + (j : Int)))) (reachB f.2.2.1 (-1))) r := hr
  unfold tgt at hr'
  refine Ev.sk1 ?_
  show Ev (fun k => U149.l1_ k (U149.l0 k) (U149.l1 k) _ _ _ _ _ _ _ _ _ _ _ _ _ _ _) _
  unfold U149.l1_
  simp only [Int.toNat_natCast, set_blk hbl]
  refine Ev.dp (by omega) (Ev.dd (by omega) (by omega) (Ev.dd (by omega) (by omega) (Ev.bind (implKeyL hs hf hm) ?_)))
  cases hq : keyQ f (firstB f b + (((blk f b).1.length : Int) + (j : Int))) with
  | false => rw [hq] at hr'; exact Ev.neg rfl hr'
  | true =>
   rw [hq] at hr'
   refine Ev.pos rfl (Ev.dd (by omega) (by rw [reachB_length]; omega) ?_)
   show Ev (fun k => bif markB f (b : Int) then _ else _) _
   cases hmb : markB f (b : Int) with
   | false => rw [hmb] at hr'; exact Ev.neg rfl hr'
   | true =>
    rw [hmb] at hr'
    refine Ev.pos rfl (Ev.bind (implTwin hs hf hm hb _) ?_)
    have hr2 : Ev (fun k => U149.l1 k (b : Int) (IntKind.wrap .i64 (firstB f b + (((blk f b).1.length : Int) + (j : Int)) + 1)) n (b : Int) (blk f b).2.1 (((blk f b).2.1.length : Nat) : Int) (IntKind.wrap .i64 ((j : Int) + 1)) f 0 [] [] f.2.1 f.1 (updB (inS f b bs j) b j (widthI ((blk f b).2.1.getD j tInstZ)) (fndL f (firstB f b + (((blk f b).1.length : Int) + (j : Int))) (b : Int) (((blk f b).1.length : Int) + (j : Int)) (keyS f (firstB f b + (((blk f b).1.length : Int) + (j : Int)))) (cntB f - (f.1.length : Int)).toNat (f.1.length : Int))) (reachB f.2.2.1 (-1))) r := hr'
    generalize hfl' : fndL f (firstB f b + (((blk f b).1.length : Int) + (j : Int))) (b : Int) (((blk f b).1.length : Int) + (j : Int)) (keyS f (firstB f b + (((blk f b).1.length : Int) + (j : Int)))) (cntB f - (f.1.length : Int)).toNat (f.1.length : Int) = t at hr2 ⊢
    cases t with
    | none => exact Ev.dn (by decide) hr2
    | some e' =>
     have hin := fnd_in hfl'
     have hinst := instB_void (inst_in hf hb hjl)
     exact Ev.dp (by show 0 ≤ e'; omega) (Ev.dd (by omega) (by omega) (Ev.dp trivial (Ev.bind (Ev.all fun k => implCpy k hinst _) (Ev.dd (by omega) (by omega) hr2))))
theorem implShB (hs : Small tFunc f) (hf : Fm funcs f) (hm : funcs ≤ 3) : ∀ d b, b + d = f.2.2.1.length → Ev (fun k => U149.l0 k ((f.2.2.1.length : Nat) : Int) (b : Int) f 0 [] [] f.2.1 f.1 (ouS f b) (reachB f.2.2.1 (-1))) ((((), f.2.1, (), ()), ()), (f.1, ouS f f.2.2.1.length, ())) := by
 have hb10 := hf.b10
 have h60 := hf.cnt
 intro d
 induction d with
 | zero =>
  intro b hb
  obtain rfl : b = f.2.2.1.length := by omega
  refine Ev.sk1 ?_
  show Ev (fun k => U149.l0_ k (U149.l0 k) (U149.l1 k) _ _ _ _ _ _ _ _ _ _) _
  unfold U149.l0_
  exact Ev.dn (by omega) (Ev.cst rfl)
 | succ d ih =>
  intro b hb
  have hlt : b < f.2.2.1.length := by omega
  have hw : (blk f b).1.length ≤ 60 ∧ (blk f b).2.1.length ≤ 60 := by rw [show blk f b = f.2.2.1[b] from getD_at _ _ _ hlt]; exact hf.phis (List.getElem_mem hlt)
  have hfl := first_lt hlt
  have hge := first_ge f b
  unfold wB at hfl
  refine Ev.sk1 ?_
  show Ev (fun k => U149.l0_ k (U149.l0 k) (U149.l1 k) _ _ _ _ _ _ _ _ _ _) _
  unfold U149.l0_
  refine Ev.dp (by omega) (Ev.bind (implFirst hf hlt) (Ev.dd (by omega) (by omega) (Ev.dd (by omega) (by omega) ?_)))
  have h := implShI hs hf hm hlt (Like.ous f b) (n := ((f.2.2.1.length : Nat) : Int)) (ih (b + 1) (by omega)) _ 0 (Nat.zero_add _)
  rw [show firstB f b + (((blk f b).1.length : Int) + ((0 : Nat) : Int)) = IntKind.wrap .i64 (firstB f b + (((blk f b).1.length : Nat) : Int)) by rw [wrap_id (by omega) (by omega)]; omega] at h
  exact h
theorem implShareFn (hf : Fm funcs f) (hm : funcs ≤ 3) : Ev (fun k => U150.f k f) (fR true (shareFn f)) := by
 unfold U150.f
 refine Ev.bind (a := ((((), f.2.1, (), ()), ()), (f.1, ouS f f.2.2.1.length, ()))) ?_ (Ev.cst rfl)
 unfold U149.f
 exact Ev.bind (implOwnFunc hf.small) (Ev.bind (implReach_ev f (-1) hf.there (by have := hf.b1; omega)) (implShB hf.small hf hm _ 0 (Nat.zero_add _)))
end
/-- A module and whether there is one, as it is returned. -/
abbrev mR (c : Bool) (l : List tFuncD) : (((Unit × Unit) × (Bool × Unit) × Unit) × ((List tFuncD) × Unit)) := ((((), ()), (c, ()), ()), (l, ()))
def okM (m : tModuleD) : Bool := decide (codeM m = 0)
theorem okM_fm {m : tModuleD} (h : okM m = true) : ∀ f ∈ m.1, Fm (m.1.length : Int) f := by
 unfold okM codeM at h
 cases hs : shapeB m with
 | true => exact (shape_fm hs).1
 | false => rw [hs] at h; cases h
def turnM (g : tFuncD → tFuncD) (m : tModuleD) : List tFuncD := bif okM m then m.1.map g else []
theorem len_pushM {α β : Type} {l : List α} {g : α → β} {i : Nat} {x : β} (h : l.length ≤ 1048576) : (List.length ((l.take i).map g) + List.length [x]) * 56 ≤ 140737488355328 := by
 have h1 : List.length ((l.take i).map g) + List.length [x] ≤ 1048577 := by simp only [List.length_map, List.length_take, List.length_cons, List.length_nil]; omega
 exact Nat.le_trans (Nat.mul_le_mul_right 56 h1) (by decide)
section
variable {m : tModuleD} {g : tFuncD → tFuncD}
theorem implTurned (hs : Small tModule m) (hg : okM m = true → ∀ f ∈ m.1, Ev (fun k => U150.f k f) (fR true (g f))) : Ev (fun k => U152.f k m) (mR (okM m) (turnM g m)) := by
 have hl : m.1.length ≤ 1048576 := hs.1.1
 unfold U152.f
 refine Ev.bind (a := mR (okM m) (turnM g m)) ?_ (Ev.cst rfl)
 unfold U151.f
 refine Ev.bind (a := one (okM m)) (Ev.bind (implM (m := (m.1, ())) hs) (Ev.cst rfl)) ?_
 unfold turnM
 cases hok : okM m with
 | false => exact Ev.pos rfl (Ev.cst rfl)
 | true =>
  refine Ev.neg rfl ?_
  refine st_loop (n0 := m.1.length) (L := fun k a s => U151.l0 k m.1 (m.1.length : Int) a [] s) (T := fun k s => some (mR true s)) (fun i => (m.1.take i).map g) (fun r e => Ev.sk1 ?_) (fun i r hlt e => Ev.sk1 ?_) ?_
  ·show Ev (fun k => U151.l0_ k (U151.l0 k) _ _ _ _ _) _
   simp only [U151.l0_, head_end, cond_false]
   exact e
  ·show Ev (fun k => U151.l0_ k (U151.l0 k) _ _ _ _ _) _
   have hmem := List.getElem_mem hlt
   simp only [U151.l0_, head_in hlt, head_0, Bool.and_self, cond_true, Int.toNat_natCast, getD_at _ _ _ hlt, wrap_nat (show i < 9223372036854775807 by omega)]
   refine Ev.bind (implOwnFunc (hs.1.2 _ hmem)) (Ev.bind (hg hok _ hmem) (Ev.neg rfl (Ev.dp (len_pushM hl) ?_)))
   simp only [← take_push hlt, List.map_append] at e
   exact e
  ·simp only [List.take_length]
   exact Ev.cst rfl
end
theorem szFuncS : SzOK (.list tFunc) U8.f := sz_list (z := tFuncZ) szFunc (L := U8.l0) (fun k l a b => rfl) fun k l a => rfl
theorem szModule : SzOK tModule U9.f := by
 intro x hw n h0 h1
 obtain ⟨s, e, a, b, c⟩ := szFuncS _ hw.1 n h0 h1
 exact ⟨_, sz_then (n := n) e, by split <;> omega, by split <;> omega, fun h => ⟨c (by split at h <;> omega), trivial⟩⟩
theorem toFuncS {l : List tFuncD} (h : Small (.list tFunc) l) : Ev (fun k => U19.f k l) (rowR l) :=
 to_list (z := tFuncZ) (L := U19.l0) (q := fun k x h => Option.bind (U18.f k x) fun r1 => h (r1.2.1, r1.1.1.2.1, r1.2.2.1, ())) (b := 56) (R := Unit) (fun k l a b => rfl) (fun k l => rfl) h.1 (by omega) (by omega) fun x hx g r hh => Ev.bind (toFunc (h.2 x hx)) hh
theorem toModule {x : tModuleD} (h : Small tModule x) : Ev (fun k => U20.f k x) ((((), ()), ()), (x.1, ())) := Ev.bind (toFuncS h.1) (Ev.cst rfl)
theorem eqFuncS {l : List tFuncD} (h : Small (.list tFunc) l) : Ev (fun k => U163.f k l l) (one true) :=
 eq_list (z := tFuncZ) (L := U163.l0) (q := fun k x y g => Option.bind (U162.f k x y) fun r1 => bif !r1.1.1.1 then some (((false, ()), ()), ()) else g) (fun k l m a => rfl) (fun k l m => rfl) h.1 fun x hx g r hh => Ev.yes (eqFunc (h.2 x hx)) hh
theorem eqModule {x : tModuleD} (h : Small tModule x) : Ev (fun k => U164.f k x x) (one true) := Ev.yes (eqFuncS h.1) (Ev.cst rfl)
theorem Ev.sc {R : Type} {g : Nat → Option R} {r : R} (h : Ev (fun k => g (k + 1)) r) : Ev g r := Ev.step h fun _ => rfl
theorem updAt_length {α : Type} (z : α) (l : List α) (i : Nat) (f : α → α) : (updAt z l i f).length = l.length := by simp [updAt]
theorem updAt_at {α : Type} (z : α) (l : List α) (i : Nat) (f : α → α) (h : i < l.length) : (updAt z l i f).getD i z = f (l.getD i z) := by
 rw [getD_at _ _ _ (by rw [updAt_length]; exact h)]
 simp [updAt]
theorem updAt_twice {α : Type} {z : α} {l : List α} {i : Nat} (h : i < l.length) (f g : α → α) : updAt z (updAt z l i f) i g = updAt z l i (fun x => g (f x)) := by
 show (updAt z l i f).set i (g ((updAt z l i f).getD i z)) = _
 rw [updAt_at _ _ _ _ h]
 simp [updAt]
abbrev MkR (α : Type) := (((Int × Unit) × Unit) × (α × Unit))
abbrev mkr {α : Type} (n : Int) (l : α) : MkR α := (((n, ()), ()), (l, ()))
/-- The numbers n, n + 1, .. -/
def upFrom : Int → Nat → List Int
 | _, 0 => []
 | n, d + 1 => n :: upFrom (n + 1) d
theorem markInts_l : ∀ (d i : Nat) (pre : List Int) (l : List Int) (n : Int), pre.length = i → l.length = d → i + d ≤ 1048576 → 0 ≤ n → n + (d : Int) ≤ 9223372036854775807 → Ev (fun k => U165.l0 k n (i : Int) (pre ++ l)) (mkr (n + (d : Int)) (pre ++ upFrom n d)) := by
 intro d
 induction d with
 | zero =>
  intro i pre l n hi hl h1 h0 hM
  obtain rfl : l = [] := List.eq_nil_of_length_eq_zero hl
  subst hi
  refine Ev.step (g' := fun _ => some (mkr (n + 0) (pre ++ []))) (Ev.cst rfl) fun k => ?_
  show U165.l0_ k (U165.l0 k) n _ (pre ++ []) = _
  unfold U165.l0_
  simp
 | succ d ih =>
  intro i pre l n hi hl h1 h0 hM
  obtain ⟨x, l, rfl⟩ : ∃ x m, l = x :: m := by
   cases l with
   | nil => simp at hl
   | cons x m => exact ⟨x, m, rfl⟩
  subst hi
  have hlt : pre.length < (pre ++ x :: l).length := by simp
  refine Ev.sc ?_
  show Ev (fun k => U165.l0_ k (U165.l0 k) n _ (pre ++ x :: l)) _
  unfold U165.l0_
  simp only [head_in hlt, head_0, Bool.and_self, cond_true, Int.toNat_natCast, wrap_nat (show pre.length < 9223372036854775807 by omega), wrap_id (x := n + 1) (by omega) (by omega)]
  have e : (pre ++ x :: l).set pre.length n = (pre ++ [n]) ++ l := by simp
  rw [e]
  refine (ih (pre.length + 1) (pre ++ [n]) l (n + 1) (by simp) (by simpa using hl) (by omega) (by omega) (by omega)).rw ?_
  have e1 : n + 1 + (d : Int) = n + ((d + 1 : Nat) : Int) := by omega
  simp [upFrom, e1]
theorem markInts (l : List Int) (n : Int) (hl : l.length ≤ 1048576) (h0 : 0 ≤ n) (hM : n + (l.length : Int) ≤ 9223372036854775807) : Ev (fun k => U165.f k n l) (mkr (n + (l.length : Int)) (upFrom n l.length)) :=
 markInts_l l.length 0 [] l n rfl rfl (by omega) h0 hM
theorem heldInts_l : ∀ (d i : Nat) (pre : List Int) (n : Int), pre.length = i → i + d ≤ 1048576 → 0 ≤ n → n + (d : Int) ≤ 9223372036854775807 → Ev (fun k => U171.l0 k (pre ++ upFrom n d) n (i : Int)) (one (n + (d : Int))) := by
 intro d
 induction d with
 | zero =>
  intro i pre n hi h1 h0 hM
  subst hi
  refine Ev.step (g' := fun _ => some (one (n + 0))) (Ev.cst rfl) fun k => ?_
  show U171.l0_ k (U171.l0 k) (pre ++ []) n _ = _
  unfold U171.l0_
  simp
 | succ d ih =>
  intro i pre n hi h1 h0 hM
  subst hi
  have hlt : pre.length < (pre ++ n :: upFrom (n + 1) d).length := by simp
  refine Ev.sc ?_
  show Ev (fun k => U171.l0_ k (U171.l0 k) (pre ++ n :: upFrom (n + 1) d) n _) _
  unfold U171.l0_
  simp only [head_in hlt, head_0, Bool.and_self, cond_true, get_in hlt, wrap_nat (show pre.length < 9223372036854775807 by omega), wrap_id (x := n + 1) (by omega) (by omega)]
  refine Ev.neg (by simp) ?_
  have e : pre ++ n :: upFrom (n + 1) d = (pre ++ [n]) ++ upFrom (n + 1) d := by simp
  rw [e]
  refine (ih (pre.length + 1) (pre ++ [n]) (n + 1) (by simp) (by omega) (by omega) (by omega)).rw ?_
  have e1 : n + 1 + (d : Int) = n + ((d + 1 : Nat) : Int) := by omega
  rw [e1]
theorem heldInts (n : Int) (d : Nat) (hl : d ≤ 1048576) (h0 : 0 ≤ n) (hM : n + (d : Int) ≤ 9223372036854775807) : Ev (fun k => U171.f k (upFrom n d) n) (one (n + (d : Int))) :=
 heldInts_l d 0 [] n rfl (by omega) h0 hM
/-- The elements that count from a number up to another one. -/
def Chain {α : Type} (P : Int → α → Int → Prop) : Int → List α → Int → Prop
 | n, [], n' => n = n'
 | n, x :: l, n' => ∃ n1, P n x n1 ∧ Chain P n1 l n'
theorem held_ch {α : Type} {z : α} {P : Int → α → Int → Prop} {H : Nat → List α → Int → Int → Option IR}
  (hend : ∀ (l : List α) (n : Int) k, H (k + 1) l n (l.length : Int) = some (one n))
  (hstep : ∀ (l : List α) (i : Nat) (n n' : Int), i < l.length → l.length ≤ 1048576 → P n (l.getD i z) n' → ∀ r, Ev (fun k => H k l n' ((i + 1 : Nat) : Int)) r → Ev (fun k => H k l n (i : Int)) r) :
  ∀ (d i : Nat) (l : List α) (n n' : Int), i + d = l.length → l.length ≤ 1048576 → Chain P n (l.drop i) n' → Ev (fun k => H k l n (i : Int)) (one n') := by
 intro d
 induction d with
 | zero =>
  intro i l n n' hi hl hc
  obtain rfl : i = l.length := by omega
  rw [List.drop_length] at hc
  obtain rfl : n = n' := hc
  exact Ev.step (g' := fun _ => some (one n)) (Ev.cst rfl) (hend l n)
 | succ d ih =>
  intro i l n n' hi hl hc
  have hlt : i < l.length := by omega
  rw [List.drop_eq_getElem_cons hlt] at hc
  obtain ⟨n1, p, c⟩ := hc
  exact hstep l i n n1 hlt hl (by rw [getD_at _ _ _ hlt]; exact p) _ (ih (i + 1) l n1 n' (by omega) hl c)
theorem held_all {α : Type} {z : α} {P : Int → α → Int → Prop} {H : Nat → List α → Int → Int → Option IR}
  (hend : ∀ (l : List α) (n : Int) k, H (k + 1) l n (l.length : Int) = some (one n))
  (hstep : ∀ (l : List α) (i : Nat) (n n' : Int), i < l.length → l.length ≤ 1048576 → P n (l.getD i z) n' → ∀ r, Ev (fun k => H k l n' ((i + 1 : Nat) : Int)) r → Ev (fun k => H k l n (i : Int)) r)
  (l : List α) (n n' : Int) (hl : l.length ≤ 1048576) (hc : Chain P n l n') : Ev (fun k => H k l n 0) (one n') := held_ch hend hstep l.length 0 l n n' (by omega) hl hc
theorem Ev.sk {R : Type} {n m : Int} {o : Option R} {g : Nat → Option R} {r : R} (h : n = m) (e : Ev g r) : Ev (fun k => bif !decide (n = m) then o else g k) r := Ev.neg (by rw [dpos h]; rfl) e
def MP (n : Int) (x : tPhiD) (n' : Int) : Prop := ∃ d : Nat, d ≤ 1048576 ∧ 0 ≤ n ∧ n' = n + 1 + (d : Int) ∧ n' ≤ 9000000000000000000 ∧ x.1 = n ∧ x.2.1 = upFrom (n + 1) d
def MI (n : Int) (x : tInstD) (n' : Int) : Prop := ∃ d : Nat, d ≤ 1048576 ∧ 0 ≤ n ∧ n' = n + 1 + 1 + 1 + 1 + 1 + 1 + (d : Int) ∧ n' ≤ 9000000000000000000 ∧ x.1 = n ∧ x.2.1 = n + 1 ∧ x.2.2.1 = n + 1 + 1 ∧ x.2.2.2.1 = n + 1 + 1 + 1 ∧ x.2.2.2.2.1 = n + 1 + 1 + 1 + 1 ∧ x.2.2.2.2.2.1 = n + 1 + 1 + 1 + 1 + 1 ∧ x.2.2.2.2.2.2.1 = upFrom (n + 1 + 1 + 1 + 1 + 1 + 1) d
def MB (n : Int) (x : tBlockD) (n' : Int) : Prop := ∃ n1 n2, x.1.length ≤ 1048576 ∧ x.2.1.length ≤ 1048576 ∧ Chain MP n x.1 n1 ∧ Chain MI n1 x.2.1 n2 ∧ 0 ≤ n1 ∧ 0 ≤ n2 ∧ n' = n2 + 1 + 1 + 1 + 1 ∧ n' ≤ 9000000000000000000 ∧ x.2.2.1 = n2 ∧ x.2.2.2.1 = n2 + 1 ∧ x.2.2.2.2.1 = n2 + 1 + 1 ∧ x.2.2.2.2.2.1 = n2 + 1 + 1 + 1
theorem heldPhis (l : List tPhiD) (n n' : Int) (hl : l.length ≤ 1048576) (hc : Chain MP n l n') : Ev (fun k => U172.f k l n) (one n') := by
 refine held_all (z := tPhiZ) (P := MP) (H := U172.l0) (fun l n k => ?_) (fun l i n n1 hi hl hp r hr => Ev.sc ?_) l n n' hl hc
 ·show U172.l0_ k (U172.l0 k) l n _ = _
  unfold U172.l0_
  rw [head_end]; rfl
 ·obtain ⟨d, hd, h0, rfl, hM, e1, e2⟩ := hp
  show Ev (fun k => U172.l0_ k (U172.l0 k) l n _) _
  unfold U172.l0_
  simp only [head_in hi, head_0, Bool.and_self, cond_true, Int.toNat_natCast, wrap_nat (show i < 9223372036854775807 by omega), wrap_id (x := n + 1) (by omega) (by omega), e2]
  exact Ev.sk e1 (Ev.bind (heldInts (n + 1) d hd (by omega) (by omega)) (Ev.dn (show ¬ n + 1 + (d : Int) < 0 by omega) hr))
theorem heldInsts (l : List tInstD) (n n' : Int) (hl : l.length ≤ 1048576) (hc : Chain MI n l n') : Ev (fun k => U173.f k l n) (one n') := by
 refine held_all (z := tInstZ) (P := MI) (H := U173.l0) (fun l n k => ?_) (fun l i n n1 hi hl hp r hr => Ev.sc ?_) l n n' hl hc
 ·show U173.l0_ k (U173.l0 k) l n _ = _
  unfold U173.l0_
  rw [head_end]; rfl
 ·obtain ⟨d, hd, h0, rfl, hM, e1, e2, e3, e4, e5, e6, e7⟩ := hp
  show Ev (fun k => U173.l0_ k (U173.l0 k) l n _) _
  unfold U173.l0_
  simp only [head_in hi, head_0, Bool.and_self, cond_true, Int.toNat_natCast, wrap_nat (show i < 9223372036854775807 by omega), wrap_id (x := n + 1) (by omega) (by omega), wrap_id (x := n + 1 + 1) (by omega) (by omega), wrap_id (x := n + 1 + 1 + 1) (by omega) (by omega), wrap_id (x := n + 1 + 1 + 1 + 1) (by omega) (by omega), wrap_id (x := n + 1 + 1 + 1 + 1 + 1) (by omega) (by omega), wrap_id (x := n + 1 + 1 + 1 + 1 + 1 + 1) (by omega) (by omega), e7]
  exact Ev.sk e1 (Ev.sk e2 (Ev.sk e3 (Ev.sk e4 (Ev.sk e5 (Ev.sk e6 (Ev.bind (heldInts (n + 1 + 1 + 1 + 1 + 1 + 1) d hd (by omega) (by omega)) (Ev.dn (show ¬ n + 1 + 1 + 1 + 1 + 1 + 1 + (d : Int) < 0 by omega) hr)))))))
theorem heldBlocks (l : List tBlockD) (n n' : Int) (hl : l.length ≤ 1048576) (hc : Chain MB n l n') : Ev (fun k => U174.f k l n) (one n') := by
 refine held_all (z := tBlockZ) (P := MB) (H := U174.l0) (fun l n k => ?_) (fun l i n n1 hi hl hp r hr => Ev.sc ?_) l n n' hl hc
 ·show U174.l0_ k (U174.l0 k) l n _ = _
  unfold U174.l0_
  rw [head_end]; rfl
 ·obtain ⟨m1, m2, u1, u2, c1, c2, p1, p2, rfl, hM, e1, e2, e3, e4⟩ := hp
  show Ev (fun k => U174.l0_ k (U174.l0 k) l n _) _
  unfold U174.l0_
  simp only [head_in hi, head_0, Bool.and_self, cond_true, Int.toNat_natCast, wrap_nat (show i < 9223372036854775807 by omega)]
  refine Ev.bind (heldPhis _ n m1 u1 c1) (Ev.dn (show ¬ m1 < 0 by omega) (Ev.bind (heldInsts _ m1 m2 u2 c2) (Ev.dn (show ¬ m2 < 0 by omega) ?_)))
  simp only [wrap_id (x := m2 + 1) (by omega) (by omega), wrap_id (x := m2 + 1 + 1) (by omega) (by omega), wrap_id (x := m2 + 1 + 1 + 1) (by omega) (by omega), wrap_id (x := m2 + 1 + 1 + 1 + 1) (by omega) (by omega)]
  exact Ev.sk e1 (Ev.sk e2 (Ev.sk e3 (Ev.sk e4 hr)))
def wP (p : tPhiD) : Int := 1 + (p.2.1.length : Int)
def wI (i : tInstD) : Int := 6 + (i.2.2.2.2.2.2.1.length : Int)
def wK (x : tBlockD) : Int := sumB wP x.1 + sumB wI x.2.1 + 4
def wF (f : tFuncD) : Int := (f.1.length : Int) + 1 + sumB wK f.2.2.1
theorem wP_0 (p : tPhiD) : 0 ≤ wP p := by unfold wP; omega
theorem wI_0 (i : tInstD) : 0 ≤ wI i := by unfold wI; omega
theorem wK_0 (x : tBlockD) : 0 ≤ wK x := by
 have := sumB_nonneg (w := wP) (l := x.1) fun p _ => wP_0 p
 have := sumB_nonneg (w := wI) (l := x.2.1) fun p _ => wI_0 p
 unfold wK; omega
theorem wF_0 (f : tFuncD) : 0 ≤ wF f := by
 have := sumB_nonneg (w := wK) (l := f.2.2.1) fun p _ => wK_0 p
 unfold wF; omega
def SzW {α : Type} (wf : α → Prop) (w : α → Int) (e : Int) (f : Nat → α → Int → Option IR) : Prop := ∀ (x : α), wf x → ∀ n : Int, 0 ≤ n → n ≤ 1048576 → ∃ s, Ev (fun k => f k x n) (one s) ∧ -1 ≤ s ∧ s ≤ n ∧ (0 ≤ s → w x ≤ e + 6 * (n - s))
theorem szw_list {α : Type} {wf : α → Prop} {w : α → Int} {z : α} {f : Nat → α → Int → Option IR} (hf : SzW wf w 6 f) {L : Nat → List α → Int → Int → Option IR} {F : Nat → List α → Int → Option IR}
  (hL : ∀ k l a1 a2, L (k + 1) l a1 a2 = bif decide (a2 < (l.length : Int)) then (bif decide (0 ≤ a2) && decide (a2 < (l.length : Int)) then (Option.bind (f k (l.getD a2.toNat z) a1) fun r1 => bif decide (r1.1.1.1 < 0) then some (((-1, ()), ()), ()) else L k l r1.1.1.1 (IntKind.wrap .i64 (a2 + 1))) else none) else some (((a1, ()), ()), ()))
  (hF : ∀ k l a, F k l a = bif decide (IntKind.wrap .i64 (a - (l.length : Int)) < 0) then some (((-1, ()), ()), ()) else L k l (IntKind.wrap .i64 (a - (l.length : Int))) 0) : SzW (fun l : List α => l.length ≤ 9223372036854775807 ∧ ∀ x ∈ l, wf x) (fun l : List α => sumB w l) 0 F := by
 intro l hw n h0 h1
 obtain ⟨hlen, hel⟩ := hw
 have key : ∀ (d i : Nat) (n : Int), i + d = l.length → 0 ≤ n → n ≤ 1048576 → ∃ s, Ev (fun k => L k l n (i : Int)) (one s) ∧ -1 ≤ s ∧ s ≤ n ∧ (0 ≤ s → sumB w (l.drop i) ≤ 6 * (d : Int) + 6 * (n - s)) := by
  intro d
  induction d with
  | zero =>
   intro i n hi h0 h1
   have hi' : i = l.length := by omega
   subst hi'
   refine ⟨n, Ev.step (g' := fun _ => some (one n)) (Ev.cst rfl) fun k => ?_, by omega, Int.le_refl _, fun _ => by rw [List.drop_length]; simp only [sumB]; omega⟩
   rw [hL, head_end]; rfl
  | succ d ih =>
   intro i n hi h0 h1
   have hi' : i < l.length := by omega
   have hmem : l[i] ∈ l := List.getElem_mem hi'
   obtain ⟨s, e1, e2, e3, e4⟩ := hf (l[i]) (hel _ hmem) n h0 h1
   have hstep : ∀ k, L (k + 1) l n (i : Int) = Option.bind (f k (l[i]) n) fun r1 => bif decide (r1.1.1.1 < 0) then some (((-1, ()), ()), ()) else L k l r1.1.1.1 ((i + 1 : Nat) : Int) := fun k => by
    rw [hL]
    simp only [head_in hi', head_0, Bool.and_self, cond_true, get_in hi', wrap_nat (show i < 9223372036854775807 by omega)]
   rcases Int.lt_or_le s 0 with hs | hs
   ·refine ⟨-1, Ev.step (Ev.bind (f := fun k r1 => bif decide (r1.1.1.1 < 0) then some (((-1, ()), ()), ()) else L k l r1.1.1.1 ((i + 1 : Nat) : Int)) e1 ?_) hstep, by omega, by omega, fun h => by omega⟩
    exact Ev.pos (dpos hs) (Ev.cst rfl)
   ·obtain ⟨s', q1, q2, q3, q4⟩ := ih (i + 1) s (by omega) hs (by omega)
    refine ⟨s', Ev.step (Ev.bind (f := fun k r1 => bif decide (r1.1.1.1 < 0) then some (((-1, ()), ()), ()) else L k l r1.1.1.1 ((i + 1 : Nat) : Int)) e1 (Ev.neg (dneg (show ¬ s < 0 by omega)) q1)) hstep, q2, by omega, fun h => ?_⟩
    rw [sumB_drop w l i hi']
    have a := e4 hs
    have b := q4 h
    omega
 have hw : IntKind.wrap .i64 (n - (l.length : Int)) = n - (l.length : Int) := wrap_id (by omega) (by omega)
 rcases Int.lt_or_le (n - (l.length : Int)) 0 with hs | hs
 ·refine ⟨-1, (Ev.cst rfl : Ev (fun _ => some (one (-1 : Int))) _).congr fun k => ?_, by omega, by omega, fun h => by omega⟩
  rw [hF, hw, dpos hs]; rfl
 ·obtain ⟨s, q1, q2, q3, q4⟩ := key (l.length) 0 _ (by omega) hs (by omega)
  refine ⟨s, q1.congr fun k => ?_, q2, by omega, fun h => ?_⟩
  ·rw [hF, hw, dneg (by omega)]; rfl
  ·have := q4 h
   rw [List.drop_zero] at this
   show sumB w l ≤ _
   omega
theorem szwInts : SzW (Wf (.list (.int .i64))) (fun l => (List.length (α := Int) l : Int)) 0 U0.f := by
 intro (l : List Int) hw n h0 h1
 have hlen : List.length (α := Int) l ≤ 9223372036854775807 := hw.1
 have hwr : IntKind.wrap .i64 (n - (List.length (α := Int) l : Int)) = n - (List.length (α := Int) l : Int) := wrap_id (by omega) (by omega)
 have he : ∀ k, U0.f k l n = bif decide (n - (List.length (α := Int) l : Int) < 0) then some (one (-1)) else some (one (n - (List.length (α := Int) l : Int))) := fun k => by
  show (bif decide (IntKind.wrap .i64 (n - (List.length (α := Int) l : Int)) < 0) then _ else _) = _
  rw [hwr]
 by_cases hs : n - (List.length (α := Int) l : Int) < 0
 ·exact ⟨-1, Ev.all fun k => by rw [he, dpos hs]; rfl, by omega, by omega, fun h => by omega⟩
 ·exact ⟨_, Ev.all fun k => by rw [he, dneg hs]; rfl, by omega, by omega, fun h => by show (l.length : Int) ≤ _; omega⟩
theorem szwPhi : SzW (Wf tPhi) wP 6 U1.f := by
 intro (x : tPhiD) hw n h0 h1
 obtain ⟨s, e, a, b, c⟩ := szwInts _ hw.2.1 n h0 h1
 exact ⟨_, sz_then (n := n) e, by split <;> omega, by split <;> omega, fun h => by have u : (x.2.1.length : Int) ≤ 0 + 6 * (n - s) := c (by split at h <;> omega); unfold wP; split at h <;> split <;> omega⟩
theorem szwPhiS : SzW (Wf (.list tPhi)) (fun l => sumB wP l) 0 U2.f := szw_list (z := tPhiZ) szwPhi (L := U2.l0) (fun k l a b => rfl) fun k l a => rfl
theorem szwInst : SzW (Wf tInst) wI 6 U3.f := by
 intro (x : tInstD) hw n h0 h1
 obtain ⟨s, e, a, b, c⟩ := szwInts _ hw.2.2.2.2.2.2.1 n h0 h1
 exact ⟨_, sz_then (n := n) e, by split <;> omega, by split <;> omega, fun h => by have u : (x.2.2.2.2.2.2.1.length : Int) ≤ 0 + 6 * (n - s) := c (by split at h <;> omega); unfold wI; split at h <;> split <;> omega⟩
theorem szwInstS : SzW (Wf (.list tInst)) (fun l => sumB wI l) 0 U4.f := szw_list (z := tInstZ) szwInst (L := U4.l0) (fun k l a b => rfl) fun k l a => rfl
theorem szwBlock : SzW (Wf tBlock) wK 6 U5.f := by
 intro (x : tBlockD) hw n h0 h1
 obtain ⟨s, e, a, b, c⟩ := szwPhiS _ hw.1 n h0 h1
 by_cases hs : s < 0
 ·exact ⟨-1, sz_two (n := n) (f := fun k s => Option.bind (U4.f k x.2.1 s) fun r1 => bif decide (r1.1.1.1 < 0) then some (((-1, ()), ()), ()) else some (((r1.1.1.1, ()), ()), ())) e (fun h => by omega) (fun _ => rfl), by omega, by omega, fun h => by omega⟩
 ·obtain ⟨s', e', a', b', c'⟩ := szwInstS _ hw.2.1 s (by omega) (by omega)
  exact ⟨_, sz_two (n := n) (f := fun k s => Option.bind (U4.f k x.2.1 s) fun r1 => bif decide (r1.1.1.1 < 0) then some (((-1, ()), ()), ()) else some (((r1.1.1.1, ()), ()), ())) e (fun _ => sz_then (n := n) e') (fun h => by omega), by split <;> omega, by split <;> omega, fun h => by have u : sumB wP x.1 ≤ 0 + 6 * (n - s) := c (by omega); have v : sumB wI x.2.1 ≤ 0 + 6 * (s - s') := c' (by split at h <;> omega); unfold wK; split at h <;> split <;> omega⟩
theorem szwBlockS : SzW (Wf (.list tBlock)) (fun l => sumB wK l) 0 U6.f := szw_list (z := tBlockZ) szwBlock (L := U6.l0) (fun k l a b => rfl) fun k l a => rfl
theorem szwFunc : SzW (Wf tFunc) wF 6 U7.f := by
 intro (x : tFuncD) hw n h0 h1
 obtain ⟨s, e, a, b, c⟩ := szwInts _ hw.1 n h0 h1
 by_cases hs : s < 0
 ·exact ⟨-1, sz_two (n := n) (f := fun k s => Option.bind (U6.f k x.2.2.1 s) fun r1 => bif decide (r1.1.1.1 < 0) then some (((-1, ()), ()), ()) else some (((r1.1.1.1, ()), ()), ())) e (fun h => by omega) (fun _ => rfl), by omega, by omega, fun h => by omega⟩
 ·obtain ⟨s', e', a', b', c'⟩ := szwBlockS _ hw.2.2.1 s (by omega) (by omega)
  exact ⟨_, sz_two (n := n) (f := fun k s => Option.bind (U6.f k x.2.2.1 s) fun r1 => bif decide (r1.1.1.1 < 0) then some (((-1, ()), ()), ()) else some (((r1.1.1.1, ()), ()), ())) e (fun _ => sz_then (n := n) e') (fun h => by omega), by split <;> omega, by split <;> omega, fun h => by have u : (x.1.length : Int) ≤ 0 + 6 * (n - s) := c (by omega); have v : sumB wK x.2.2.1 ≤ 0 + 6 * (s - s') := c' (by split at h <;> omega); unfold wF; split at h <;> split <;> omega⟩
theorem szwFuncS : SzW (Wf (.list tFunc)) (fun l => sumB wF l) 0 U8.f := szw_list (z := tFuncZ) szwFunc (L := U8.l0) (fun k l a b => rfl) fun k l a => rfl
theorem szwModule : SzW (Wf tModule) (fun m => sumB wF m.1) 6 U9.f := by
 intro (x : tModuleD) hw n h0 h1
 obtain ⟨s, e, a, b, c⟩ := szwFuncS _ hw.1 n h0 h1
 exact ⟨_, sz_then (n := n) e, by split <;> omega, by split <;> omega, fun h => by have u : sumB wF x.1 ≤ 0 + 6 * (n - s) := c (by split at h <;> omega); show sumB wF x.1 ≤ _; split at h <;> split <;> omega⟩
/-- A law over a module: it is small, and how many numbers it holds. -/
theorem law_frameW {a : tModuleD} (hw : Wf tModule a) {g : Nat → Option BR} (h : Small tModule a → sumB wF a.1 ≤ 10000000 → Ev g (one true)) : Ev (fun k => Option.bind (U9.f k (a.1, ()) 1048576) fun r1 => bif decide (r1.1.1.1 < 0) then some (((true, ()), ()), ()) else g k) (one true) := by
 obtain ⟨s, e, _, _, c⟩ := szModule a hw 1048576 (by omega) (by omega)
 obtain ⟨t, e', _, _, d⟩ := szwModule a hw 1048576 (by omega) (by omega)
 have hst : one s = one t := Ev.uniq e e'
 have hst' : s = t := congrArg (fun r => r.1.1.1) hst
 refine Ev.bind (f := fun k r1 => bif decide (r1.1.1.1 < 0) then some (((true, ()), ()), ()) else g k) e ?_
 by_cases hs : s < 0
 ·exact Ev.pos (dpos hs) (Ev.cst rfl)
 ·exact Ev.neg (dneg hs) (h (c (by omega)) (by have u : sumB wF a.1 ≤ 6 + 6 * (1048576 - t) := d (by omega); omega))
theorem mark_wt {α : Type} {z : α} {w : α → Int} (hw : ∀ x, 0 ≤ w x) {small : α → Prop} {P : Int → α → Int → Prop} {L : Nat → Int → Int → List α → Option (MkR (List α))} {M : Int}
  (hend : ∀ (l : List α) (n : Int) k, L (k + 1) n (l.length : Int) l = some (mkr n l))
  (hstep : ∀ (l : List α) (i : Nat) (n : Int), i < l.length → l.length ≤ 1048576 → small (l.getD i z) → 0 ≤ n → n + w (l.getD i z) ≤ M → ∃ n' x, n ≤ n' ∧ n' ≤ n + w (l.getD i z) ∧ P n x n' ∧ ∀ r, Ev (fun k => L k n' ((i + 1 : Nat) : Int) (l.set i x)) r → Ev (fun k => L k n (i : Int) l) r) :
  ∀ (d i : Nat) (l : List α) (n : Int), i + d = l.length → l.length ≤ 1048576 → (∀ j x, i ≤ j → l[j]? = some x → small x) → 0 ≤ n → n + sumB w (l.drop i) ≤ M → ∃ n' m, Ev (fun k => L k n (i : Int) l) (mkr n' (l.take i ++ m)) ∧ Chain P n m n' ∧ n ≤ n' ∧ n' ≤ n + sumB w (l.drop i) ∧ m.length = d := by
 intro d
 induction d with
 | zero =>
  intro i l n hi hl hs h0 hM
  obtain rfl : i = l.length := by omega
  exact ⟨n, [], (Ev.step (g' := fun _ => some (mkr n l)) (Ev.cst rfl) (hend l n)).rw (by rw [List.take_length, List.append_nil]), rfl, Int.le_refl _, by rw [List.drop_length]; simp [sumB], rfl⟩
 | succ d ih =>
  intro i l n hi hl hs h0 hM
  have hlt : i < l.length := by omega
  have hnn := sumB_nonneg (w := w) (l := l.drop (i + 1)) fun x _ => hw x
  rw [sumB_drop w l i hlt, ← getD_at l z i hlt] at hM
  obtain ⟨n1, x1, a1, a2, a3, a5⟩ := hstep l i n hlt hl (hs i _ (Nat.le_refl _) (by rw [getD_at _ _ _ hlt]; exact List.getElem?_eq_getElem hlt)) h0 (by omega)
  have ed : (l.set i x1).drop (i + 1) = l.drop (i + 1) := by rw [List.drop_set_of_lt (by omega)]
  obtain ⟨n2, m2, b1, b2, b3, b4, b5⟩ := ih (i + 1) (l.set i x1) n1 (by rw [List.length_set]; omega) (by rw [List.length_set]; exact hl) (fun j x hj hx => hs j x (by omega) (by rw [List.getElem?_set_ne (by omega)] at hx; exact hx)) (by omega) (by rw [ed]; omega)
  rw [ed] at b4
  refine ⟨n2, x1 :: m2, (a5 _ b1).rw ?_, ⟨n1, a3, b2⟩, by omega, by rw [sumB_drop w l i hlt, ← getD_at l z i hlt]; omega, by rw [List.length_cons, b5]⟩
  have e2 : (l.set i x1).take (i + 1) = l.take i ++ [x1] := by
   rw [List.take_succ_eq_append_getElem (by rw [List.length_set]; exact hlt), List.getElem_set_self, List.take_set_of_le (Nat.le_refl i)]
  show mkr n2 ((l.set i x1).take (i + 1) ++ m2) = _
  rw [e2, List.append_assoc]; rfl
theorem mark_allw {α : Type} {z : α} {w : α → Int} (hw : ∀ x, 0 ≤ w x) {small : α → Prop} {P : Int → α → Int → Prop} {L : Nat → Int → Int → List α → Option (MkR (List α))} {M : Int}
  (hend : ∀ (l : List α) (n : Int) k, L (k + 1) n (l.length : Int) l = some (mkr n l))
  (hstep : ∀ (l : List α) (i : Nat) (n : Int), i < l.length → l.length ≤ 1048576 → small (l.getD i z) → 0 ≤ n → n + w (l.getD i z) ≤ M → ∃ n' x, n ≤ n' ∧ n' ≤ n + w (l.getD i z) ∧ P n x n' ∧ ∀ r, Ev (fun k => L k n' ((i + 1 : Nat) : Int) (l.set i x)) r → Ev (fun k => L k n (i : Int) l) r)
  (l : List α) (n : Int) (hl : l.length ≤ 1048576) (hs : ∀ x ∈ l, small x) (h0 : 0 ≤ n) (hM : n + sumB w l ≤ M) : ∃ n' m, Ev (fun k => L k n 0 l) (mkr n' m) ∧ Chain P n m n' ∧ n ≤ n' ∧ n' ≤ n + sumB w l ∧ m.length ≤ 1048576 := by
 obtain ⟨n', m, a, b, c, d, e⟩ := mark_wt (z := z) hw (small := small) (P := P) hend hstep l.length 0 l n (by omega) hl (fun j x _ hx => hs x (List.mem_of_getElem? hx)) h0 hM
 exact ⟨n', m, a, b, c, d, by omega⟩
theorem markPhisW (l : List tPhiD) (hs : Small (.list tPhi) l) (n : Int) (h0 : 0 ≤ n) (hM : n + sumB wP l ≤ 100000000) : ∃ n' m, Ev (fun k => U166.f k n l) (mkr n' m) ∧ Chain MP n m n' ∧ n ≤ n' ∧ n' ≤ n + sumB wP l ∧ m.length ≤ 1048576 := by
 refine mark_allw (z := tPhiZ) wP_0 (small := Small tPhi) (L := U166.l0) (M := 100000000) (fun l n k => ?_) (fun l i n hi hl hx h0 hM => ?_) l n hs.1 hs.2 h0 hM
 ·show U166.l0_ k (U166.l0 k) n _ l = _
  unfold U166.l0_
  rw [head_end]; rfl
 ·have hlen : (l.getD i tPhiZ).2.1.length ≤ 1048576 := hx.2.1.1
  unfold wP at hM ⊢
  refine ⟨n + 1 + ((l.getD i tPhiZ).2.1.length : Int), (n, upFrom (n + 1) (l.getD i tPhiZ).2.1.length, (l.getD i tPhiZ).2.2), by omega, by omega, ⟨_, hlen, h0, rfl, by omega, rfl, rfl⟩, fun r hr => Ev.sc ?_⟩
  show Ev (fun k => U166.l0_ k (U166.l0 k) n _ l) _
  unfold U166.l0_
  simp only [updAt_length, head_in hi, head_0, Bool.and_self, cond_true, Int.toNat_natCast, wrap_nat (show i < 9223372036854775807 by omega), wrap_id (x := n + 1) (by omega) (by omega), updAt_twice hi, updAt_at _ _ _ _ hi]
  exact Ev.bind (markInts _ (n + 1) hlen (by omega) (by omega)) hr
theorem markInstsW (l : List tInstD) (hs : Small (.list tInst) l) (n : Int) (h0 : 0 ≤ n) (hM : n + sumB wI l ≤ 100000000) : ∃ n' m, Ev (fun k => U167.f k n l) (mkr n' m) ∧ Chain MI n m n' ∧ n ≤ n' ∧ n' ≤ n + sumB wI l ∧ m.length ≤ 1048576 := by
 refine mark_allw (z := tInstZ) wI_0 (small := Small tInst) (L := U167.l0) (M := 100000000) (fun l n k => ?_) (fun l i n hi hl hx h0 hM => ?_) l n hs.1 hs.2 h0 hM
 ·show U167.l0_ k (U167.l0 k) n _ l = _
  unfold U167.l0_
  rw [head_end]; rfl
 ·have hlen : (l.getD i tInstZ).2.2.2.2.2.2.1.length ≤ 1048576 := hx.2.2.2.2.2.2.1.1
  unfold wI at hM ⊢
  refine ⟨n + 1 + 1 + 1 + 1 + 1 + 1 + ((l.getD i tInstZ).2.2.2.2.2.2.1.length : Int), (n, n + 1, n + 1 + 1, n + 1 + 1 + 1, n + 1 + 1 + 1 + 1, n + 1 + 1 + 1 + 1 + 1, upFrom (n + 1 + 1 + 1 + 1 + 1 + 1) (l.getD i tInstZ).2.2.2.2.2.2.1.length, (l.getD i tInstZ).2.2.2.2.2.2.2), by omega, by omega, ⟨_, hlen, h0, rfl, by omega, rfl, rfl, rfl, rfl, rfl, rfl, rfl⟩, fun r hr => Ev.sc ?_⟩
  show Ev (fun k => U167.l0_ k (U167.l0 k) n _ l) _
  unfold U167.l0_
  simp only [updAt_length, head_in hi, head_0, Bool.and_self, cond_true, Int.toNat_natCast, wrap_nat (show i < 9223372036854775807 by omega), wrap_id (x := n + 1) (by omega) (by omega), wrap_id (x := n + 1 + 1) (by omega) (by omega), wrap_id (x := n + 1 + 1 + 1) (by omega) (by omega), wrap_id (x := n + 1 + 1 + 1 + 1) (by omega) (by omega), wrap_id (x := n + 1 + 1 + 1 + 1 + 1) (by omega) (by omega), wrap_id (x := n + 1 + 1 + 1 + 1 + 1 + 1) (by omega) (by omega), updAt_twice hi, updAt_at _ _ _ _ hi]
  exact Ev.bind (markInts _ (n + 1 + 1 + 1 + 1 + 1 + 1) hlen (by omega) (by omega)) hr
theorem markBlocksW (l : List tBlockD) (hs : Small (.list tBlock) l) (n : Int) (h0 : 0 ≤ n) (hM : n + sumB wK l ≤ 100000000) : ∃ n' m, Ev (fun k => U168.f k n l) (mkr n' m) ∧ Chain MB n m n' ∧ n ≤ n' ∧ n' ≤ n + sumB wK l ∧ m.length ≤ 1048576 := by
 refine mark_allw (z := tBlockZ) wK_0 (small := Small tBlock) (L := U168.l0) (M := 100000000) (fun l n k => ?_) (fun l i n hi hl hx h0 hM => ?_) l n hs.1 hs.2 h0 hM
 ·show U168.l0_ k (U168.l0 k) n _ l = _
  unfold U168.l0_
  rw [head_end]; rfl
 ·have z1 := sumB_nonneg (w := wP) (l := (l.getD i tBlockZ).1) fun p _ => wP_0 p
  have z2 := sumB_nonneg (w := wI) (l := (l.getD i tBlockZ).2.1) fun p _ => wI_0 p
  unfold wK at hM ⊢
  obtain ⟨n1, p1, e1, q1, a1, b1, c1⟩ := markPhisW (l.getD i tBlockZ).1 hx.1 n h0 (by omega)
  obtain ⟨n2, p2, e2, q2, a2, b2, c2⟩ := markInstsW (l.getD i tBlockZ).2.1 hx.2.1 n1 (by omega) (by omega)
  refine ⟨n2 + 1 + 1 + 1 + 1, (p1, p2, n2, n2 + 1, n2 + 1 + 1, n2 + 1 + 1 + 1, (l.getD i tBlockZ).2.2.2.2.2.2), by omega, by omega, ⟨n1, n2, c1, c2, q1, q2, by omega, by omega, rfl, by omega, rfl, rfl, rfl, rfl⟩, fun r hr => Ev.sc ?_⟩
  show Ev (fun k => U168.l0_ k (U168.l0 k) n _ l) _
  unfold U168.l0_
  simp only [updAt_length, head_in hi, head_0, Bool.and_self, cond_true, Int.toNat_natCast, wrap_nat (show i < 9223372036854775807 by omega), updAt_twice hi, updAt_at _ _ _ _ hi]
  refine Ev.bind e1 (Ev.bind e2 ?_)
  simp only [mkr, wrap_id (x := n2 + 1) (by omega) (by omega), wrap_id (x := n2 + 1 + 1) (by omega) (by omega), wrap_id (x := n2 + 1 + 1 + 1) (by omega) (by omega), wrap_id (x := n2 + 1 + 1 + 1 + 1) (by omega) (by omega)]
  exact hr
def MF (n : Int) (x : tFuncD) (n' : Int) : Prop := ∃ d : Nat, d ≤ 1048576 ∧ 0 ≤ n ∧ n ≤ 100000000 ∧ x.1 = upFrom n d ∧ x.2.1 = n + (d : Int) ∧ x.2.2.1.length ≤ 1048576 ∧ Chain MB (n + (d : Int) + 1) x.2.2.1 n' ∧ 0 ≤ n'
theorem markFuncsW (l : List tFuncD) (hs : Small (.list tFunc) l) (n : Int) (h0 : 0 ≤ n) (hM : n + sumB wF l ≤ 100000000) : ∃ n' m, Ev (fun k => U169.f k n l) (mkr n' m) ∧ Chain MF n m n' ∧ n ≤ n' ∧ n' ≤ n + sumB wF l ∧ m.length ≤ 1048576 := by
 refine mark_allw (z := tFuncZ) wF_0 (small := Small tFunc) (L := U169.l0) (M := 100000000) (fun l n k => ?_) (fun l i n hi hl hx h0 hM => ?_) l n hs.1 hs.2 h0 hM
 ·show U169.l0_ k (U169.l0 k) n _ l = _
  unfold U169.l0_
  rw [head_end]; rfl
 ·have hlen : (l.getD i tFuncZ).1.length ≤ 1048576 := hx.1.1
  have z1 := sumB_nonneg (w := wK) (l := (l.getD i tFuncZ).2.2.1) fun p _ => wK_0 p
  unfold wF at hM ⊢
  obtain ⟨n2, p2, e2, q2, a2, b2, c2⟩ := markBlocksW (l.getD i tFuncZ).2.2.1 hx.2.2.1 (n + ((l.getD i tFuncZ).1.length : Int) + 1) (by omega) (by omega)
  refine ⟨n2, (upFrom n (l.getD i tFuncZ).1.length, n + ((l.getD i tFuncZ).1.length : Int), p2, (l.getD i tFuncZ).2.2.2), by omega, by omega, ⟨_, hlen, h0, by omega, rfl, rfl, c2, q2, by omega⟩, fun r hr => Ev.sc ?_⟩
  show Ev (fun k => U169.l0_ k (U169.l0 k) n _ l) _
  unfold U169.l0_
  simp only [updAt_length, head_in hi, head_0, Bool.and_self, cond_true, Int.toNat_natCast, wrap_nat (show i < 9223372036854775807 by omega), updAt_twice hi, updAt_at _ _ _ _ hi]
  refine Ev.bind (markInts _ n hlen (by omega) (by omega)) ?_
  simp only [mkr, wrap_id (x := n + ((l.getD i tFuncZ).1.length : Int) + 1) (by omega) (by omega)]
  exact Ev.bind e2 hr
theorem heldFuncsW (l : List tFuncD) (n n' : Int) (hl : l.length ≤ 1048576) (hc : Chain MF n l n') : Ev (fun k => U175.f k l n) (one n') := by
 refine held_all (z := tFuncZ) (P := MF) (H := U175.l0) (fun l n k => ?_) (fun l i n n1 hi hl hp r hr => Ev.sc ?_) l n n' hl hc
 ·show U175.l0_ k (U175.l0 k) l n _ = _
  unfold U175.l0_
  rw [head_end]; rfl
 ·obtain ⟨d, hd, h0, hM, e1, e2, hb, hc, hn1⟩ := hp
  show Ev (fun k => U175.l0_ k (U175.l0 k) l n _) _
  unfold U175.l0_
  simp only [head_in hi, head_0, Bool.and_self, cond_true, Int.toNat_natCast, wrap_nat (show i < 9223372036854775807 by omega), e1]
  refine Ev.bind (heldInts n d hd (by omega) (by omega)) (Ev.dn (show ¬ n + (d : Int) < 0 by omega) (Ev.sk e2 ?_))
  simp only [wrap_id (x := n + (d : Int) + 1) (by omega) (by omega)]
  exact Ev.bind (heldBlocks _ _ n1 hb hc) (Ev.dn (show ¬ n1 < 0 by omega) hr)
/-- What is laid over a module is read back. -/
theorem markHeldM {l : List tFuncD} (hs : Small (.list tFunc) l) (hw : sumB wF l ≤ 10000000) : ∃ n' l', Ev (fun k => U170.f k 1 l) (mkr n' l') ∧ 0 ≤ n' ∧ Ev (fun k => U176.f k (l', ()) 1) (one n') := by
 obtain ⟨n2, m, e2, q2, a2, b2, c2⟩ := markFuncsW l hs 1 (by omega) (by omega)
 exact ⟨n2, m, Ev.bind e2 (Ev.cst rfl), by omega, Ev.bind (heldFuncsW m _ n2 c2 q2) (Ev.dn (show ¬ n2 < 0 by omega) (Ev.cst rfl))⟩
theorem sumB_map {α β : Type} (w : β → Int) (g : α → β) : ∀ l : List α, sumB w (l.map g) = sumB (fun x => w (g x)) l
 | [] => rfl
 | x :: l => by simp only [List.map_cons, sumB, sumB_map w g l]
theorem sumB_mono {α : Type} {w v : α → Int} : ∀ {l : List α}, (∀ x ∈ l, w x ≤ v x) → sumB w l ≤ sumB v l
 | [], _ => Int.le_refl _
 | x :: l, h => by
  have a := h x (by simp)
  have b := sumB_mono (l := l) fun y hy => h y (by simp [hy])
  simp only [sumB]; omega
theorem turnM_small {m : tModuleD} {g : tFuncD → tFuncD} (hs : Small tModule m) (hg : ∀ f, Small tFunc f → Small tFunc (g f)) : Small (.list tFunc) (turnM g m) := by
 unfold turnM
 cases okM m
 ·exact ⟨by show (0 : Nat) ≤ _; omega, fun _ h => by cases h⟩
 ·refine ⟨by show (m.1.map g).length ≤ _; rw [List.length_map]; exact hs.1.1, fun x hx => ?_⟩
  obtain ⟨f, hf, rfl⟩ := List.mem_map.1 (show x ∈ m.1.map g from hx)
  exact hg f (hs.1.2 f hf)
theorem turnM_w {m : tModuleD} {g : tFuncD → tFuncD} (hw : sumB wF m.1 ≤ 10000000) (hg : ∀ f, wF (g f) ≤ wF f) : sumB wF (turnM g m) ≤ 10000000 := by
 unfold turnM
 cases okM m
 ·show (0 : Int) ≤ _; omega
 ·show sumB wF (m.1.map g) ≤ _
  rw [sumB_map]
  exact Int.le_trans (sumB_mono fun f _ => hg f) hw
section
variable {m : tModuleD} {f : tFuncD}
theorem updB_small {bs : List tBlockD} (h : Small (.list tBlock) bs) (b i : Nat) (w : Int) (t : Option Int) : Small (.list tBlock) (updB bs b i w t) := by
 cases t with
 | none => exact h
 | some d =>
  refine ⟨by show (bs.set b _).length ≤ _; rw [List.length_set]; exact h.1, fun x hx => ?_⟩
  by_cases hb : b < bs.length
  ·rcases List.mem_or_eq_of_mem_set (show x ∈ bs.set b _ from hx) with h1 | h1
   ·exact h.2 x h1
   ·have hy : Small tBlock (bs.getD b tBlockZ) := by rw [getD_at _ _ _ hb]; exact h.2 _ (List.getElem_mem hb)
    subst h1
    refine ⟨hy.1, ⟨by show ((bs.getD b tBlockZ).2.1.set i _).length ≤ _; rw [List.length_set]; exact hy.2.1.1, fun y hy' => ?_⟩, hy.2.2⟩
    rcases List.mem_or_eq_of_mem_set (show y ∈ (bs.getD b tBlockZ).2.1.set i _ from hy') with h2 | h2
    ·exact hy.2.1.2 y h2
    ·subst h2
     exact ⟨trivial, trivial, trivial, trivial, trivial, trivial, ⟨by show (0 : Nat) ≤ _; omega, fun _ h => by cases h⟩, trivial⟩
  ·have hx' : x ∈ bs.set b ((bs.getD b tBlockZ).1, (bs.getD b tBlockZ).2.1.set i (cpyI w d), (bs.getD b tBlockZ).2.2) := hx
   rw [List.set_eq_of_length_le (by omega)] at hx'
   exact h.2 x hx'
theorem inS_small {bs : List tBlockD} (h : Small (.list tBlock) bs) (b : Nat) : ∀ i, Small (.list tBlock) (inS f b bs i)
 | 0 => h
 | i + 1 => updB_small (inS_small h b i) b i _ _
theorem ouS_small (h : Small tFunc f) : ∀ b, Small (.list tBlock) (ouS f b)
 | 0 => h.2.2.1
 | b + 1 => inS_small (ouS_small h b) b _
theorem shareFn_small (h : Small tFunc f) : Small tFunc (shareFn f) := ⟨h.1, trivial, ouS_small h _, trivial⟩
theorem updB_w (bs : List tBlockD) (b i : Nat) (w : Int) (t : Option Int) : sumB wK (updB bs b i w t) ≤ sumB wK bs := by
 cases t with
 | none => exact Int.le_refl _
 | some d =>
  refine sumB_set_le wK bs b _ fun hb => ?_
  rw [getD_at _ _ _ hb]
  have h : sumB wI (bs[b].2.1.set i (cpyI w d)) ≤ sumB wI bs[b].2.1 := sumB_set_le wI _ i _ fun hi => by
   show 6 + ((0 : Nat) : Int) ≤ 6 + (bs[b].2.1[i].2.2.2.2.2.2.1.length : Int)
   omega
  show sumB wP bs[b].1 + sumB wI (bs[b].2.1.set i (cpyI w d)) + 4 ≤ sumB wP bs[b].1 + sumB wI bs[b].2.1 + 4
  omega
theorem inS_w (bs : List tBlockD) (b : Nat) : ∀ i, sumB wK (inS f b bs i) ≤ sumB wK bs
 | 0 => Int.le_refl _
 | i + 1 => Int.le_trans (updB_w (inS f b bs i) b i _ _) (inS_w bs b i)
theorem ouS_w (f : tFuncD) : ∀ b, sumB wK (ouS f b) ≤ sumB wK f.2.2.1
 | 0 => Int.le_refl _
 | b + 1 => Int.le_trans (inS_w (ouS f b) b _) (ouS_w f b)
theorem shareFn_w (f : tFuncD) : wF (shareFn f) ≤ wF f := by
 have := ouS_w f f.2.2.1.length
 show (f.1.length : Int) + 1 + sumB wK (ouS f f.2.2.1.length) ≤ (f.1.length : Int) + 1 + sumB wK f.2.2.1
 omega
theorem okM_3 (h : okM m = true) : (m.1.length : Int) ≤ 3 := by
 unfold okM codeM at h
 cases hs : shapeB m with
 | true =>
  simp only [shapeB, Bool.and_eq_true, inB_iff] at hs
  omega
 | false => rw [hs] at h; cases h
theorem len_capS {α : Type} {l : List α} {x : α} {b : Nat} (hb : b ≤ 100) (h : l.length ≤ 1048576) : (List.length l + List.length [x]) * b ≤ 140737488355328 := by
 have h1 : List.length l + List.length [x] ≤ 1048577 := by simp only [List.length_cons, List.length_nil]; omega
 exact Nat.le_trans (Nat.mul_le_mul h1 hb) (by decide)
theorem specSh (hs : Small tModule m) : Ev (fun k => U62.f k m) (mR (okM m) (turnM shareFn m)) := by
 have hl : m.1.length ≤ 1048576 := hs.1.1
 unfold U62.f turnM
 refine Ev.bind (specM (m := (m.1, ())) hs) ?_
 cases hok : okM m with
 | false => exact Ev.pos (by show (!okM m) = true; rw [hok]; rfl) (Ev.cst rfl)
 | true =>
  refine Ev.neg (by show (!okM m) = false; rw [hok]; rfl) ?_
  refine st_loop (n0 := m.1.length) (L := fun k a s => U62.l0 k a m.1 [] s) (T := fun k s => some (mR true s)) (fun i => (m.1.take i).map shareFn) (fun r e => Ev.sk1 ?_) (fun i r hlt e => Ev.sk1 ?_) ?_
  ·show Ev (fun k => U62.l0_ k (U62.l0 k) _ _ _ _) _
   simp only [U62.l0_, head_end, cond_false]
   exact e
  ·show Ev (fun k => U62.l0_ k (U62.l0 k) _ _ _ _) _
   have hmem := List.getElem_mem hlt
   have hfm := okM_fm hok _ hmem
   simp only [U62.l0_, head_in hlt, head_0, Bool.and_self, cond_true, Int.toNat_natCast, getD_at _ _ _ hlt, wrap_nat (show i < 9223372036854775807 by omega)]
   refine Ev.bind (specShareFn hfm (okM_3 hok)) (Ev.dp (len_capS (by decide) (by rw [List.length_map, List.length_take]; omega)) ?_)
   simp only [← take_push hlt, List.map_append] at e
   exact e
  ·simp only [List.take_length]
   exact Ev.cst rfl
theorem implSh (hs : Small tModule m) : Ev (fun k => U153.f k m) (mR (okM m) (turnM shareFn m)) :=
 Ev.bind (implTurned hs fun hok f hf => implShareFn (okM_fm hok _ hf) (okM_3 hok)) (Ev.cst rfl)
end
theorem PureFnExactShared : ∀ (a0 : tModuleD), Wf tModule a0 → ∃ k, laws_FnExactShared.f k a0 = some (((true, ()), ()), ()) := by
 intro a hw
 refine Ev.ex (g := fun k => laws_FnExactShared.f k a) ?_
 unfold laws_FnExactShared.f
 refine law_frameW hw fun h hww => ?_
 have ho : Small (.list tFunc) (turnM shareFn a) := turnM_small h fun f hf => shareFn_small hf
 have hg : Small tModule (turnM shareFn a, ()) := ⟨ho, trivial⟩
 obtain ⟨n1, p1, em, hn1, _⟩ := markHeldM h.1 hww
 obtain ⟨n2, p2, em2, hn2, eh⟩ := markHeldM ho (turnM_w hww shareFn_w)
 have heq : (!decide (n2 = n2)) = false := by simp
 have hb : (!(okM a == okM a)) = false := by simp
 refine Ev.bind (toModule h) (Ev.bind (specSh h) (Ev.bind (toModule h) (Ev.bind (implSh h) (Ev.yes (eqModule hg) (Ev.neg hb (Ev.bind (toModule h) (Ev.yes (eqModule h) (Ev.bind em ?_))))))))
 refine Ev.dn (show ¬ n1 < 0 by omega) (Ev.yes (eqModule hg) (Ev.neg hb (Ev.bind em2 (Ev.bind eh (Ev.dn (show ¬ n2 < 0 by omega) (Ev.neg heq ?_))))))
 exact Ev.bind (toModule h) (Ev.bind (implSh h) (Ev.yes (eqModule hg) (Ev.neg hb (Ev.bind eh (Ev.dn (show ¬ n2 < 0 by omega) (Ev.neg heq (Ev.cst rfl)))))))
theorem gPow : Tryz.prog.globalNamed "internal/strconv.uint64pow10" = some 0 := by kernel_rfl
theorem gPowType : (Tryz.prog.globals[0]?).map (·.type) = some 172 := by kernel_rfl
theorem lpD {W : World} (hm : ∃ m, W.cell? ⟨1, 0, none⟩ = some (.int .i64 m)) (ht : Lib.TabIs Tryz.prog W "internal/strconv.uint64pow10" .u64 Lib.pow10Tab) : LX (gh0 W).F W := by
 obtain ⟨m, hm⟩ := hm
 have h3 : 1 < W.heap.size := World.block_lt_of_cell? W _ hm
 have ht' := ht
 unfold Lib.TabIs World.var? at ht'
 rw [gPow, Option.bind_some] at ht'
 have h2 : 0 < W.heap.size := by
  by_cases h : 0 < W.heap.size
  ·exact h
  ·rw [Array.getElem?_eq_none (by omega)] at ht'; cases ht'
 refine ⟨[(1, W.heap[1]), (0, W.heap[0])], fun w hw => ⟨⟨m, ?_⟩, ?_⟩, ?_⟩
 ·have e := hw (1, W.heap[1]) (by simp)
  have e' : w.heap[1]? = W.heap[1]? := e.trans (Array.getElem?_eq_getElem h3).symm
  rw [← hm]
  unfold World.cell?
  rw [e']
 ·have e := hw (0, W.heap[0]) (by simp)
  have e' : w.heap[0]? = W.heap[0]? := e.trans (Array.getElem?_eq_getElem h2).symm
  unfold Lib.TabIs World.var?
  rw [gPow, Option.bind_some, e']
  exact ht'
 ·intro x hx
  rcases List.mem_cons.1 hx with rfl | hx
  ·exact ⟨h3, Array.getElem?_eq_getElem h3⟩
  ·rw [List.mem_singleton.1 hx]
   exact ⟨h2, Array.getElem?_eq_getElem h2⟩
/-- The table of a row's list, wherever it stands on it. -/
theorem tabD {W : World} {d : DataW Unit} {rest : List (String × DataW Unit)} {ps : List MemPlace} (hd : d = Lib.tabData .u64 Lib.pow10Tab) (h : DataW.LaidVars Tryz.prog W (("internal/strconv.uint64pow10", d) :: rest) ps) : Lib.TabIs Tryz.prog W "internal/strconv.uint64pow10" .u64 Lib.pow10Tab := by
 obtain ⟨g', t', cs, fuel, p, q, hg', ht', hvar, hd', _, _⟩ := h
 obtain rfl := Option.some.inj (gPow.symm.trans hg')
 obtain rfl := Option.some.inj (gPowType.symm.trans ht')
 rw [hd] at hd'
 unfold Lib.TabIs
 rw [hvar, ← Lib.cells_of_tab Tryz.underlying172 (by kernel_rfl) (by kernel_rfl) (by kernel_rfl) hd']
theorem laid_next {W : World} {x : String × DataW Unit} {rest : List (String × DataW Unit)} {ps : List MemPlace} (h : DataW.LaidVars Tryz.prog W (x :: rest) ps) : ∃ q, DataW.LaidVars Tryz.prog W rest q := by
 obtain ⟨_, _, _, _, _, q, _, _, _, _, h, _⟩ := h
 exact ⟨q, h⟩
/-- The cells of a table of numbers, and of a table of rows of numbers. -/
def flat1 : DataW Unit → List Value
 | .lit (.int k z) => [.int k z]
 | _ => []
def flat2 : DataW Unit → List Value
 | .agg l => l.flatMap flat1
 | d => flat1 d
def flat3 : DataW Unit → List Value
 | .agg l => l.flatMap flat2
 | d => flat1 d
def lay1 (h : Array Go.Obj) (g : Nat) (d : DataW Unit) : Array Go.Obj := h.modify g fun
 | .cells _ t fr => .cells (flat3 d).toArray t fr
 | o => o
end
end Go.Proofs.YtbkpngmpdnnloaaGreatDoor.V
