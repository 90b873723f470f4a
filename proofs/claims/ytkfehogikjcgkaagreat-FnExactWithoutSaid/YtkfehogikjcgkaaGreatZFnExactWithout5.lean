/- PROVED HERE: what the functions that the law FnExactWithout reaches do in memory, each as a plain Lean function, and what these tell: part 6 of 7 of the proof of that law; no condition beyond those written out at each theorem. -/
import Derived.Test.YtkfehogikjcgkaaGreatZFnExactWithout4
namespace Go.Proofs.YtkfehogikjcgkaaGreat.V
open Go
theorem PureFnExactWithout : ∀ (a0 : tFuncD) (a1 : List Int), Wf tFunc a0 → Wf (.list (.int .i64)) a1 → ∃ k, laws_FnExactWithout.f k a0 a1 = some (((true, ()), ()), ()) := by
  intro a to hw hwt
  refine Ev.ex (g := fun k => laws_FnExactWithout.f k a to) ?_
  unfold laws_FnExactWithout.f
  by_cases hbig : (1048576 : Int) < (to.length : Int)
  · exact Ev.dp hbig (Ev.cst rfl)
  have ht : to.length ≤ 1048576 := by omega
  have hts : Small (.list (.int .i64)) to := ⟨ht, fun _ _ => trivial⟩
  refine Ev.dn hbig ?_
  obtain ⟨s, e, _, s2, c⟩ := szFunc a hw 1048576 (by omega) (by omega)
  refine Ev.bind e ?_
  by_cases hs : s < 0
  · exact Ev.pos (dpos hs) (Ev.cst rfl)
  have h := c (by omega)
  have hg : Small tFunc (woR a to) := woR_small h
  obtain ⟨n1, p1, b1, em, hn1, hn2, _⟩ := markHeld a.2.1 h.1 h.2.2.1
  obtain ⟨n2, p2, b2, em2, hn3, hn4, eh⟩ := markHeld (woR a to).2.1 hg.1 hg.2.2.1
  have heq : (!decide (n2 = n2)) = false := by simp
  have hb : (!(woC a to == woC a to)) = false := by simp
  refine Ev.neg (dneg hs) (Ev.bind (toFunc h) (Ev.bind (toInts hts) (Ev.bind (specWo h ht) (Ev.bind (toFunc h) (Ev.bind (toInts hts) (Ev.bind (implWo h ht) (Ev.yes (eqFunc hg) (Ev.neg hb (Ev.bind (toFunc h) (Ev.yes (eqFunc h) (Ev.bind (toInts hts) (Ev.yes (eqInts hts) (Ev.bind em ?_)))))))))))))
  refine Ev.bind (markInts to n1 ht hn1 (by omega)) (Ev.dn (show ¬ n1 + (to.length : Int) < 0 by omega) (Ev.yes (eqFunc hg) (Ev.neg hb (Ev.bind em2 (Ev.bind eh (Ev.dn (show ¬ n2 < 0 by omega) (Ev.neg heq ?_)))))))
  exact Ev.bind (toFunc h) (Ev.bind (toInts hts) (Ev.bind (implWo h ht) (Ev.yes (eqFunc hg) (Ev.neg hb (Ev.bind eh (Ev.dn (show ¬ n2 < 0 by omega) (Ev.neg heq (Ev.cst rfl))))))))
end Go.Proofs.YtkfehogikjcgkaaGreat.V
