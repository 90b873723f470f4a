/- PROVED HERE: what the functions that the law FnExactInstText reaches do in memory, each as a plain Lean function, and what these tell: part 4 of 5 of the proof of that law; no condition beyond those written out at each theorem. -/
import Derived.Test.YtkfehogikjcgkaaDoorZFnExactInstText2
namespace Go.Proofs.YtkfehogikjcgkaaDoor.V
open Go
set_option linter.unusedVariables false
set_option linter.unusedSimpArgs false
noncomputable section
theorem PureFnExactInstText : ∀ (a0 : tInstD), Wf tInst a0 → ∃ k, laws_FnExactInstText.f k a0 = some (((true, ()), ()), ()) := by
 intro i hw
 refine Ev.ex (g := fun k => laws_FnExactInstText.f k i) ?_
 unfold laws_FnExactInstText.f
 obtain ⟨s, e, _, s2, c⟩ := szInst i hw 1048576 (by omega) (by omega)
 refine Ev.bind e ?_
 by_cases hs : s < 0
 ·exact Ev.pos (dpos hs) (Ev.cst rfl)
 have h := c (by omega)
 have hl : i.2.2.2.2.2.2.1.length ≤ 1048576 := h.2.2.2.2.2.2.1.1
 have hq : (!strEq (txtF i) (txtF i)) = false := by simp [strEq]
 exact Ev.neg (dneg hs) (Ev.bind (toInst h) (Ev.bind (specTxt hl) (Ev.bind (toInst h) (Ev.bind (implTxt hl) (Ev.neg hq (Ev.bind (toInst h) (Ev.yes (eqInst h) (Ev.cst rfl))))))))
theorem gPow : Tryd.prog.globalNamed "internal/strconv.uint64pow10" = some 2 := by kernel_rfl
theorem gPowType : (Tryd.prog.globals[2]?).map (·.type) = some 100 := by kernel_rfl
theorem lpD {W : World} (hm : ∃ m, W.cell? ⟨3, 0, none⟩ = some (.int .i64 m)) (ht : Lib.TabIs Tryd.prog W "internal/strconv.uint64pow10" .u64 Lib.pow10Tab) : LX (gh0 W).F W := by
 obtain ⟨m, hm⟩ := hm
 have h3 : 3 < W.heap.size := World.block_lt_of_cell? W _ hm
 have ht' := ht
 unfold Lib.TabIs World.var? at ht'
 rw [gPow, Option.bind_some] at ht'
 have h2 : 2 < W.heap.size := by
  by_cases h : 2 < W.heap.size
  ·exact h
  ·rw [Array.getElem?_eq_none (by omega)] at ht'; cases ht'
 refine ⟨[(3, W.heap[3]), (2, W.heap[2])], fun w hw => ⟨⟨m, ?_⟩, ?_⟩, ?_⟩
 ·have e := hw (3, W.heap[3]) (by simp)
  have e' : w.heap[3]? = W.heap[3]? := e.trans (Array.getElem?_eq_getElem h3).symm
  rw [← hm]
  unfold World.cell?
  rw [e']
 ·have e := hw (2, W.heap[2]) (by simp)
  have e' : w.heap[2]? = W.heap[2]? := e.trans (Array.getElem?_eq_getElem h2).symm
  unfold Lib.TabIs World.var?
  rw [gPow, Option.bind_some, e']
  exact ht'
 ·intro x hx
  rcases List.mem_cons.1 hx with rfl | hx
  ·exact ⟨h3, Array.getElem?_eq_getElem h3⟩
  ·rw [List.mem_singleton.1 hx]
   exact ⟨h2, Array.getElem?_eq_getElem h2⟩
/-- The table of a row's list, wherever it stands on it. -/
theorem tabD {W : World} {d : DataW Unit} {rest : List (String × DataW Unit)} {ps : List MemPlace} (hd : d = Lib.tabData .u64 Lib.pow10Tab) (h : DataW.LaidVars Tryd.prog W (("internal/strconv.uint64pow10", d) :: rest) ps) : Lib.TabIs Tryd.prog W "internal/strconv.uint64pow10" .u64 Lib.pow10Tab := by
 obtain ⟨g', t', cs, fuel, p, q, hg', ht', hvar, hd', _, _⟩ := h
 obtain rfl := Option.some.inj (gPow.symm.trans hg')
 obtain rfl := Option.some.inj (gPowType.symm.trans ht')
 rw [hd] at hd'
 unfold Lib.TabIs
 rw [hvar, ← Lib.cells_of_tab Tryd.underlying100 (by kernel_rfl) (by kernel_rfl) (by kernel_rfl) hd']
theorem laid_next {W : World} {x : String × DataW Unit} {rest : List (String × DataW Unit)} {ps : List MemPlace} (h : DataW.LaidVars Tryd.prog W (x :: rest) ps) : ∃ q, DataW.LaidVars Tryd.prog W rest q := by
 obtain ⟨_, _, _, _, _, q, _, _, _, _, h, _⟩ := h
 exact ⟨q, h⟩
/-- The cells of a table of numbers, and of a table of rows of numbers. -/
def flat1 : DataW Unit → List Value
 | .lit (.int k z) => [.int k z]
 | _ => []
def flat2 : DataW Unit → List Value
 | .agg l => l.flatMap flat1
 | d => flat1 d
def flat3 : DataW Unit → List Value
 | .agg l => l.flatMap flat2
 | d => flat1 d
def lay1 (h : Array Go.Obj) (g : Nat) (d : DataW Unit) : Array Go.Obj := h.modify g fun
 | .cells _ t fr => .cells (flat3 d).toArray t fr
 | o => o
end
end Go.Proofs.YtkfehogikjcgkaaDoor.V
